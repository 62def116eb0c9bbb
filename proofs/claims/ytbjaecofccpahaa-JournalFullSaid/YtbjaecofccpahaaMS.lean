/-
  Walks of package journal: frames, records; the reference's frames.
-/
import Derived.Test.YtbjaecofccpahaaMO
import Derived.Test.YtbjaecofccpahaaMR
namespace Go.Proofs.Ytbjaecofccpahaa
open Go Go.RowKit
set_option linter.unusedVariables false
set_option linter.unusedSimpArgs false
set_option maxRecDepth 20000
set_option synthInstance.maxSize 100000
set_option synthInstance.maxHeartbeats 400000
section
variable {W0 : World} {L : List HP}
theorem wr_newO {ops : Array Oper} {Q : Exit → Act → World → Prop} {rest : List Oper} {a : Act} {p : Nat} (k : OL Try.prog W0 (wr p [] :: L) ops Q rest a) : OL Try.prog W0 (cel p [.slice none 0 0] 49 :: L) ops Q rest a :=
  ⟨fun w s => k.run w (wr_sub.st ((s.own_nil 5 eB).weak fun _ _ h => h.swap))⟩
theorem Frame_ct {i : Int} {v : Value} {x : List UInt8} (hv : Src L eB v x) (h1 : -9223372036854775808 ≤ i) (h2 : i ≤ 9223372036854775807) (hx : x.length ≤ 100000000) :
    CT Try.prog 23 #[.int .i64 i, v] W0 L fun r L' => ∃ A c, r = .slice A (frameF i x).length c ∧ L' = own 5 eB (.slice A (frameF i x).length c) (frameF i x) :: L := by
  have hcl := coreF_len h1 h2 (x := x) (by omega)
  have hfl := frameF_len h1 h2 (x := x) (by omega)
  have hz := vlen (zig_lt h1 h2)
  have hvx := vlen (m := x.length) (by omega)
  refine CT_enter Try.func23 rfl ?_; (simp only [Try.ntmps23, List.size_toArray, List.length_cons, List.length_nil, Nat.reduceAdd, Nat.reduceSub, Array.replicate_succ, Array.replicate_zero, List.push_toArray, List.append_toArray, List.nil_append, List.cons_append])
  repeat' (first | refine go ?_ | intro _ | (apply cG; first | refine cT ?_ | refine cF ?_ | refine cS (fun _ => ?_) fun _ => ?_) | (apply gW; refine sW ?_) | (apply gI; refine sI ?_) | (apply gE; refine sE ?_) | (apply gP; refine sP ?_) | (apply gC; refine sC ?_) | (apply gD; refine sD ?_) | fail)
  refine wr_newO ?_
  refine O_sub (fun m h s => s.swap) ?_
  refine wr_newO ?_
  refine O_d (dy_call ArgsI.pf (by first | exact rfl | trivial | (intro a b; rfl)) (wInt_ct h1 h2 (by decide))) ?_; rintro _ _ ⟨_, rfl, rfl⟩; refine O_n ?_
  repeat' (first | refine go ?_ | intro _ | (apply cG; first | refine cT ?_ | refine cF ?_ | refine cS (fun _ => ?_) fun _ => ?_) | (apply gW; refine sW ?_) | (apply gI; refine sI ?_) | (apply gE; refine sE ?_) | (apply gP; refine sP ?_) | (apply gC; refine sC ?_) | (apply gD; refine sD ?_) | fail)
  refine O_d (dy_call ArgsI.pf (by first | exact rfl | trivial | (intro a b; rfl)) (wRaw_ct (v := v) (l := x) hv.c (by omega) (by rw [List.nil_append]; omega))) ?_; rintro _ _ ⟨_, rfl, rfl⟩; refine O_n ?_
  have hc : [] ++ varint (zig i) ++ varint x.length ++ x = coreF i x := by unfold coreF; simp
  rw [hc]
  obtain ⟨c, hcd⟩ : ∃ c, coreF i x = c := ⟨_, rfl⟩
  rw [hcd] at hcl ⊢
  repeat' (first | refine go ?_ | intro _ | (apply cG; first | refine cT ?_ | refine cF ?_ | refine cS (fun _ => ?_) fun _ => ?_) | (apply gW; refine sW ?_) | (apply gI; refine sI ?_) | (apply gE; refine sE ?_) | (apply gP; refine sP ?_) | (apply gC; refine sC ?_) | (apply gD; refine sD ?_) | fail)
  refine O_d (dy_call ArgsI.pf (by first | exact rfl | trivial | (intro a b; rfl)) (wDone_ct (by omega))) ?_; rintro _ _ ⟨_, ⟨A1, c1, rfl, rfl⟩, rfl⟩; refine O_n ?_
  refine O_d (dy_call ArgsI.pf (by first | exact rfl | trivial | (intro a b; rfl)) (CT.pull (i := 2) (by rfl) (wRaw_ct (l := c) Sc.pf (by omega) (by decide)))) ?_; rintro _ _ ⟨_, rfl, rfl⟩; refine O_n ?_
  repeat' (first | refine go ?_ | intro _ | (apply cG; first | refine cT ?_ | refine cF ?_ | refine cS (fun _ => ?_) fun _ => ?_) | (apply gW; refine sW ?_) | (apply gI; refine sI ?_) | (apply gE; refine sE ?_) | (apply gP; refine sP ?_) | (apply gC; refine sC ?_) | (apply gD; refine sD ?_) | fail)
  rw [List.nil_append]
  refine O_d (dy_call ArgsI.pf (by first | exact rfl | trivial | (intro a b; rfl)) (CT.pull (i := 2) (by rfl) (wDone_ct (by omega)))) ?_; rintro _ _ ⟨_, ⟨A2, c2, rfl, rfl⟩, rfl⟩; refine O_n ?_
  refine O_d (dy_call ArgsI.pf (by first | exact rfl | trivial | (intro a b; rfl)) (hBytes_ct (s := lblF) (l := c) Sc.pf (by decide) (by omega) rfl)) ?_; rintro _ _ ⟨_, ⟨rfl, hLL⟩, rfl⟩; replace hLL := hLL.symm; subst hLL; refine O_n ?_
  have hs : bytesW lblF.data.toList c = UInt64.ofNat (sumF i x) := by unfold sumF; rw [hcd]; simp
  have hsn : (bytesW lblF.data.toList c).toNat = sumF i x := by unfold sumF; rw [hcd]
  have hsl := sumF_lt i x
  have hvc := vlen (m := c.length) (by omega)
  refine O_d (dy_call ArgsI.pf (by first | exact rfl | trivial | (intro a b; rfl)) (CT.pull (i := 2) (by rfl) (wUint_ct (m := (bytesW lblF.data.toList c).toNat) (by rw [hsn]; exact hsl) (by rw [List.length_append]; omega)))) ?_; rintro _ _ ⟨_, rfl, rfl⟩; refine O_n ?_
  rw [hsn]
  have hf : varint c.length ++ c ++ varint (sumF i x) = frameF i x := by unfold frameF; rw [hcd]
  rw [hf]
  repeat' (first | refine go ?_ | intro _ | (apply cG; first | refine cT ?_ | refine cF ?_ | refine cS (fun _ => ?_) fun _ => ?_) | (apply gW; refine sW ?_) | (apply gI; refine sI ?_) | (apply gE; refine sE ?_) | (apply gP; refine sP ?_) | (apply gC; refine sC ?_) | (apply gD; refine sD ?_) | fail)
  refine O_d (dy_call ArgsI.pf (by first | exact rfl | trivial | (intro a b; rfl)) (wDone_ct (by omega))) ?_; rintro _ _ ⟨_, ⟨A3, c3, rfl, rfl⟩, rfl⟩; refine O_n ?_
  repeat' (first | refine go ?_ | intro _ | (apply cG; first | refine cT ?_ | refine cF ?_ | refine cS (fun _ => ?_) fun _ => ?_) | (apply gW; refine sW ?_) | (apply gI; refine sI ?_) | (apply gE; refine sE ?_) | (apply gP; refine sP ?_) | (apply gC; refine sC ?_) | (apply gD; refine sD ?_) | fail)
  refine E_res1 (by rfl) (by rfl) ⟨_, _, rfl, rfl⟩ Sb
theorem fCore_ct {i : Int} {v : Value} {x : List UInt8} (hv : Src L eB v x) (h1 : -9223372036854775808 ≤ i) (h2 : i ≤ 9223372036854775807) (hx : x.length ≤ 100000000) :
    CT Try.prog 47 #[.int .i64 i, v] W0 L fun r L' => ∃ A c, r = .slice A (coreF i x).length c ∧ L' = own 5 eB (.slice A (coreF i x).length c) (coreF i x) :: L := by
  have hz := vlen (zig_lt h1 h2)
  have hvx := vlen (m := x.length) (by omega)
  refine CT_enter Try.func47 rfl ?_; (simp only [Try.ntmps47, List.size_toArray, List.length_cons, List.length_nil, Nat.reduceAdd, Nat.reduceSub, Array.replicate_succ, Array.replicate_zero, List.push_toArray, List.append_toArray, List.nil_append, List.cons_append])
  repeat' (first | refine go ?_ | intro _ | (apply cG; first | refine cT ?_ | refine cF ?_ | refine cS (fun _ => ?_) fun _ => ?_) | (apply gW; refine sW ?_) | (apply gI; refine sI ?_) | (apply gE; refine sE ?_) | (apply gP; refine sP ?_) | (apply gC; refine sC ?_) | (apply gD; refine sD ?_) | fail)
  refine O_d (dy_call ArgsI.pf (by first | exact rfl | trivial | (intro a b; rfl)) (fInt_ct h1 h2)) ?_; rintro _ _ ⟨_, ⟨A1, c1, rfl, rfl⟩, rfl⟩; refine O_n ?_
  repeat' (first | refine go ?_ | intro _ | (apply cG; first | refine cT ?_ | refine cF ?_ | refine cS (fun _ => ?_) fun _ => ?_) | (apply gW; refine sW ?_) | (apply gI; refine sI ?_) | (apply gE; refine sE ?_) | (apply gP; refine sP ?_) | (apply gC; refine sC ?_) | (apply gD; refine sD ?_) | fail)
  refine O_d (dy_call ArgsI.pf (by first | exact rfl | trivial | (intro a b; rfl)) (fRaw_ct (v := v) (l := x) hv.c (by omega))) ?_; rintro _ _ ⟨_, ⟨A2, c2, rfl, rfl⟩, rfl⟩; refine O_n ?_
  have hlen : (varint x.length ++ x).length = (varint x.length).length + x.length := List.length_append
  repeat' (first | refine go ?_ | intro _ | (apply cG; first | refine cT ?_ | refine cF ?_ | refine cS (fun _ => ?_) fun _ => ?_) | (apply gW; refine sW ?_) | (apply gI; refine sI ?_) | (apply gE; refine sE ?_) | (apply gP; refine sP ?_) | (apply gC; refine sC ?_) | (apply gD; refine sD ?_) | fail)
  have hf : varint (zig i) ++ (varint x.length ++ x) = coreF i x := rfl
  rw [hf]
  have hfl : (varint (zig i)).length + ((varint x.length).length + x.length) = (coreF i x).length := by rw [← hf]; simp only [List.length_append]
  rw [hfl]
  refine E_res1 (by rfl) (by rfl) ⟨_, _, rfl, rfl⟩ Sb
theorem fFrame_ct {i : Int} {v : Value} {x : List UInt8} (hv : Src L eB v x) (h1 : -9223372036854775808 ≤ i) (h2 : i ≤ 9223372036854775807) (hx : x.length ≤ 100000000) :
    CT Try.prog 24 #[.int .i64 i, v] W0 L fun r L' => ∃ A c, r = .slice A (frameF i x).length c ∧ L' = own 5 eB (.slice A (frameF i x).length c) (frameF i x) :: L := by
  have hcl := coreF_len h1 h2 (x := x) (by omega)
  have hz := vlen (zig_lt h1 h2)
  have hvx := vlen (m := x.length) (by omega)
  refine CT_enter Try.func24 rfl ?_; (simp only [Try.ntmps24, List.size_toArray, List.length_cons, List.length_nil, Nat.reduceAdd, Nat.reduceSub, Array.replicate_succ, Array.replicate_zero, List.push_toArray, List.append_toArray, List.nil_append, List.cons_append])
  repeat' (first | refine go ?_ | intro _ | (apply cG; first | refine cT ?_ | refine cF ?_ | refine cS (fun _ => ?_) fun _ => ?_) | (apply gW; refine sW ?_) | (apply gI; refine sI ?_) | (apply gE; refine sE ?_) | (apply gP; refine sP ?_) | (apply gC; refine sC ?_) | (apply gD; refine sD ?_) | fail)
  refine O_d (dy_call ArgsI.pf (by first | exact rfl | trivial | (intro a b; rfl)) (fCore_ct hv h1 h2 (by omega))) ?_; rintro _ _ ⟨_, ⟨A1, c1, rfl, rfl⟩, rfl⟩; refine O_n ?_
  obtain ⟨c, hcd⟩ : ∃ c, coreF i x = c := ⟨_, rfl⟩
  rw [hcd] at hcl ⊢
  have hvc := vlen (m := c.length) (by omega)
  repeat' (first | refine go ?_ | intro _ | (apply cG; first | refine cT ?_ | refine cF ?_ | refine cS (fun _ => ?_) fun _ => ?_) | (apply gW; refine sW ?_) | (apply gI; refine sI ?_) | (apply gE; refine sE ?_) | (apply gP; refine sP ?_) | (apply gC; refine sC ?_) | (apply gD; refine sD ?_) | fail)
  refine O_d (dy_call ArgsI.pf (by first | exact rfl | trivial | (intro a b; rfl)) (fRaw_ct (l := c) Sc.pf (by omega))) ?_; rintro _ _ ⟨_, ⟨A2, c2, rfl, rfl⟩, rfl⟩; refine O_n ?_
  repeat' (first | refine go ?_ | intro _ | (apply cG; first | refine cT ?_ | refine cF ?_ | refine cS (fun _ => ?_) fun _ => ?_) | (apply gW; refine sW ?_) | (apply gI; refine sI ?_) | (apply gE; refine sE ?_) | (apply gP; refine sP ?_) | (apply gC; refine sC ?_) | (apply gD; refine sD ?_) | fail)
  refine O_d (dy_call ArgsI.pf (by first | exact rfl | trivial | (intro a b; rfl)) (rBytes_ct (s := lblF) (l := c) Sc.pf (by decide) (by omega) rfl)) ?_; rintro _ _ ⟨_, ⟨rfl, hLL⟩, rfl⟩; replace hLL := hLL.symm; subst hLL; refine O_n ?_
  have hsn : (bytesW lblF.data.toList c).toNat = sumF i x := by unfold sumF; rw [hcd]
  have hsl := sumF_lt i x
  have hvs := vlen hsl
  refine O_d (dy_call ArgsI.pf (by first | exact rfl | trivial | (intro a b; rfl)) (fUint_ct (m := (bytesW lblF.data.toList c).toNat) (by rw [hsn]; exact hsl))) ?_; rintro _ _ ⟨_, ⟨A3, c3, rfl, rfl⟩, rfl⟩; refine O_n ?_
  rw [hsn]
  have hlen : (varint c.length ++ c).length = (varint c.length).length + c.length := List.length_append
  repeat' (first | refine go ?_ | intro _ | (apply cG; first | refine cT ?_ | refine cF ?_ | refine cS (fun _ => ?_) fun _ => ?_) | (apply gW; refine sW ?_) | (apply gI; refine sI ?_) | (apply gE; refine sE ?_) | (apply gP; refine sP ?_) | (apply gC; refine sC ?_) | (apply gD; refine sD ?_) | fail)
  have hf : varint c.length ++ c ++ varint (sumF i x) = frameF i x := by unfold frameF; rw [hcd]
  rw [hf]
  have hfl : (varint c.length).length + c.length + (varint (sumF i x)).length = (frameF i x).length := by rw [← hf]; simp only [List.length_append]
  rw [hfl]
  refine E_res1 (by rfl) (by rfl) ⟨_, _, rfl, rfl⟩ Sb
theorem Equal_ct {va vb : Value} {la lb : List UInt8} {q : Bool} (ha : Src L eB va la) (hb : Src L eB vb lb) (hq : (la == lb) = q) : CT Try.prog 81 #[va, vb] W0 L fun r L' => r = .bool q ∧ L' = L := by
  have ha : Sc L va eB la := ⟨ha⟩
  have hb : Sc L vb eB lb := ⟨hb⟩
  refine CT_enter Try.func81 rfl ?_; (simp only [Try.ntmps81, List.size_toArray, List.length_cons, List.length_nil, Nat.reduceAdd, Nat.reduceSub, Array.replicate_succ, Array.replicate_zero, List.push_toArray, List.append_toArray, List.nil_append, List.cons_append])
  repeat' (first | refine go ?_ | intro _ | (apply cG; first | refine cT ?_ | refine cF ?_ | refine cS (fun _ => ?_) fun _ => ?_) | (apply gW; refine sW ?_) | (apply gI; refine sI ?_) | (apply gE; refine sE ?_) | (apply gP; refine sP ?_) | (apply gC; refine sC ?_) | (apply gD; refine sD ?_) | fail)
  refine O_s (sv_eqs (c := q) (h := ?_)) ?_
  · simpa using hq
  repeat' (first | refine go ?_ | intro _ | (apply cG; first | refine cT ?_ | refine cF ?_ | refine cS (fun _ => ?_) fun _ => ?_) | (apply gW; refine sW ?_) | (apply gI; refine sI ?_) | (apply gE; refine sE ?_) | (apply gP; refine sP ?_) | (apply gC; refine sC ?_) | (apply gD; refine sD ?_) | fail)
  refine E_res1 (by rfl) (by rfl) ⟨rfl, rfl⟩ Sb
theorem HasPrefix_ct {va vb : Value} {la lb : List UInt8} {q : Bool} (ha : rd eB va la ∈ L) (hb : Src L eB vb lb) (hq : lb.isPrefixOf la = q) : CT Try.prog 69 #[va, vb] W0 L fun r L' => r = .bool q ∧ L' = L := by
  refine CT_fact (fun w s => ((Src.sl (.inl ha) s).form)) ?_
  rintro ⟨Aa, ca, rfl, hca⟩
  refine CT_fact (fun w s => ((Src.sl hb s).form)) ?_
  rintro ⟨Ab, cb, rfl, hcb⟩
  have hb' : Sc L (.slice Ab lb.length cb) eB lb := ⟨hb⟩
  refine CT_enter Try.func69 rfl ?_; (simp only [Try.ntmps69, List.size_toArray, List.length_cons, List.length_nil, Nat.reduceAdd, Nat.reduceSub, Array.replicate_succ, Array.replicate_zero, List.push_toArray, List.append_toArray, List.nil_append, List.cons_append])
  refine C_sub (sub_dup ha) ?_
  by_cases hle : lb.length ≤ la.length
  · repeat' (first | refine go ?_ | intro _ | (apply cG; first | refine cT ?_ | refine cF ?_ | refine cS (fun _ => ?_) fun _ => ?_) | (apply gW; refine sW ?_) | (apply gI; refine sI ?_) | (apply gE; refine sE ?_) | (apply gP; refine sP ?_) | (apply gC; refine sC ?_) | (apply gD; refine sD ?_) | fail)
    rw [List.drop_zero]
    refine O_d (dy_call ArgsI.pf (by first | exact rfl | trivial | (intro a b; rfl)) (Equal_ct (la := la.take lb.length) (lb := lb) (.inl (.head _)) (hb.c.c) rfl)) ?_; rintro _ _ ⟨_, ⟨rfl, hLL⟩, rfl⟩; replace hLL := hLL.symm; subst hLL; refine O_n ?_
    have he : (la.take lb.length == lb) = q := by
      rw [← hq]
      by_cases h : la.take lb.length = lb
      · rw [h, beq_self_eq_true]
        symm
        rw [List.isPrefixOf_iff_prefix, List.prefix_iff_eq_take]; exact h.symm
      · have h1 : (la.take lb.length == lb) = false := by simpa using h
        rw [h1]
        symm
        rw [Bool.eq_false_iff]
        intro h2
        rw [List.isPrefixOf_iff_prefix, List.prefix_iff_eq_take] at h2
        exact h h2.symm
    rw [he]
    repeat' (first | refine go ?_ | intro _ | (apply cG; first | refine cT ?_ | refine cF ?_ | refine cS (fun _ => ?_) fun _ => ?_) | (apply gW; refine sW ?_) | (apply gI; refine sI ?_) | (apply gE; refine sE ?_) | (apply gP; refine sP ?_) | (apply gC; refine sC ?_) | (apply gD; refine sD ?_) | fail)
    refine E_res1 (by rfl) (by rfl) ⟨rfl, rfl⟩ Sb
  · have hf : q = false := by
      rw [← hq, Bool.eq_false_iff]
      intro h2
      rw [List.isPrefixOf_iff_prefix] at h2
      exact hle h2.length_le
    subst hf
    repeat' (first | refine go ?_ | intro _ | (apply cG; first | refine cT ?_ | refine cF ?_ | refine cS (fun _ => ?_) fun _ => ?_) | (apply gW; refine sW ?_) | (apply gI; refine sI ?_) | (apply gE; refine sE ?_) | (apply gP; refine sP ?_) | (apply gC; refine sC ?_) | (apply gD; refine sD ?_) | fail)
    refine E_res1 (by rfl) (by rfl) ⟨rfl, rfl⟩ Sb
end
end Go.Proofs.Ytbjaecofccpahaa
namespace Go.Proofs.Ytbjaecofccpahaa
open Go Go.RowKit
set_option linter.unusedVariables false
set_option linter.unusedSimpArgs false
set_option maxRecDepth 20000
set_option synthInstance.maxSize 100000
set_option synthInstance.maxHeartbeats 400000
section
variable {W0 : World} {L : List HP}
theorem record_ct {v : Value} {b x : List UInt8} (hb : rd eB v b ∈ L) (hl : b.length ≤ 100000000) (hx : recF b = x) : CT Try.prog 68 #[v] W0 L fun r L' => ∃ A c, r = .slice A x.length c ∧ L' = own 5 eB (.slice A x.length c) x :: L := by
  refine CT_fact (fun w s => ((Src.sl (.inl hb) s).form)) ?_
  rintro ⟨Aa, ca, rfl, hca⟩
  obtain ⟨k1, hk1⟩ : ∃ k1 : Nat, k1 = min b.length 10 := ⟨_, rfl⟩
  have ek1 : (if (10 : Int) < (b.length : Int) then (10 : Int) else (b.length : Int)) = (k1 : Int) := by split <;> omega
  obtain ⟨m, hm⟩ : ∃ m, (rU (b.take 10, 0)).1 = m := ⟨_, rfl⟩
  have hm64 : m < 18446744073709551616 := by rw [← hm]; exact rU_lt _
  have hbt : b.take k1 = b.take 10 := by
    rw [hk1]
    rcases Nat.lt_or_ge b.length 10 with h | h
    · rw [Nat.min_eq_left (by omega), List.take_of_length_le (Nat.le_refl _), List.take_of_length_le (by omega)]
    · rw [Nat.min_eq_right h]
  obtain ⟨k2, hk2⟩ : ∃ k2 : Nat, k2 = min m b.length := ⟨_, rfl⟩
  have ek2 : (if (b.length : Int) < (m : Int) then (b.length : Int) else (m : Int)) = (k2 : Int) := by split <;> omega
  obtain ⟨k3, hk3⟩ : ∃ k3 : Nat, k3 = min b.length (10 + k2) := ⟨_, rfl⟩
  have ek3 : (if (10 : Int) + (k2 : Int) < (b.length : Int) then (10 : Int) + (k2 : Int) else (b.length : Int)) = (k3 : Int) := by split <;> omega
  have hcut : b.take k3 = cutF b := by rw [hk3, hk2, ← hm]; rfl
  have hk1l : k1 ≤ b.length := by omega
  have hk3l : k3 ≤ b.length := by omega
  obtain ⟨cut, hcut2⟩ : ∃ c, cutF b = c := ⟨_, rfl⟩
  have hcl : cut.length ≤ 100000000 := by rw [← hcut2, ← hcut, List.length_take]; omega
  obtain ⟨core, s1, hr1⟩ : ∃ core s1, rList rNext (cut, 0) = (core, s1) := ⟨_, _, rfl⟩
  have hcore : core.length ≤ 100000000 := by have := rRaw_len (cut, 0); rw [hr1] at this; dsimp only at this; omega
  obtain ⟨n, b2, e2, hr2⟩ : ∃ n b2 e2, rI (core, 0) = (n, (b2, e2)) := ⟨_, _, _, rfl⟩
  have hb2 : b2.length ≤ 100000000 := by have := rI_len (core, 0); rw [hr2] at this; dsimp only at this; omega
  obtain ⟨s2, hr3⟩ : ∃ s2, rList rNext (b2, e2) = (x, s2) := ⟨_, by
    rw [← hx]; unfold recF; rw [hcut2, hr1]; dsimp only; rw [hr2]⟩
  have hmin : min m b.length = k2 := hk2.symm
  clear hk1 hk2 hk3
  refine CT_enter Try.func68 rfl ?_; (simp only [Try.ntmps68, List.size_toArray, List.length_cons, List.length_nil, Nat.reduceAdd, Nat.reduceSub, Array.replicate_succ, Array.replicate_zero, List.push_toArray, List.append_toArray, List.nil_append, List.cons_append])
  refine C_sub (sub_dup hb) ?_
  repeat' (first | refine go ?_ | intro _ | (apply cG; first | refine cT ?_ | refine cF ?_ | refine cS (fun _ => ?_) fun _ => ?_) | fail)
  apply gW
  refine sW (r := (k1 : Int)) ?_ ek1
  repeat' (first | refine go ?_ | intro _ | (apply cG; first | refine cT ?_ | refine cF ?_ | refine cS (fun _ => ?_) fun _ => ?_) | (apply gW; refine sW ?_) | (apply gI; refine sI ?_) | (apply gE; refine sE ?_) | (apply gP; refine sP ?_) | (apply gC; refine sC ?_) | (apply gD; refine sD ?_) | fail)
  rw [List.drop_zero, hbt]
  refine O_d (dy_call ArgsI.pf (by first | exact rfl | trivial | (intro a b; rfl)) (Read_ct (l := b.take 10) (.inl (.head _)) (by rw [List.length_take]; omega))) ?_; rintro _ _ ⟨_, ⟨p1, rfl, rfl⟩, rfl⟩; refine O_n ?_
  repeat' (first | refine go ?_ | intro _ | (apply cG; first | refine cT ?_ | refine cF ?_ | refine cS (fun _ => ?_) fun _ => ?_) | (apply gW; refine sW ?_) | (apply gI; refine sI ?_) | (apply gE; refine sE ?_) | (apply gP; refine sP ?_) | (apply gC; refine sC ?_) | (apply gD; refine sD ?_) | fail)
  refine O_d (dy_call ArgsI.pf (by first | exact rfl | trivial | (intro a b; rfl)) (Uint_ct (m := m) (bs' := (rU (b.take 10, 0)).2.1) (e' := (rU (b.take 10, 0)).2.2) (by rw [← hm]) (by rw [List.length_take]; omega))) ?_; rintro _ _ ⟨_, ⟨rfl, rfl⟩, rfl⟩; refine O_n ?_
  repeat' (first | refine go ?_ | intro _ | (apply cG; first | refine cT ?_ | refine cF ?_ | refine cS (fun _ => ?_) fun _ => ?_) | fail)
  apply gW
  refine sW ?_
  repeat' (first | refine go ?_ | intro _ | (apply cG; first | refine cT ?_ | refine cF ?_ | refine cS (fun _ => ?_) fun _ => ?_) | fail)
  apply gW
  refine sW (r := (k2 : Int)) ?_ ek2
  repeat' (first | refine go ?_ | intro _ | (apply cG; first | refine cT ?_ | refine cF ?_ | refine cS (fun _ => ?_) fun _ => ?_) | fail)
  apply gW
  refine sW ?_
  repeat' (first | refine go ?_ | intro _ | (apply cG; first | refine cT ?_ | refine cF ?_ | refine cS (fun _ => ?_) fun _ => ?_) | fail)
  apply gW
  refine sW (r := (k3 : Int)) ?_ ek3
  refine O_sub (sub_dup (.tail _ (.tail _ (.head _)))) ?_
  repeat' (first | refine go ?_ | intro _ | (apply cG; first | refine cT ?_ | refine cF ?_ | refine cS (fun _ => ?_) fun _ => ?_) | (apply gW; refine sW ?_) | (apply gI; refine sI ?_) | (apply gE; refine sE ?_) | (apply gP; refine sP ?_) | (apply gC; refine sC ?_) | (apply gD; refine sD ?_) | fail)
  rw [List.drop_zero, hcut, hcut2]
  refine O_d (dy_call ArgsI.pf (by first | exact rfl | trivial | (intro a b; rfl)) (Read_ct (l := cut) (.inl (.head _)) (by omega))) ?_; rintro _ _ ⟨_, ⟨p2, rfl, rfl⟩, rfl⟩; refine O_n ?_
  repeat' (first | refine go ?_ | intro _ | (apply cG; first | refine cT ?_ | refine cF ?_ | refine cS (fun _ => ?_) fun _ => ?_) | (apply gW; refine sW ?_) | (apply gI; refine sI ?_) | (apply gE; refine sE ?_) | (apply gP; refine sP ?_) | (apply gC; refine sC ?_) | (apply gD; refine sD ?_) | fail)
  refine O_d (dy_call ArgsI.pf (by first | exact rfl | trivial | (intro a b; rfl)) (Raw_ct hr1 (by omega))) ?_; rintro _ _ ⟨_, ⟨A3, c3, rfl, rfl⟩, rfl⟩; refine O_n ?_
  repeat' (first | refine go ?_ | intro _ | (apply cG; first | refine cT ?_ | refine cF ?_ | refine cS (fun _ => ?_) fun _ => ?_) | (apply gW; refine sW ?_) | (apply gI; refine sI ?_) | (apply gE; refine sE ?_) | (apply gP; refine sP ?_) | (apply gC; refine sC ?_) | (apply gD; refine sD ?_) | fail)
  refine O_d (dy_call ArgsI.pf (by first | exact rfl | trivial | (intro a b; rfl)) (Read_ct (l := core) Sc.pf (by omega))) ?_; rintro _ _ ⟨_, ⟨p3, rfl, rfl⟩, rfl⟩; refine O_n ?_
  repeat' (first | refine go ?_ | intro _ | (apply cG; first | refine cT ?_ | refine cF ?_ | refine cS (fun _ => ?_) fun _ => ?_) | (apply gW; refine sW ?_) | (apply gI; refine sI ?_) | (apply gE; refine sE ?_) | (apply gP; refine sP ?_) | (apply gC; refine sC ?_) | (apply gD; refine sD ?_) | fail)
  refine O_d (dy_call ArgsI.pf (by first | exact rfl | trivial | (intro a b; rfl)) (Int_ct hr2 (by omega))) ?_; rintro _ _ ⟨_, ⟨rfl, rfl⟩, rfl⟩; refine O_n ?_
  repeat' (first | refine go ?_ | intro _ | (apply cG; first | refine cT ?_ | refine cF ?_ | refine cS (fun _ => ?_) fun _ => ?_) | (apply gW; refine sW ?_) | (apply gI; refine sI ?_) | (apply gE; refine sE ?_) | (apply gP; refine sP ?_) | (apply gC; refine sC ?_) | (apply gD; refine sD ?_) | fail)
  refine O_d (dy_call ArgsI.pf (by first | exact rfl | trivial | (intro a b; rfl)) (Raw_ct hr3 (by omega))) ?_; rintro _ _ ⟨_, ⟨A4, c4, rfl, rfl⟩, rfl⟩; refine O_n ?_
  repeat' (first | refine go ?_ | intro _ | (apply cG; first | refine cT ?_ | refine cF ?_ | refine cS (fun _ => ?_) fun _ => ?_) | (apply gW; refine sW ?_) | (apply gI; refine sI ?_) | (apply gE; refine sE ?_) | (apply gP; refine sP ?_) | (apply gC; refine sC ?_) | (apply gD; refine sD ?_) | fail)
  refine E_res1 (by rfl) (by rfl) ⟨_, _, rfl, rfl⟩ Sb
theorem isF_read {i : Int} {b : List UInt8} (h : isF i b = true) (h1 : -9223372036854775808 ≤ i) (h2 : i ≤ 9223372036854775807) (hl : b.length ≤ 1000000) : ∃ t, rList rNext (b, 0) = (coreF i (recF b), (t, 0)) := by
  obtain ⟨t, ht⟩ := isF_iff.1 h
  have hx := recF_len b
  obtain ⟨x, hxd⟩ : ∃ x, recF b = x := ⟨_, rfl⟩
  rw [hxd] at ht hx ⊢
  have hcl := coreF_len h1 h2 (x := x) (by omega)
  refine ⟨varint (sumF i x) ++ t, ?_⟩
  rw [← ht]
  have e : frameF i x ++ t = varint (coreF i x).length ++ coreF i x ++ (varint (sumF i x) ++ t) := by unfold frameF; simp
  rw [e]
  exact raw_pre (by omega)
theorem prefix_take {f b : List UInt8} : f.isPrefixOf b = true ↔ f = b.take f.length := by
  rw [List.isPrefixOf_iff_prefix, List.prefix_iff_eq_take]
theorem first_ct {v : Value} {b x : List UInt8} {i : Int} {ok : Bool} (hb : rd eB v b ∈ L) (hl : b.length ≤ 1000000) (h1 : -9223372036854775808 ≤ i) (h2 : i ≤ 9223372036854775807) (hx : recF b = x) (hok : isF i b = ok) :
    CT Try.prog 52 #[.int .i64 i, v] W0 L fun r L' => ∃ A c y, r = .tuple #[.slice A (List.length y) c, .bool ok] ∧ L' = rd eB (.slice A (List.length y) c) y :: L ∧ (ok = true → y = x) := by
  refine CT_fact (fun w s => ((Src.sl (.inl hb) s).form)) ?_
  rintro ⟨Aa, ca, rfl, hca⟩
  obtain ⟨core, b1, e1, hr1⟩ : ∃ core b1 e1, rList rNext (b, 0) = (core, (b1, e1)) := ⟨_, _, _, rfl⟩
  have hcore : core.length ≤ 1000000 := by have := rRaw_len (b, 0); rw [hr1] at this; dsimp only at this; omega
  obtain ⟨n, b2, e2, hr2⟩ : ∃ n b2 e2, rI (core, 0) = (n, (b2, e2)) := ⟨_, _, _, rfl⟩
  have hb2 : b2.length ≤ core.length := by have := rI_len (core, 0); rw [hr2] at this; exact this
  refine CT_enter Try.func52 rfl ?_; (simp only [Try.ntmps52, List.size_toArray, List.length_cons, List.length_nil, Nat.reduceAdd, Nat.reduceSub, Array.replicate_succ, Array.replicate_zero, List.push_toArray, List.append_toArray, List.nil_append, List.cons_append])
  refine C_sub (sub_dup hb) ?_
  repeat' (first | refine go ?_ | intro _ | (apply cG; first | refine cT ?_ | refine cF ?_ | refine cS (fun _ => ?_) fun _ => ?_) | (apply gW; refine sW ?_) | (apply gI; refine sI ?_) | (apply gE; refine sE ?_) | (apply gP; refine sP ?_) | (apply gC; refine sC ?_) | (apply gD; refine sD ?_) | fail)
  refine O_sub fr_sub ?_
  refine O_d (dy_call ArgsI.pf (by first | exact rfl | trivial | (intro a b; rfl)) (fRawR_ct hr1 (by omega))) ?_; rintro _ _ ⟨_, ⟨b1', A1, c1, ⟨hk1, hk1l⟩, rfl, rfl⟩, rfl⟩; refine O_n ?_
  repeat' (first | refine go ?_ | intro _ | (apply cG; first | refine cT ?_ | refine cF ?_ | refine cS (fun _ => ?_) fun _ => ?_) | (apply gW; refine sW ?_) | (apply gI; refine sI ?_) | (apply gE; refine sE ?_) | (apply gP; refine sP ?_) | (apply gC; refine sC ?_) | (apply gD; refine sD ?_) | fail)
  refine O_sub (Sub.trans (sub_skip (sub_dup (.head _))) fr_sub) ?_
  refine O_d (dy_call ArgsI.pf (by first | exact rfl | trivial | (intro a b; rfl)) (fI_ct hr2 (by omega))) ?_; rintro _ _ ⟨_, ⟨b2', ⟨hk2, hk2l⟩, rfl, rfl⟩, rfl⟩; refine O_n ?_
  repeat' (first | refine go ?_ | intro _ | (apply cG; first | refine cT ?_ | refine cF ?_ | refine cS (fun _ => ?_) fun _ => ?_) | (apply gW; refine sW ?_) | (apply gI; refine sI ?_) | (apply gE; refine sE ?_) | (apply gP; refine sP ?_) | (apply gC; refine sC ?_) | (apply gD; refine sD ?_) | fail)
  obtain ⟨x', b3, e3, hr3⟩ : ∃ x' b3 e3, rList rNext (b2', e2) = (x', (b3, e3)) := ⟨_, _, _, rfl⟩
  have hx' : x'.length ≤ 1000000 := by have := rRaw_len (b2', e2); rw [hr3] at this; dsimp only at this; omega
  refine O_d (dy_call ArgsI.pf (by first | exact rfl | trivial | (intro a b; rfl)) (fRawR_ct hr3 (by omega))) ?_; rintro _ _ ⟨_, ⟨b3', A3, c3, ⟨hk3, hk3l⟩, rfl, rfl⟩, rfl⟩; refine O_n ?_
  repeat' (first | refine go ?_ | intro _ | (apply cG; first | refine cT ?_ | refine cF ?_ | refine cS (fun _ => ?_) fun _ => ?_) | (apply gW; refine sW ?_) | (apply gI; refine sI ?_) | (apply gE; refine sE ?_) | (apply gP; refine sP ?_) | (apply gC; refine sC ?_) | (apply gD; refine sD ?_) | fail)
  rename_i p1 p2
  refine O_sub (S := fr p1 b1' e1 :: fr p2 b3' e3 :: rd eB (.slice A3 x'.length c3) x' :: L) Sb ?_
  refine fr_open fun A n1 c hn hnc => ?_
  refine O_sub (S := fr p2 b3' e3 :: cel p1 [.slice A n1 c, .int .i64 e1] 110 :: rd eB (.slice A3 x'.length c3) x' :: L) Sb ?_
  refine fr_open fun A' n2 c' hn' hnc' => ?_
  by_cases hE : e1 = 0 ∧ e3 = 0
  rotate_left
  · have hno : ok = false := by
      rw [← hok, Bool.eq_false_iff]
      intro hh
      obtain ⟨t, ht⟩ := isF_read hh h1 h2 hl
      rw [hr1] at ht
      simp only [Prod.mk.injEq] at ht
      obtain ⟨rfl, rfl, rfl⟩ := ht
      have hxl := recF_len b
      rw [core_back h1 h2 (by omega)] at hr2
      simp only [Prod.mk.injEq] at hr2
      obtain ⟨rfl, rfl, rfl⟩ := hr2
      rw [hk2 rfl, rest_back (by omega)] at hr3
      simp only [Prod.mk.injEq] at hr3
      exact hE ⟨rfl, hr3.2.2.symm⟩
    subst hno
    by_cases hE1 : e1 = 0
    · have hE3 : e3 ≠ 0 := fun h => hE ⟨hE1, h⟩
      subst hE1
      repeat' (first | refine go ?_ | intro _ | (apply cG; first | refine cT ?_ | refine cF ?_ | refine cS (fun _ => ?_) fun _ => ?_) | (apply gW; refine sW ?_) | (apply gI; refine sI ?_) | (apply gE; refine sE ?_) | (apply gP; refine sP ?_) | (apply gC; refine sC ?_) | (apply gD; refine sD ?_) | fail)
      refine E_rdnil eB none 0 ?_
      refine E_res2 (by rfl) (by rfl) ⟨none, 0, [], rfl, rfl, fun h => absurd h (by decide)⟩ Sb
    · repeat' (first | refine go ?_ | intro _ | (apply cG; first | refine cT ?_ | refine cF ?_ | refine cS (fun _ => ?_) fun _ => ?_) | (apply gW; refine sW ?_) | (apply gI; refine sI ?_) | (apply gE; refine sE ?_) | (apply gP; refine sP ?_) | (apply gC; refine sC ?_) | (apply gD; refine sD ?_) | fail)
      refine E_rdnil eB none 0 ?_
      refine E_res2 (by rfl) (by rfl) ⟨none, 0, [], rfl, rfl, fun h => absurd h (by decide)⟩ Sb
  obtain ⟨rfl, rfl⟩ := hE
  have hfl := frameF_len h1 h2 (x := x') (by omega)
  have hfin : ∀ q, (frameF i x' == b.take (frameF i x').length) = q → (ok = q ∧ (ok = true → x' = x)) := by
    intro q hq
    cases q with
    | true =>
      have h3 := eq_of_beq hq
      obtain ⟨h4, h5⟩ := first_iff h1 h2 (by omega) (List.isPrefixOf_iff_prefix.1 (prefix_take.2 h3))
      exact ⟨by rw [← hok, h4], fun _ => by rw [← hx, h5]⟩
    | false =>
      have hno : ok = false := by
        rw [← hok, Bool.eq_false_iff]
        intro hh
        have hh0 := hh
        obtain ⟨t, ht⟩ := isF_read hh h1 h2 hl
        rw [hr1] at ht
        simp only [Prod.mk.injEq] at ht
        obtain ⟨rfl, rfl, -⟩ := ht
        have hxl := recF_len b
        rw [core_back h1 h2 (by omega)] at hr2
        simp only [Prod.mk.injEq] at hr2
        obtain ⟨rfl, rfl, rfl⟩ := hr2
        rw [hk2 rfl, rest_back (by omega)] at hr3
        simp only [Prod.mk.injEq] at hr3
        obtain ⟨rfl, -, -⟩ := hr3
        unfold isF at hh0
        rw [prefix_take] at hh0
        rw [← hh0, beq_self_eq_true] at hq
        exact absurd hq (by decide)
      exact ⟨hno, fun h => by rw [hno] at h; exact absurd h (by decide)⟩
  clear hr1 hr2 hr3 hk1 hk2 hk3
  repeat' (first | refine go ?_ | intro _ | (apply cG; first | refine cT ?_ | refine cF ?_ | refine cS (fun _ => ?_) fun _ => ?_) | (apply gW; refine sW ?_) | (apply gI; refine sI ?_) | (apply gE; refine sE ?_) | (apply gP; refine sP ?_) | (apply gC; refine sC ?_) | (apply gD; refine sD ?_) | fail)
  refine O_d (dy_call ArgsI.pf (by first | exact rfl | trivial | (intro a b; rfl)) (fFrame_ct (x := x') Sc.pf h1 h2 (by omega))) ?_; rintro _ _ ⟨_, ⟨A5, c5, rfl, rfl⟩, rfl⟩; refine O_n ?_
  refine O_sub (S := rd eB (.slice Aa b.length ca) b :: own 5 eB (.slice A5 (frameF i x').length c5) (frameF i x') :: rd eB (.slice A3 x'.length c3) x' :: L) (Sub.trans (sub_dup (by repeat (first | exact hb | refine .tail _ ?_))) Sb) ?_
  by_cases hle : (frameF i x').length ≤ b.length
  · obtain ⟨q, hq⟩ : ∃ q, (frameF i x' == b.take (frameF i x').length) = q := ⟨_, rfl⟩
    obtain ⟨rfl, h6⟩ := hfin q hq
    have hq' : decide (frameF i x' = (b.drop 0).take (frameF i x').length) = ok := by rw [List.drop_zero, ← hq, Bool.beq_eq_decide_eq]
    repeat' (first | refine go ?_ | intro _ | (apply cG; first | refine cT ?_ | refine cF ?_ | refine cS (fun _ => ?_) fun _ => ?_) | (apply gW; refine sW ?_) | (apply gI; refine sI ?_) | (apply gE; refine sE ?_) | (apply gP; refine sP ?_) | (apply gC; refine sC ?_) | (apply gD; refine sD ?_) | fail)
    refine O_d (dy_call ArgsI.pf (by first | exact rfl | trivial | (intro a b; rfl)) (SameBytes_ct (q := ok) Sc.pf Sc.pf (by omega) (by rw [List.length_take]; omega) hq')) ?_; rintro _ _ ⟨_, ⟨rfl, hLL⟩, rfl⟩; replace hLL := hLL.symm; subst hLL; refine O_n ?_
    cases ok
    · repeat' (first | refine go ?_ | intro _ | (apply cG; first | refine cT ?_ | refine cF ?_ | refine cS (fun _ => ?_) fun _ => ?_) | (apply gW; refine sW ?_) | (apply gI; refine sI ?_) | (apply gE; refine sE ?_) | (apply gP; refine sP ?_) | (apply gC; refine sC ?_) | (apply gD; refine sD ?_) | fail)
      refine E_rdnil eB none 0 ?_
      refine E_res2 (by rfl) (by rfl) ⟨none, 0, [], rfl, rfl, fun h => absurd h (by decide)⟩ Sb
    · repeat' (first | refine go ?_ | intro _ | (apply cG; first | refine cT ?_ | refine cF ?_ | refine cS (fun _ => ?_) fun _ => ?_) | (apply gW; refine sW ?_) | (apply gI; refine sI ?_) | (apply gE; refine sE ?_) | (apply gP; refine sP ?_) | (apply gC; refine sC ?_) | (apply gD; refine sD ?_) | fail)
      refine E_res2 (by rfl) (by rfl) ⟨A3, c3, x', rfl, rfl, h6⟩ Sb
  · obtain ⟨rfl, h6⟩ := hfin false (by
      rw [beq_eq_false_iff_ne]
      intro h
      have := congrArg List.length h
      rw [List.length_take] at this
      omega)
    repeat' (first | refine go ?_ | intro _ | (apply cG; first | refine cT ?_ | refine cF ?_ | refine cS (fun _ => ?_) fun _ => ?_) | (apply gW; refine sW ?_) | (apply gI; refine sI ?_) | (apply gE; refine sE ?_) | (apply gP; refine sP ?_) | (apply gC; refine sC ?_) | (apply gD; refine sD ?_) | fail)
    refine E_rdnil eB none 0 ?_
    refine E_res2 (by rfl) (by rfl) ⟨none, 0, [], rfl, rfl, fun h => absurd h (by decide)⟩ Sb
end
end Go.Proofs.Ytbjaecofccpahaa
namespace Go.Proofs.Ytbjaecofccpahaa
open Go Go.RowKit
set_option linter.unusedVariables false
set_option linter.unusedSimpArgs false
set_option maxRecDepth 20000
set_option synthInstance.maxSize 100000
set_option synthInstance.maxHeartbeats 400000
section
variable {W0 : World} {L : List HP}
/-- what a scan has still to do -/
def ScI (b : List UInt8) (xs : List (List UInt8)) (N : Nat) (out : List (List UInt8)) (n : Nat) : Prop := n ≤ b.length ∧ out.length ≤ n ∧ scanF b.length 0 b = (xs, N) ∧ (out ++ (scanF (b.length - out.length) (out.length : Int) (b.drop n)).1, n + (scanF (b.length - out.length) (out.length : Int) (b.drop n)).2) = (xs, N)
theorem ScI.zero {b : List UInt8} {xs : List (List UInt8)} {N : Nat} (h : scanF b.length 0 b = (xs, N)) : ScI b xs N [] 0 := ⟨Nat.zero_le _, Nat.zero_le _, h, by
  simp only [List.nil_append, List.length_nil, Nat.sub_zero, List.drop_zero, Nat.zero_add]
  exact h⟩
theorem ScI.fin {b : List UInt8} {xs out : List (List UInt8)} {N n : Nat} (h : ScI b xs N out n) (hn : b.length ≤ n) : out = xs ∧ n = N := by
  obtain ⟨h1, h2, h3, h4⟩ := h
  rw [List.drop_of_length_le hn, scanF_nil] at h4
  simpa using h4
theorem ScI.no {b : List UInt8} {xs out : List (List UInt8)} {N n : Nat} (h : ScI b xs N out n) (hf : isF (out.length : Int) (b.drop n) = false) : out = xs ∧ n = N := by
  obtain ⟨h1, h2, h3, h4⟩ := h
  cases hk : b.length - out.length with
  | zero =>
    rw [hk] at h4
    simpa [scanF] using h4
  | succ k =>
    rw [hk, scanF_no hf] at h4
    simpa using h4
theorem ScI.yes {b x : List UInt8} {xs out : List (List UInt8)} {N n : Nat} (h : ScI b xs N out n) (hn : n < b.length) (hf : isF (out.length : Int) (b.drop n) = true) (hx : recF (b.drop n) = x) : ScI b xs N (out ++ [x]) (n + (frameF (out.length : Int) x).length) := by
  obtain ⟨h1, h2, h3, h4⟩ := h
  have hfl : (frameF (out.length : Int) x).length ≤ (b.drop n).length := by
    obtain ⟨t, ht⟩ := isF_iff.1 hf
    rw [hx] at ht
    rw [← ht, List.length_append]; omega
  have hmin := frameF_min (out.length : Int) x
  rw [List.length_drop] at hfl
  obtain ⟨k, hk⟩ : ∃ k, b.length - out.length = k + 1 := ⟨b.length - out.length - 1, by omega⟩
  have hk' : b.length - (out.length + 1) = k := by omega
  have hb : b.drop n ≠ [] := by
    intro h
    have := congrArg List.length h
    rw [List.length_drop, List.length_nil] at this
    omega
  rw [hk, scanF_yes hb hf, hx, List.drop_drop] at h4
  refine ⟨by omega, by rw [List.length_append, List.length_singleton]; omega, h3, ?_⟩
  rw [← h4, List.length_append, List.length_singleton, hk']
  have hp : ((out.length + 1 : Nat) : Int) = (out.length : Int) + 1 := by push_cast; rfl
  rw [hp]
  simp only [List.append_assoc, List.cons_append, List.nil_append, Prod.mk.injEq, true_and]
  omega
theorem fScan_ct {v : Value} {b : List UInt8} {xs : List (List UInt8)} {N : Nat} (hb : rd eB v b ∈ L) (hl : b.length ≤ 1000000) (h : scanF b.length 0 b = (xs, N)) :
    CT Try.prog 26 #[v] W0 L fun r L' => ∃ A c, r = .tuple #[.slice A xs.length c, .int .i64 (N : Int)] ∧ L' = own 23 (eSl eB) (.slice A xs.length c) xs :: L := by
  refine CT_fact (fun w s => ((Src.sl (.inl hb) s).form)) ?_
  rintro ⟨Aa, ca, rfl, hca⟩
  have hI := ScI.zero h
  clear h
  refine CT_enter Try.func26 rfl ?_; (simp only [Try.ntmps26, List.size_toArray, List.length_cons, List.length_nil, Nat.reduceAdd, Nat.reduceSub, Array.replicate_succ, Array.replicate_zero, List.push_toArray, List.append_toArray, List.nil_append, List.cons_append])
  refine C_sub (sub_dup hb) ?_
  repeat' (first | refine go ?_ | intro _ | (apply cG; first | refine cT ?_ | refine cF ?_ | refine cS (fun _ => ?_) fun _ => ?_) | (apply gW; refine sW ?_) | (apply gI; refine sI ?_) | (apply gE; refine sE ?_) | (apply gP; refine sP ?_) | (apply gC; refine sC ?_) | (apply gD; refine sD ?_) | fail)
  refine C_ownnil 23 (eSl eB) ?_
  refine C_loopS (κ := Value × List (List UInt8) × Nat) [false, false, false, false, true, true, true, true, true, true, true, true, true, true, true, true, true, true, true, true, true, true, true, true, true, true, true, true, true, true, true, true, true, true, false, false] (fun k => [(4, k.1), (5, .int .i64 (k.2.2 : Int))]) (fun k => [(0, own 23 (eSl eB) k.1 k.2.1)]) (fun k => (∃ A c, k.1 = .slice A k.2.1.length c) ∧ ScI b xs N k.2.1 k.2.2) (fun k => b.length - k.2.2) (.slice none 0 0, [], 0) ⟨⟨none, 0, rfl⟩, hI⟩ ⟨rfl, rfl, trivial⟩ ?_
  rintro ⟨vo, out, n⟩ u ⟨⟨A, c, hv⟩, hI⟩
  dsimp only at hv hI
  subst hv
  ((try dsimp only); refine C_n ?_; (try simp only [Nat.reduceAdd, Nat.zero_add]))
  have hn := hI.1
  have ho := hI.2.1
  by_cases hlt : n < b.length
  · obtain ⟨ok, hok⟩ : ∃ ok, isF (out.length : Int) (b.drop n) = ok := ⟨_, rfl⟩
    obtain ⟨x, hx⟩ : ∃ x, recF (b.drop n) = x := ⟨_, rfl⟩
    have hxl := recF_len (b.drop n)
    rw [hx, List.length_drop] at hxl
    have hd : (b.drop n).take (b.length - n) = b.drop n := List.take_of_length_le (by rw [List.length_drop]; omega)
    repeat' (first | refine go ?_ | intro _ | (apply cG; first | refine cT ?_ | refine cF ?_ | refine cS (fun _ => ?_) fun _ => ?_) | (apply gW; refine sW ?_) | (apply gI; refine sI ?_) | (apply gE; refine sE ?_) | (apply gP; refine sP ?_) | (apply gC; refine sC ?_) | (apply gD; refine sD ?_) | fail)
    rw [hd]
    refine O_d (dy_call ArgsI.pf (by first | exact rfl | trivial | (intro a b; rfl)) (first_ct (.head _) (by rw [List.length_drop]; omega) (by omega) (by omega) hx hok)) ?_; rintro _ _ ⟨_, ⟨A1, c1, y, rfl, rfl, hy⟩, rfl⟩; refine O_n ?_
    cases ok
    · obtain ⟨rfl, rfl⟩ := hI.no hok
      repeat' (first | refine go ?_ | intro _ | (apply cG; first | refine cT ?_ | refine cF ?_ | refine cS (fun _ => ?_) fun _ => ?_) | (apply gW; refine sW ?_) | (apply gI; refine sI ?_) | (apply gE; refine sE ?_) | (apply gP; refine sP ?_) | (apply gC; refine sC ?_) | (apply gD; refine sD ?_) | fail)
      refine E_res2 (by rfl) (by rfl) ⟨_, _, rfl, rfl⟩ Sb
    · obtain rfl := hy rfl
      have hnext := hI.yes hlt hok hx
      have hlen := hnext.1
      have hfl := frameF_len (i := (out.length : Int)) (x := y) (by omega) (by omega) (by omega)
      repeat' (first | refine go ?_ | intro _ | (apply cG; first | refine cT ?_ | refine cF ?_ | refine cS (fun _ => ?_) fun _ => ?_) | (apply gW; refine sW ?_) | (apply gI; refine sI ?_) | (apply gE; refine sE ?_) | (apply gP; refine sP ?_) | (apply gC; refine sC ?_) | (apply gD; refine sD ?_) | fail)
      refine O_d (dy_call ArgsI.pf (by first | exact rfl | trivial | (intro a b; rfl)) (fFrame_ct (x := y) Sc.pf (by omega) (by omega) (by omega))) ?_; rintro _ _ ⟨_, ⟨A2, c2, rfl, rfl⟩, rfl⟩; refine O_n ?_
      repeat' (first | refine go ?_ | intro _ | (apply cG; first | refine cT ?_ | refine cF ?_ | refine cS (fun _ => ?_) fun _ => ?_) | (apply gW; refine sW ?_) | (apply gI; refine sI ?_) | (apply gE; refine sE ?_) | (apply gP; refine sP ?_) | (apply gC; refine sC ?_) | (apply gD; refine sD ?_) | fail)
      refine O_d (dy_litS (R := eSl eB) [y] [.slice A1 y.length c1] (by rfl) (fun m h hs => ⟨⟨_, rfl, rd_mem hs (by repeat (first | exact .head _ | refine .tail _ ?_))⟩, trivial⟩)) ?_; rintro _ _ ⟨_, rfl, rfl⟩; refine O_n ?_
      refine O_d dy_append ?_; rintro _ _ ⟨A3, c3, rfl, rfl⟩; refine O_n ?_
      repeat' (first | refine go ?_ | intro _ | (apply cG; first | refine cT ?_ | refine cF ?_ | refine cS (fun _ => ?_) fun _ => ?_) | (apply gW; refine sW ?_) | (apply gI; refine sI ?_) | (apply gE; refine sE ?_) | (apply gP; refine sP ?_) | (apply gC; refine sC ?_) | (apply gD; refine sD ?_) | fail)
      exact E_round (.slice A3 (out.length + 1) c3, out ++ [y], n + (frameF (out.length : Int) y).length) ⟨⟨A3, c3, by rw [List.length_append]; rfl⟩, hnext⟩ (by have := frameF_min (out.length : Int) y; show b.length - (n + _) < b.length - n; omega) ⟨rfl, rfl, trivial⟩ Sb
  · obtain ⟨rfl, rfl⟩ := hI.fin (by omega)
    repeat' (first | refine go ?_ | intro _ | (apply cG; first | refine cT ?_ | refine cF ?_ | refine cS (fun _ => ?_) fun _ => ?_) | (apply gW; refine sW ?_) | (apply gI; refine sI ?_) | (apply gE; refine sE ?_) | (apply gP; refine sP ?_) | (apply gC; refine sC ?_) | (apply gD; refine sD ?_) | fail)
    refine E_res2 (by rfl) (by rfl) ⟨_, _, rfl, rfl⟩ Sb
end
end Go.Proofs.Ytbjaecofccpahaa
