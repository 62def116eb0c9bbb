/-
  Walks of package journal: frames, records; the reference's frames.
-/
import Derived.Test.YtbjaecofccpahaaHy
import Derived.Test.YtbjaecofccpahaaFr
import Derived.Test.YtbjaecofccpahaaJp
namespace Go.Proofs.Ytbjaecofccpahaa
open Go Go.RowKit
set_option linter.unusedVariables false
set_option linter.unusedSimpArgs false
set_option maxRecDepth 20000
set_option synthInstance.maxSize 100000
set_option synthInstance.maxHeartbeats 400000
section
variable {W0 : World} {L : List HP}
theorem wr_newO {ops : Array Oper} {Q : Exit → Act → World → Prop} {rest : List Oper} {a : Act} {p : Nat} (k : OL Try.prog W0 (wr p [] :: L) ops Q rest a) : OL Try.prog W0 (cel p [.slice none 0 0] 49 :: L) ops Q rest a :=
  ⟨fun w s => k.run w (wr_sub.st ((s.own_nil 5 eB).weak fun _ _ h => h.swap))⟩
theorem Frame_ct {i : Int} {v : Value} {x : List UInt8} (hv : Src L eB v x) (h1 : -9223372036854775808 ≤ i) (h2 : i ≤ 9223372036854775807) (hx : x.length ≤ 100000000) :
    CT Try.prog 23 #[.int .i64 i, v] W0 L fun r L' => ∃ A c, r = .slice A (frameF i x).length c ∧ L' = own 5 eB (.slice A (frameF i x).length c) (frameF i x) :: L := by
  have hcl := coreF_len h1 h2 (x := x) (by omega)
  have hfl := frameF_len h1 h2 (x := x) (by omega)
  have hz := vlen (zig_lt h1 h2)
  have hvx := vlen (m := x.length) (by omega)
  refine CT_enter Try.func23 rfl ?_; (simp only [Try.ntmps23, List.size_toArray, List.length_cons, List.length_nil, Nat.reduceAdd, Nat.reduceSub, Array.replicate_succ, Array.replicate_zero, List.push_toArray, List.append_toArray, List.nil_append, List.cons_append])
  repeat' (first | refine go ?_ | intro _ | (apply cG; first | refine cT ?_ | refine cF ?_ | refine cS (fun _ => ?_) fun _ => ?_) | (apply gW; refine sW ?_) | (apply gI; refine sI ?_) | (apply gE; refine sE ?_) | (apply gP; refine sP ?_) | (apply gC; refine sC ?_) | (apply gD; refine sD ?_) | fail)
  refine wr_newO ?_
  refine O_sub (fun m h s => s.swap) ?_
  refine wr_newO ?_
  refine O_d (dy_call ArgsI.pf (by first | exact rfl | trivial | (intro a b; rfl)) (wInt_ct h1 h2 (by decide))) ?_; rintro _ _ ⟨_, rfl, rfl⟩; refine O_n ?_
  repeat' (first | refine go ?_ | intro _ | (apply cG; first | refine cT ?_ | refine cF ?_ | refine cS (fun _ => ?_) fun _ => ?_) | (apply gW; refine sW ?_) | (apply gI; refine sI ?_) | (apply gE; refine sE ?_) | (apply gP; refine sP ?_) | (apply gC; refine sC ?_) | (apply gD; refine sD ?_) | fail)
  refine O_d (dy_call ArgsI.pf (by first | exact rfl | trivial | (intro a b; rfl)) (wRaw_ct (v := v) (l := x) hv.c (by omega) (by rw [List.nil_append]; omega))) ?_; rintro _ _ ⟨_, rfl, rfl⟩; refine O_n ?_
  have hc : [] ++ varint (zig i) ++ varint x.length ++ x = coreF i x := by unfold coreF; simp
  rw [hc]
  obtain ⟨c, hcd⟩ : ∃ c, coreF i x = c := ⟨_, rfl⟩
  rw [hcd] at hcl ⊢
  repeat' (first | refine go ?_ | intro _ | (apply cG; first | refine cT ?_ | refine cF ?_ | refine cS (fun _ => ?_) fun _ => ?_) | (apply gW; refine sW ?_) | (apply gI; refine sI ?_) | (apply gE; refine sE ?_) | (apply gP; refine sP ?_) | (apply gC; refine sC ?_) | (apply gD; refine sD ?_) | fail)
  refine O_d (dy_call ArgsI.pf (by first | exact rfl | trivial | (intro a b; rfl)) (wDone_ct (by omega))) ?_; rintro _ _ ⟨_, ⟨A1, c1, rfl, rfl⟩, rfl⟩; refine O_n ?_
  refine O_d (dy_call ArgsI.pf (by first | exact rfl | trivial | (intro a b; rfl)) (CT.pull (i := 2) (by rfl) (wRaw_ct (l := c) Sc.pf (by omega) (by decide)))) ?_; rintro _ _ ⟨_, rfl, rfl⟩; refine O_n ?_
  repeat' (first | refine go ?_ | intro _ | (apply cG; first | refine cT ?_ | refine cF ?_ | refine cS (fun _ => ?_) fun _ => ?_) | (apply gW; refine sW ?_) | (apply gI; refine sI ?_) | (apply gE; refine sE ?_) | (apply gP; refine sP ?_) | (apply gC; refine sC ?_) | (apply gD; refine sD ?_) | fail)
  rw [List.nil_append]
  refine O_d (dy_call ArgsI.pf (by first | exact rfl | trivial | (intro a b; rfl)) (CT.pull (i := 2) (by rfl) (wDone_ct (by omega)))) ?_; rintro _ _ ⟨_, ⟨A2, c2, rfl, rfl⟩, rfl⟩; refine O_n ?_
  refine O_d (dy_call ArgsI.pf (by first | exact rfl | trivial | (intro a b; rfl)) (hBytes_ct (s := lblF) (l := c) Sc.pf (by decide) (by omega) rfl)) ?_; rintro _ _ ⟨_, ⟨rfl, hLL⟩, rfl⟩; replace hLL := hLL.symm; subst hLL; refine O_n ?_
  have hs : bytesW lblF.data.toList c = UInt64.ofNat (sumF i x) := by unfold sumF; rw [hcd]; simp
  have hsn : (bytesW lblF.data.toList c).toNat = sumF i x := by unfold sumF; rw [hcd]
  have hsl := sumF_lt i x
  have hvc := vlen (m := c.length) (by omega)
  refine O_d (dy_call ArgsI.pf (by first | exact rfl | trivial | (intro a b; rfl)) (CT.pull (i := 2) (by rfl) (wUint_ct (m := (bytesW lblF.data.toList c).toNat) (by rw [hsn]; exact hsl) (by rw [List.length_append]; omega)))) ?_; rintro _ _ ⟨_, rfl, rfl⟩; refine O_n ?_
  rw [hsn]
  have hf : varint c.length ++ c ++ varint (sumF i x) = frameF i x := by unfold frameF; rw [hcd]
  rw [hf]
  repeat' (first | refine go ?_ | intro _ | (apply cG; first | refine cT ?_ | refine cF ?_ | refine cS (fun _ => ?_) fun _ => ?_) | (apply gW; refine sW ?_) | (apply gI; refine sI ?_) | (apply gE; refine sE ?_) | (apply gP; refine sP ?_) | (apply gC; refine sC ?_) | (apply gD; refine sD ?_) | fail)
  refine O_d (dy_call ArgsI.pf (by first | exact rfl | trivial | (intro a b; rfl)) (wDone_ct (by omega))) ?_; rintro _ _ ⟨_, ⟨A3, c3, rfl, rfl⟩, rfl⟩; refine O_n ?_
  repeat' (first | refine go ?_ | intro _ | (apply cG; first | refine cT ?_ | refine cF ?_ | refine cS (fun _ => ?_) fun _ => ?_) | (apply gW; refine sW ?_) | (apply gI; refine sI ?_) | (apply gE; refine sE ?_) | (apply gP; refine sP ?_) | (apply gC; refine sC ?_) | (apply gD; refine sD ?_) | fail)
  refine E_res1 (by rfl) (by rfl) ⟨_, _, rfl, rfl⟩ Sb
theorem fCore_ct {i : Int} {v : Value} {x : List UInt8} (hv : Src L eB v x) (h1 : -9223372036854775808 ≤ i) (h2 : i ≤ 9223372036854775807) (hx : x.length ≤ 100000000) :
    CT Try.prog 47 #[.int .i64 i, v] W0 L fun r L' => ∃ A c, r = .slice A (coreF i x).length c ∧ L' = own 5 eB (.slice A (coreF i x).length c) (coreF i x) :: L := by
  have hz := vlen (zig_lt h1 h2)
  have hvx := vlen (m := x.length) (by omega)
  refine CT_enter Try.func47 rfl ?_; (simp only [Try.ntmps47, List.size_toArray, List.length_cons, List.length_nil, Nat.reduceAdd, Nat.reduceSub, Array.replicate_succ, Array.replicate_zero, List.push_toArray, List.append_toArray, List.nil_append, List.cons_append])
  repeat' (first | refine go ?_ | intro _ | (apply cG; first | refine cT ?_ | refine cF ?_ | refine cS (fun _ => ?_) fun _ => ?_) | (apply gW; refine sW ?_) | (apply gI; refine sI ?_) | (apply gE; refine sE ?_) | (apply gP; refine sP ?_) | (apply gC; refine sC ?_) | (apply gD; refine sD ?_) | fail)
  refine O_d (dy_call ArgsI.pf (by first | exact rfl | trivial | (intro a b; rfl)) (fInt_ct h1 h2)) ?_; rintro _ _ ⟨_, ⟨A1, c1, rfl, rfl⟩, rfl⟩; refine O_n ?_
  repeat' (first | refine go ?_ | intro _ | (apply cG; first | refine cT ?_ | refine cF ?_ | refine cS (fun _ => ?_) fun _ => ?_) | (apply gW; refine sW ?_) | (apply gI; refine sI ?_) | (apply gE; refine sE ?_) | (apply gP; refine sP ?_) | (apply gC; refine sC ?_) | (apply gD; refine sD ?_) | fail)
  refine O_d (dy_call ArgsI.pf (by first | exact rfl | trivial | (intro a b; rfl)) (fRaw_ct (v := v) (l := x) hv.c (by omega))) ?_; rintro _ _ ⟨_, ⟨A2, c2, rfl, rfl⟩, rfl⟩; refine O_n ?_
  have hlen : (varint x.length ++ x).length = (varint x.length).length + x.length := List.length_append
  repeat' (first | refine go ?_ | intro _ | (apply cG; first | refine cT ?_ | refine cF ?_ | refine cS (fun _ => ?_) fun _ => ?_) | (apply gW; refine sW ?_) | (apply gI; refine sI ?_) | (apply gE; refine sE ?_) | (apply gP; refine sP ?_) | (apply gC; refine sC ?_) | (apply gD; refine sD ?_) | fail)
  have hf : varint (zig i) ++ (varint x.length ++ x) = coreF i x := rfl
  rw [hf]
  have hfl : (varint (zig i)).length + ((varint x.length).length + x.length) = (coreF i x).length := by rw [← hf]; simp only [List.length_append]
  rw [hfl]
  refine E_res1 (by rfl) (by rfl) ⟨_, _, rfl, rfl⟩ Sb
theorem fFrame_ct {i : Int} {v : Value} {x : List UInt8} (hv : Src L eB v x) (h1 : -9223372036854775808 ≤ i) (h2 : i ≤ 9223372036854775807) (hx : x.length ≤ 100000000) :
    CT Try.prog 24 #[.int .i64 i, v] W0 L fun r L' => ∃ A c, r = .slice A (frameF i x).length c ∧ L' = own 5 eB (.slice A (frameF i x).length c) (frameF i x) :: L := by
  have hcl := coreF_len h1 h2 (x := x) (by omega)
  have hz := vlen (zig_lt h1 h2)
  have hvx := vlen (m := x.length) (by omega)
  refine CT_enter Try.func24 rfl ?_; (simp only [Try.ntmps24, List.size_toArray, List.length_cons, List.length_nil, Nat.reduceAdd, Nat.reduceSub, Array.replicate_succ, Array.replicate_zero, List.push_toArray, List.append_toArray, List.nil_append, List.cons_append])
  repeat' (first | refine go ?_ | intro _ | (apply cG; first | refine cT ?_ | refine cF ?_ | refine cS (fun _ => ?_) fun _ => ?_) | (apply gW; refine sW ?_) | (apply gI; refine sI ?_) | (apply gE; refine sE ?_) | (apply gP; refine sP ?_) | (apply gC; refine sC ?_) | (apply gD; refine sD ?_) | fail)
  refine O_d (dy_call ArgsI.pf (by first | exact rfl | trivial | (intro a b; rfl)) (fCore_ct hv h1 h2 (by omega))) ?_; rintro _ _ ⟨_, ⟨A1, c1, rfl, rfl⟩, rfl⟩; refine O_n ?_
  obtain ⟨c, hcd⟩ : ∃ c, coreF i x = c := ⟨_, rfl⟩
  rw [hcd] at hcl ⊢
  have hvc := vlen (m := c.length) (by omega)
  repeat' (first | refine go ?_ | intro _ | (apply cG; first | refine cT ?_ | refine cF ?_ | refine cS (fun _ => ?_) fun _ => ?_) | (apply gW; refine sW ?_) | (apply gI; refine sI ?_) | (apply gE; refine sE ?_) | (apply gP; refine sP ?_) | (apply gC; refine sC ?_) | (apply gD; refine sD ?_) | fail)
  refine O_d (dy_call ArgsI.pf (by first | exact rfl | trivial | (intro a b; rfl)) (fRaw_ct (l := c) Sc.pf (by omega))) ?_; rintro _ _ ⟨_, ⟨A2, c2, rfl, rfl⟩, rfl⟩; refine O_n ?_
  repeat' (first | refine go ?_ | intro _ | (apply cG; first | refine cT ?_ | refine cF ?_ | refine cS (fun _ => ?_) fun _ => ?_) | (apply gW; refine sW ?_) | (apply gI; refine sI ?_) | (apply gE; refine sE ?_) | (apply gP; refine sP ?_) | (apply gC; refine sC ?_) | (apply gD; refine sD ?_) | fail)
  refine O_d (dy_call ArgsI.pf (by first | exact rfl | trivial | (intro a b; rfl)) (rBytes_ct (s := lblF) (l := c) Sc.pf (by decide) (by omega) rfl)) ?_; rintro _ _ ⟨_, ⟨rfl, hLL⟩, rfl⟩; replace hLL := hLL.symm; subst hLL; refine O_n ?_
  have hsn : (bytesW lblF.data.toList c).toNat = sumF i x := by unfold sumF; rw [hcd]
  have hsl := sumF_lt i x
  have hvs := vlen hsl
  refine O_d (dy_call ArgsI.pf (by first | exact rfl | trivial | (intro a b; rfl)) (fUint_ct (m := (bytesW lblF.data.toList c).toNat) (by rw [hsn]; exact hsl))) ?_; rintro _ _ ⟨_, ⟨A3, c3, rfl, rfl⟩, rfl⟩; refine O_n ?_
  rw [hsn]
  have hlen : (varint c.length ++ c).length = (varint c.length).length + c.length := List.length_append
  repeat' (first | refine go ?_ | intro _ | (apply cG; first | refine cT ?_ | refine cF ?_ | refine cS (fun _ => ?_) fun _ => ?_) | (apply gW; refine sW ?_) | (apply gI; refine sI ?_) | (apply gE; refine sE ?_) | (apply gP; refine sP ?_) | (apply gC; refine sC ?_) | (apply gD; refine sD ?_) | fail)
  have hf : varint c.length ++ c ++ varint (sumF i x) = frameF i x := by unfold frameF; rw [hcd]
  rw [hf]
  have hfl : (varint c.length).length + c.length + (varint (sumF i x)).length = (frameF i x).length := by rw [← hf]; simp only [List.length_append]
  rw [hfl]
  refine E_res1 (by rfl) (by rfl) ⟨_, _, rfl, rfl⟩ Sb
theorem Equal_ct {va vb : Value} {la lb : List UInt8} {q : Bool} (ha : Src L eB va la) (hb : Src L eB vb lb) (hq : (la == lb) = q) : CT Try.prog 81 #[va, vb] W0 L fun r L' => r = .bool q ∧ L' = L := by
  have ha : Sc L va eB la := ⟨ha⟩
  have hb : Sc L vb eB lb := ⟨hb⟩
  refine CT_enter Try.func81 rfl ?_; (simp only [Try.ntmps81, List.size_toArray, List.length_cons, List.length_nil, Nat.reduceAdd, Nat.reduceSub, Array.replicate_succ, Array.replicate_zero, List.push_toArray, List.append_toArray, List.nil_append, List.cons_append])
  repeat' (first | refine go ?_ | intro _ | (apply cG; first | refine cT ?_ | refine cF ?_ | refine cS (fun _ => ?_) fun _ => ?_) | (apply gW; refine sW ?_) | (apply gI; refine sI ?_) | (apply gE; refine sE ?_) | (apply gP; refine sP ?_) | (apply gC; refine sC ?_) | (apply gD; refine sD ?_) | fail)
  refine O_s (sv_eqs (c := q) (h := ?_)) ?_
  · simpa using hq
  repeat' (first | refine go ?_ | intro _ | (apply cG; first | refine cT ?_ | refine cF ?_ | refine cS (fun _ => ?_) fun _ => ?_) | (apply gW; refine sW ?_) | (apply gI; refine sI ?_) | (apply gE; refine sE ?_) | (apply gP; refine sP ?_) | (apply gC; refine sC ?_) | (apply gD; refine sD ?_) | fail)
  refine E_res1 (by rfl) (by rfl) ⟨rfl, rfl⟩ Sb
theorem HasPrefix_ct {va vb : Value} {la lb : List UInt8} {q : Bool} (ha : rd eB va la ∈ L) (hb : Src L eB vb lb) (hq : lb.isPrefixOf la = q) : CT Try.prog 69 #[va, vb] W0 L fun r L' => r = .bool q ∧ L' = L := by
  refine CT_fact (fun w s => ((Src.sl (.inl ha) s).form)) ?_
  rintro ⟨Aa, ca, rfl, hca⟩
  refine CT_fact (fun w s => ((Src.sl hb s).form)) ?_
  rintro ⟨Ab, cb, rfl, hcb⟩
  have hb' : Sc L (.slice Ab lb.length cb) eB lb := ⟨hb⟩
  refine CT_enter Try.func69 rfl ?_; (simp only [Try.ntmps69, List.size_toArray, List.length_cons, List.length_nil, Nat.reduceAdd, Nat.reduceSub, Array.replicate_succ, Array.replicate_zero, List.push_toArray, List.append_toArray, List.nil_append, List.cons_append])
  refine C_sub (sub_dup ha) ?_
  by_cases hle : lb.length ≤ la.length
  · repeat' (first | refine go ?_ | intro _ | (apply cG; first | refine cT ?_ | refine cF ?_ | refine cS (fun _ => ?_) fun _ => ?_) | (apply gW; refine sW ?_) | (apply gI; refine sI ?_) | (apply gE; refine sE ?_) | (apply gP; refine sP ?_) | (apply gC; refine sC ?_) | (apply gD; refine sD ?_) | fail)
    rw [List.drop_zero]
    refine O_d (dy_call ArgsI.pf (by first | exact rfl | trivial | (intro a b; rfl)) (Equal_ct (la := la.take lb.length) (lb := lb) (.inl (.head _)) (hb.c.c) rfl)) ?_; rintro _ _ ⟨_, ⟨rfl, hLL⟩, rfl⟩; replace hLL := hLL.symm; subst hLL; refine O_n ?_
    have he : (la.take lb.length == lb) = q := by
      rw [← hq]
      by_cases h : la.take lb.length = lb
      · rw [h, beq_self_eq_true]
        symm
        rw [List.isPrefixOf_iff_prefix, List.prefix_iff_eq_take]; exact h.symm
      · have h1 : (la.take lb.length == lb) = false := by simpa using h
        rw [h1]
        symm
        rw [Bool.eq_false_iff]
        intro h2
        rw [List.isPrefixOf_iff_prefix, List.prefix_iff_eq_take] at h2
        exact h h2.symm
    rw [he]
    repeat' (first | refine go ?_ | intro _ | (apply cG; first | refine cT ?_ | refine cF ?_ | refine cS (fun _ => ?_) fun _ => ?_) | (apply gW; refine sW ?_) | (apply gI; refine sI ?_) | (apply gE; refine sE ?_) | (apply gP; refine sP ?_) | (apply gC; refine sC ?_) | (apply gD; refine sD ?_) | fail)
    refine E_res1 (by rfl) (by rfl) ⟨rfl, rfl⟩ Sb
  · have hf : q = false := by
      rw [← hq, Bool.eq_false_iff]
      intro h2
      rw [List.isPrefixOf_iff_prefix] at h2
      exact hle h2.length_le
    subst hf
    repeat' (first | refine go ?_ | intro _ | (apply cG; first | refine cT ?_ | refine cF ?_ | refine cS (fun _ => ?_) fun _ => ?_) | (apply gW; refine sW ?_) | (apply gI; refine sI ?_) | (apply gE; refine sE ?_) | (apply gP; refine sP ?_) | (apply gC; refine sC ?_) | (apply gD; refine sD ?_) | fail)
    refine E_res1 (by rfl) (by rfl) ⟨rfl, rfl⟩ Sb
end
end Go.Proofs.Ytbjaecofccpahaa
