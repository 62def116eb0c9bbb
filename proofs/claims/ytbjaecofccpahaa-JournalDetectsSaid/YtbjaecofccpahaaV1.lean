/-
  Walks of package wire by the engine: small functions of the writer.
-/
import Derived.Test.YtbjaecofccpahaaTz
import Derived.Test.YtbjaecofccpahaaWw2
import Derived.Lib.Hide
namespace Go.Proofs.Ytbjaecofccpahaa
open Go Go.RowKit
set_option linter.unusedVariables false
set_option linter.unusedSimpArgs false
set_option maxRecDepth 20000
set_option synthInstance.maxSize 100000
set_option synthInstance.maxHeartbeats 400000
section
variable {W0 : World} {L : List HP}
theorem Clone_ct {v : Value} {l : List UInt8} (hv : Src L eB v l) (hl : l.length ≤ 100000000000000) :
    CT Try.prog 44 #[v] W0 L fun r L' => ∃ A c, r = .slice A l.length c ∧ L' = own 5 eB (.slice A l.length c) l :: L := by
  refine CT_fact (fun w s => (hv.sl s).form) ?_
  rintro ⟨A, cap, rfl, hcap⟩
  cases A with
  | none =>
    refine CT_fact (fun w s => (hv.sl s).nil_of) ?_
    rintro rfl
    refine CT_enter Try.func44 rfl ?_; (simp only [Try.ntmps44, List.size_toArray, List.length_cons, List.length_nil, Nat.reduceAdd, Nat.reduceSub, Array.replicate_succ, Array.replicate_zero, List.push_toArray, List.append_toArray, List.nil_append, List.cons_append])
    repeat' (first | refine go ?_ | intro _ | (apply cG; first | refine cT ?_ | refine cF ?_ | refine cS (fun _ => ?_) fun _ => ?_) | (apply gW; refine sW ?_) | (apply gI; refine sI ?_) | (apply gE; refine sE ?_) | (apply gP; refine sP ?_) | (apply gC; refine sC ?_) | (apply gD; refine sD ?_) | fail)
    refine E_ownnil 5 eB ?_
    refine E_end1 (by rfl) (by rfl) Ev.pf ⟨none, 0, rfl, rfl⟩
  | some ad =>
    have hv : Sc L (.slice (some ad) l.length cap) eB l := ⟨hv⟩
    refine CT_enter Try.func44 rfl ?_; (simp only [Try.ntmps44, List.size_toArray, List.length_cons, List.length_nil, Nat.reduceAdd, Nat.reduceSub, Array.replicate_succ, Array.replicate_zero, List.push_toArray, List.append_toArray, List.nil_append, List.cons_append])
    repeat' (first | refine go ?_ | intro _ | (apply cG; first | refine cT ?_ | refine cF ?_ | refine cS (fun _ => ?_) fun _ => ?_) | (apply gW; refine sW ?_) | (apply gI; refine sI ?_) | (apply gE; refine sE ?_) | (apply gP; refine sP ?_) | (apply gC; refine sC ?_) | (apply gD; refine sD ?_) | fail)
    refine O_d (dy_lit0 eB rfl) ?_; rintro _ _ ⟨_, rfl, rfl⟩; refine O_n ?_
    repeat' (first | refine go ?_ | intro _ | (apply cG; first | refine cT ?_ | refine cF ?_ | refine cS (fun _ => ?_) fun _ => ?_) | (apply gW; refine sW ?_) | (apply gI; refine sI ?_) | (apply gE; refine sE ?_) | (apply gP; refine sP ?_) | (apply gC; refine sC ?_) | (apply gD; refine sD ?_) | fail)
    refine E_end1 (by rfl) (by rfl) Ev.pf ⟨_, _, rfl, rfl⟩
/-- a number of 64 bits, said by a natural number -/
theorem uvn {m : Nat} (h : m < 18446744073709551616) : Value.int .u64 (m : Int) = uv (UInt64.ofNat m) ∧ (UInt64.ofNat m).toNat = m := by
  have : (UInt64.ofNat m).toNat = m := by rw [UInt64.toNat_ofNat']; omega
  exact ⟨by rw [uv, this], this⟩
theorem wUint_ct {p m : Nat} {bs : List UInt8} (hm : m < 18446744073709551616) (hl : bs.length ≤ 100000000000000) :
    CT Try.prog 30 #[.pointer (some ⟨p, 0, none⟩), .int .u64 (m : Int)] W0 (wr p bs :: L) fun r L' => L' = wr p (bs ++ varint m) :: L := by
  refine ⟨fun w s => ?_⟩
  have := wUint_any s (UInt64.ofNat m) hl
  rw [← (uvn hm).1, (uvn hm).2] at this
  exact this.mono fun e w' ⟨⟨v, hv⟩, h⟩ => ⟨v, _, hv, rfl, h⟩
theorem wInt_ct {p : Nat} {n : Int} {bs : List UInt8} (h1 : -9223372036854775808 ≤ n) (h2 : n ≤ 9223372036854775807) (hl : bs.length ≤ 100000000000000) :
    CT Try.prog 27 #[.pointer (some ⟨p, 0, none⟩), .int .i64 n] W0 (wr p bs :: L) fun r L' => L' = wr p (bs ++ varint (zig n)) :: L := by
  refine ⟨fun w s => ?_⟩
  have := wInt_any s n h1 h2 hl
  rw [zigU, (uvn (m := zig n) (by unfold zig; split <;> omega)).2] at this
  exact this.mono fun e w' ⟨⟨v, hv⟩, h⟩ => ⟨v, _, hv, rfl, h⟩
theorem wr_open {ops : Array Oper} {Q : Exit → Act → World → Prop} {rest : List Oper} {a : Act} {p : Nat} {bs : List UInt8} (k : ∀ A c, OL Try.prog W0 (cel p [.slice A bs.length c] 49 :: own 5 eB (.slice A bs.length c) bs :: L) ops Q rest a) : OL Try.prog W0 (wr p bs :: L) ops Q rest a := by
  refine ⟨fun w s => ?_⟩
  obtain ⟨v, h⟩ := s.wro
  obtain ⟨A, c, rfl, _⟩ := (h.rdo (.tail _ (.head _))).form
  exact (k A c).run w h
theorem wr_sub {p : Nat} {v : Value} {bs : List UInt8} : Sub (cel p [v] 49 :: own 5 eB v bs :: L) (wr p bs :: L) := (sub_close (Ls := [cel p [v] 49, own 5 eB v bs])).trans (sub_ex (F := fun v => sp [cel p [v] 49, own 5 eB v bs]) v)
theorem wText_ct {p : Nat} {bs : List UInt8} (s : ByteArray) (hs : s.size ≤ 1000000000000) (hl : bs.length ≤ 1000000000000) :
    CT Try.prog 54 #[.pointer (some ⟨p, 0, none⟩), .string s] W0 (wr p bs :: L) fun r L' => L' = wr p (bs ++ varint s.size ++ s.data.toList) :: L := by
  have hv := sizeV_le 10 s.size (Nat.lt_of_le_of_lt hs (by decide)) (by decide)
  rw [← varint_len] at hv
  refine CT_enter Try.func54 rfl ?_; (simp only [Try.ntmps54, List.size_toArray, List.length_cons, List.length_nil, Nat.reduceAdd, Nat.reduceSub, Array.replicate_succ, Array.replicate_zero, List.push_toArray, List.append_toArray, List.nil_append, List.cons_append])
  repeat' (first | refine go ?_ | intro _ | (apply cG; first | refine cT ?_ | refine cF ?_ | refine cS (fun _ => ?_) fun _ => ?_) | (apply gW; refine sW ?_) | (apply gI; refine sI ?_) | (apply gE; refine sE ?_) | (apply gP; refine sP ?_) | (apply gC; refine sC ?_) | (apply gD; refine sD ?_) | fail)
  refine O_d (dy_call ArgsI.pf (by first | exact rfl | trivial | (intro a b; rfl)) (wUint_ct (by omega) (by omega))) ?_; rintro _ _ ⟨_, rfl, rfl⟩; refine O_n ?_
  repeat' (first | refine go ?_ | intro _ | (apply cG; first | refine cT ?_ | refine cF ?_ | refine cS (fun _ => ?_) fun _ => ?_) | (apply gW; refine sW ?_) | (apply gI; refine sI ?_) | (apply gE; refine sE ?_) | (apply gP; refine sP ?_) | (apply gC; refine sC ?_) | (apply gD; refine sD ?_) | fail)
  refine wr_open fun A c => ?_
  repeat' (first | refine go ?_ | intro _ | (apply cG; first | refine cT ?_ | refine cF ?_ | refine cS (fun _ => ?_) fun _ => ?_) | (apply gW; refine sW ?_) | (apply gI; refine sI ?_) | (apply gE; refine sE ?_) | (apply gP; refine sP ?_) | (apply gC; refine sC ?_) | (apply gD; refine sD ?_) | fail)
  refine E_sub wr_sub ?_
  refine E_end0 (by first | exact .inl rfl | exact .inr rfl) (by rfl) (by rfl) rfl
theorem wRaw_ct {p : Nat} {v : Value} {l bs : List UInt8} (hv : Src L eB v l) (hs : l.length ≤ 1000000000000) (hl : bs.length ≤ 1000000000000) :
    CT Try.prog 28 #[.pointer (some ⟨p, 0, none⟩), v] W0 (wr p bs :: L) fun r L' => L' = wr p (bs ++ varint l.length ++ l) :: L := by
  replace hv : Sc L v eB l := ⟨hv⟩
  refine CT_enter Try.func28 rfl ?_; (simp only [Try.ntmps28, List.size_toArray, List.length_cons, List.length_nil, Nat.reduceAdd, Nat.reduceSub, Array.replicate_succ, Array.replicate_zero, List.push_toArray, List.append_toArray, List.nil_append, List.cons_append])
  repeat' (first | refine go ?_ | intro _ | (apply cG; first | refine cT ?_ | refine cF ?_ | refine cS (fun _ => ?_) fun _ => ?_) | (apply gW; refine sW ?_) | (apply gI; refine sI ?_) | (apply gE; refine sE ?_) | (apply gP; refine sP ?_) | (apply gC; refine sC ?_) | (apply gD; refine sD ?_) | fail)
  refine O_d (dy_call ArgsI.pf (by first | exact rfl | trivial | (intro a b; rfl)) (wText_ct ⟨l.toArray⟩ (by show l.toArray.size ≤ _; simpa using hs) hl)) ?_; rintro _ _ ⟨_, rfl, rfl⟩; refine O_n ?_
  repeat' (first | refine go ?_ | intro _ | (apply cG; first | refine cT ?_ | refine cF ?_ | refine cS (fun _ => ?_) fun _ => ?_) | (apply gW; refine sW ?_) | (apply gI; refine sI ?_) | (apply gE; refine sE ?_) | (apply gP; refine sP ?_) | (apply gC; refine sC ?_) | (apply gD; refine sD ?_) | fail)
  refine E_end0 (by first | exact .inl rfl | exact .inr rfl) (by rfl) (by rfl) rfl
theorem wDone_ct {p : Nat} {bs : List UInt8} (hl : bs.length ≤ 100000000000000) :
    CT Try.prog 29 #[.pointer (some ⟨p, 0, none⟩)] W0 (wr p bs :: L) fun r L' => ∃ A c, r = .slice A bs.length c ∧ L' = own 5 eB (.slice A bs.length c) bs :: wr p bs :: L := by
  refine CT_enter Try.func29 rfl ?_; (simp only [Try.ntmps29, List.size_toArray, List.length_cons, List.length_nil, Nat.reduceAdd, Nat.reduceSub, Array.replicate_succ, Array.replicate_zero, List.push_toArray, List.append_toArray, List.nil_append, List.cons_append])
  repeat' (first | refine go ?_ | intro _ | (apply cG; first | refine cT ?_ | refine cF ?_ | refine cS (fun _ => ?_) fun _ => ?_) | (apply gW; refine sW ?_) | (apply gI; refine sI ?_) | (apply gE; refine sE ?_) | (apply gP; refine sP ?_) | (apply gC; refine sC ?_) | (apply gD; refine sD ?_) | fail)
  refine wr_open fun A c => ?_
  repeat' (first | refine go ?_ | intro _ | (apply cG; first | refine cT ?_ | refine cF ?_ | refine cS (fun _ => ?_) fun _ => ?_) | (apply gW; refine sW ?_) | (apply gI; refine sI ?_) | (apply gE; refine sE ?_) | (apply gP; refine sP ?_) | (apply gC; refine sC ?_) | (apply gD; refine sD ?_) | fail)
  refine O_d (dy_call ArgsI.pf (by first | exact rfl | trivial | (intro a b; rfl)) (Clone_ct Sc.pf hl)) ?_; rintro _ _ ⟨_, ⟨A', c', rfl, rfl⟩, rfl⟩; refine O_n ?_
  repeat' (first | refine go ?_ | intro _ | (apply cG; first | refine cT ?_ | refine cF ?_ | refine cS (fun _ => ?_) fun _ => ?_) | (apply gW; refine sW ?_) | (apply gI; refine sI ?_) | (apply gE; refine sE ?_) | (apply gP; refine sP ?_) | (apply gC; refine sC ?_) | (apply gD; refine sD ?_) | fail)
  refine E_sub (sub_skip wr_sub) ?_
  refine E_end1 (by rfl) (by rfl) Ev.pf ⟨_, _, rfl, rfl⟩
/-- the encodings of a list's numbers -/
def encI (l : List Int) : List UInt8 := (l.map fun n => varint (zig n)).flatten
theorem encI_snoc (l : List Int) (n : Int) : encI (l ++ [n]) = encI l ++ varint (zig n) := by simp [encI]
theorem zig_lt {n : Int} (h1 : -9223372036854775808 ≤ n) (h2 : n ≤ 9223372036854775807) : zig n < 18446744073709551616 := by unfold zig; split <;> omega
theorem vlen {m : Nat} (h : m < 18446744073709551616) : (varint m).length ≤ 10 := by
  rw [varint_len]; exact sizeV_le 10 m (Nat.lt_of_lt_of_le h (by decide)) (by decide)
theorem encI_len : ∀ {l : List Int}, (∀ n ∈ l, -9223372036854775808 ≤ n ∧ n ≤ 9223372036854775807) → (encI l).length ≤ 10 * l.length
  | [], _ => by simp [encI]
  | n :: l, h => by
    have h1 := encI_len (l := l) fun x hx => h x (.tail _ hx)
    have h2 := h n (.head _)
    have h3 := vlen (zig_lt h2.1 h2.2)
    simp only [encI, List.map_cons, List.flatten_cons, List.length_append, List.length_cons] at *
    omega
theorem take_snoc' {α : Type} {l : List α} {k : Nat} {x : α} (h : l[k]? = some x) : l.take (k + 1) = l.take k ++ [x] := by
  rw [List.take_add_one, h]; rfl
end
end Go.Proofs.Ytbjaecofccpahaa
