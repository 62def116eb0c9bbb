/-
  The wire laws' values, and what writes them.
-/
import Derived.Test.YtjaopndlcghkcaaV5
import Derived.Test.YtjaopndlcghkcaaWz
namespace Go.Proofs.Ytjaopndlcghkcaa
open Go Go.RowKit
set_option linter.unusedVariables false
set_option linter.unusedSimpArgs false
set_option synthInstance.maxSize 100000
set_option synthInstance.maxHeartbeats 400000
/-- a value of the laws: plain -/
structure Val where
  k : Int
  u : Nat
  n : Int
  b : List UInt8
  l : List Int
deriving DecidableEq
/-- and where its slices lie -/
structure VV extends Val where
  vb : Value
  vl : Value
@[simp] def VV.cells (x : VV) : List Value := [.int .i64 x.k, .int .u64 (x.u : Int), .int .i64 x.n, x.vb, x.vl]
theorem Sl.one' {α : Type} {m : Hp} {R : Enc α} {v : Value} {l : List α} (h : Sl m R v l) : v.oneCell' = true := by
  obtain ⟨A, cap, css, hv, _⟩ := h
  rw [hv]; rfl
def eV : Enc VV :=
  ⟨5, fun m x cs => cs = x.cells ∧ Sl m eB x.vb x.b ∧ Sl m eI x.vl x.l, fun hm ⟨e, h1, h2⟩ => ⟨e, h1.mono hm, h2.mono hm⟩, fun ⟨e, _⟩ => by subst e; rfl,
    fun {_ x _} ⟨e, h1, h2⟩ u hu => by
      subst e
      simp only [VV.cells, List.mem_cons, List.not_mem_nil, or_false] at hu
      rcases hu with rfl | rfl | rfl | rfl | rfl
      · rfl
      · rfl
      · rfl
      · exact h1.one'
      · exact h2.one'⟩
instance : Sz eV 5 := ⟨rfl⟩
instance {x : VV} : EncC eV x [.int .i64 x.k, .int .u64 (x.u : Int), .int .i64 x.n, x.vb, x.vl] := ⟨fun _ _ h => h.1⟩
/-- what the value says is written -/
def encV (v : Val) : List UInt8 :=
  if v.k = 0 then varint v.u
  else if v.k = 1 then varint (zig v.n)
  else if v.k = 2 then varint (if v.n = 1 then 1 else 0)
  else if v.k = 3 ∨ v.k = 4 then varint v.b.length ++ v.b
  else varint v.l.length ++ encI v.l
/-- it fits its types and is not long -/
structure Val.ok (v : Val) : Prop where
  k1 : -9223372036854775808 ≤ v.k
  k2 : v.k ≤ 9223372036854775807
  u : v.u < 18446744073709551616
  n1 : -9223372036854775808 ≤ v.n
  n2 : v.n ≤ 9223372036854775807
  b : v.b.length ≤ 1000000
  l : v.l.length ≤ 1000000
  li : ∀ n ∈ v.l, -9223372036854775808 ≤ n ∧ n ≤ 9223372036854775807
theorem All2.get' {α β : Type} {R : α → β → Prop} : ∀ {l : List α} {k : List β} {j : Nat} {x : α}, All2 R l k → l[j]? = some x → ∃ y, k[j]? = some y ∧ R x y
  | a :: l, b :: k, 0, x, h, e => by simp at e; subst e; exact ⟨b, rfl, h.1⟩
  | a :: l, b :: k, j + 1, x, h, e => by simpa using h.2.get' (by simpa using e)
theorem sub_peek {L : List HP} {E : TypeId} {α : Type} {R : Enc α} {v : Value} {l : List α} {j : Nat} {x : α} {Q : Im} (hm : own E R v l ∈ L) (hx : l[j]? = some x) (f : ∀ m cs, R.r m x cs → Q.r m) : Sub L (im Q :: L) := fun m h s => by
  obtain ⟨a, _, css, ha, _⟩ := s.mem hm
  obtain ⟨cs, _, hc⟩ := ha.get' hx
  exact ⟨Hp.none, h, Hp.none_dj _, Hp.none_le _, Hp.le_refl _, f m cs hc, s⟩
theorem sub_peek2 {L : List HP} {E : TypeId} {v : Value} {l : List VV} {j : Nat} {x : VV} (hm : own E eV v l ∈ L) (hx : l[j]? = some x) : Sub L (rd eB x.vb x.b :: rd eI x.vl x.l :: L) := fun m h s =>
  sub_peek (L := rd eI x.vl x.l :: L) (Q := slI eB x.vb x.b) (.tail _ hm) hx (fun m cs h => h.2.1) m h (sub_peek (Q := slI eI x.vl x.l) hm hx (fun m cs h => h.2.2) m h s)
section
variable {W0 : World} {L : List HP}
theorem cells5 (a b c d e : Value) : (Value.agg #[a, b, c, d, e]).cells.toList = [a, b, c, d, e] := rfl
set_option maxHeartbeats 1000000 in
theorem write_ct {p : Nat} {x : VV} {bs : List UInt8} (hx : x.toVal.ok) (h1 : Src L eB x.vb x.b) (h2 : Src L eI x.vl x.l) (hl : bs.length ≤ 100000000000) :
    CT Try.prog 34 #[.pointer (some ⟨p, 0, none⟩), .agg #[.int .i64 x.k, .int .u64 (x.u : Int), .int .i64 x.n, x.vb, x.vl]] W0 (wr p bs :: L) fun r L' => L' = wr p (bs ++ encV x.toVal) :: L := by
  have h1' : Sc L x.vb eB x.b := ⟨h1⟩
  have h2' : Sc L x.vl eI x.l := ⟨h2⟩
  obtain ⟨⟨k, u, n, b, l⟩, vb, vl⟩ := x
  obtain ⟨k1, k2, hu, n1, n2, hb, hli, hlr⟩ := hx
  dsimp only at h1 h2 h1' h2' k1 k2 hu n1 n2 hb hli hlr ⊢
  obtain ⟨out, hout⟩ : ∃ out, encV ⟨k, u, n, b, l⟩ = out := ⟨_, rfl⟩
  rw [hout]
  unfold encV at hout
  dsimp only at hout
  refine CT_enter Try.func34 rfl ?_; (simp only [Try.ntmps34, List.size_toArray, List.length_cons, List.length_nil, Nat.reduceAdd, Nat.reduceSub, Array.replicate_succ, Array.replicate_zero, List.push_toArray, List.append_toArray, List.nil_append, List.cons_append])
  by_cases e0 : k = 0
  · subst e0
    rw [if_pos rfl] at hout
    subst hout
    repeat' (first | refine go ?_ | intro _ | (apply cG; first | refine cT ?_ | refine cF ?_ | refine cS (fun _ => ?_) fun _ => ?_) | (apply gW; refine sW ?_) | (apply gI; refine sI ?_) | (apply gE; refine sE ?_) | (apply gP; refine sP ?_) | (apply gC; refine sC ?_) | (apply gD; refine sD ?_) | fail)
    refine O_d (dy_call ArgsI.pf (by first | exact rfl | trivial | (intro a b; rfl)) (CT.pull (i := 1) (by rfl) (wUint_ct hu (by omega)))) ?_; rintro _ _ ⟨_, rfl, rfl⟩; refine O_n ?_
    repeat' (first | refine go ?_ | intro _ | (apply cG; first | refine cT ?_ | refine cF ?_ | refine cS (fun _ => ?_) fun _ => ?_) | (apply gW; refine sW ?_) | (apply gI; refine sI ?_) | (apply gE; refine sE ?_) | (apply gP; refine sP ?_) | (apply gC; refine sC ?_) | (apply gD; refine sD ?_) | fail)
    refine E_sub (sub_skip (sub_drop (Sub.refl _))) ?_
    refine E_end0 (by first | exact .inl rfl | exact .inr rfl) (by rfl) (by rfl) rfl
  rw [if_neg e0] at hout
  by_cases e1 : k = 1
  · subst e1
    rw [if_pos rfl] at hout
    subst hout
    repeat' (first | refine go ?_ | intro _ | (apply cG; first | refine cT ?_ | refine cF ?_ | refine cS (fun _ => ?_) fun _ => ?_) | (apply gW; refine sW ?_) | (apply gI; refine sI ?_) | (apply gE; refine sE ?_) | (apply gP; refine sP ?_) | (apply gC; refine sC ?_) | (apply gD; refine sD ?_) | fail)
    refine O_d (dy_call ArgsI.pf (by first | exact rfl | trivial | (intro a b; rfl)) (CT.pull (i := 1) (by rfl) (wInt_ct n1 n2 (by omega)))) ?_; rintro _ _ ⟨_, rfl, rfl⟩; refine O_n ?_
    repeat' (first | refine go ?_ | intro _ | (apply cG; first | refine cT ?_ | refine cF ?_ | refine cS (fun _ => ?_) fun _ => ?_) | (apply gW; refine sW ?_) | (apply gI; refine sI ?_) | (apply gE; refine sE ?_) | (apply gP; refine sP ?_) | (apply gC; refine sC ?_) | (apply gD; refine sD ?_) | fail)
    refine E_sub (sub_skip (sub_drop (Sub.refl _))) ?_
    refine E_end0 (by first | exact .inl rfl | exact .inr rfl) (by rfl) (by rfl) rfl
  rw [if_neg e1] at hout
  by_cases e2 : k = 2
  · subst e2
    rw [if_pos rfl] at hout
    subst hout
    by_cases en : n = 1
    · subst en
      repeat' (first | refine go ?_ | intro _ | (apply cG; first | refine cT ?_ | refine cF ?_ | refine cS (fun _ => ?_) fun _ => ?_) | (apply gW; refine sW ?_) | (apply gI; refine sI ?_) | (apply gE; refine sE ?_) | (apply gP; refine sP ?_) | (apply gC; refine sC ?_) | (apply gD; refine sD ?_) | fail)
      refine O_d (dy_call ArgsI.pf (by first | exact rfl | trivial | (intro a b; rfl)) (CT.pull (i := 1) (by rfl) (wBool_ct (b := true) (by omega)))) ?_; rintro _ _ ⟨_, rfl, rfl⟩; refine O_n ?_
      repeat' (first | refine go ?_ | intro _ | (apply cG; first | refine cT ?_ | refine cF ?_ | refine cS (fun _ => ?_) fun _ => ?_) | (apply gW; refine sW ?_) | (apply gI; refine sI ?_) | (apply gE; refine sE ?_) | (apply gP; refine sP ?_) | (apply gC; refine sC ?_) | (apply gD; refine sD ?_) | fail)
      refine E_sub (sub_skip (sub_drop (Sub.refl _))) ?_
      refine E_end0 (by first | exact .inl rfl | exact .inr rfl) (by rfl) (by rfl) rfl
    · rw [if_neg en]
      repeat' (first | refine go ?_ | intro _ | (apply cG; first | refine cT ?_ | refine cF ?_ | refine cS (fun _ => ?_) fun _ => ?_) | (apply gW; refine sW ?_) | (apply gI; refine sI ?_) | (apply gE; refine sE ?_) | (apply gP; refine sP ?_) | (apply gC; refine sC ?_) | (apply gD; refine sD ?_) | fail)
      refine O_d (dy_call ArgsI.pf (by first | exact rfl | trivial | (intro a b; rfl)) (CT.pull (i := 1) (by rfl) (wBool_ct (b := false) (by omega)))) ?_; rintro _ _ ⟨_, rfl, rfl⟩; refine O_n ?_
      repeat' (first | refine go ?_ | intro _ | (apply cG; first | refine cT ?_ | refine cF ?_ | refine cS (fun _ => ?_) fun _ => ?_) | (apply gW; refine sW ?_) | (apply gI; refine sI ?_) | (apply gE; refine sE ?_) | (apply gP; refine sP ?_) | (apply gC; refine sC ?_) | (apply gD; refine sD ?_) | fail)
      refine E_sub (sub_skip (sub_drop (Sub.refl _))) ?_
      refine E_end0 (by first | exact .inl rfl | exact .inr rfl) (by rfl) (by rfl) rfl
  rw [if_neg e2] at hout
  by_cases e3 : k = 3
  · subst e3
    rw [if_pos (.inl rfl)] at hout
    subst hout
    repeat' (first | refine go ?_ | intro _ | (apply cG; first | refine cT ?_ | refine cF ?_ | refine cS (fun _ => ?_) fun _ => ?_) | (apply gW; refine sW ?_) | (apply gI; refine sI ?_) | (apply gE; refine sE ?_) | (apply gP; refine sP ?_) | (apply gC; refine sC ?_) | (apply gD; refine sD ?_) | fail)
    refine O_d (dy_call ArgsI.pf (by first | exact rfl | trivial | (intro a b; rfl)) (CT.pull (i := 1) (by rfl) (wText_ct ⟨b.toArray⟩ (by show b.toArray.size ≤ _; simp; omega) (by omega)))) ?_; rintro _ _ ⟨_, rfl, rfl⟩; refine O_n ?_
    repeat' (first | refine go ?_ | intro _ | (apply cG; first | refine cT ?_ | refine cF ?_ | refine cS (fun _ => ?_) fun _ => ?_) | (apply gW; refine sW ?_) | (apply gI; refine sI ?_) | (apply gE; refine sE ?_) | (apply gP; refine sP ?_) | (apply gC; refine sC ?_) | (apply gD; refine sD ?_) | fail)
    rw [List.append_assoc]
    refine E_sub (sub_skip (sub_drop (Sub.refl _))) ?_
    refine E_end0 (by first | exact .inl rfl | exact .inr rfl) (by rfl) (by rfl) rfl
  by_cases e4 : k = 4
  · subst e4
    rw [if_pos (.inr rfl)] at hout
    subst hout
    repeat' (first | refine go ?_ | intro _ | (apply cG; first | refine cT ?_ | refine cF ?_ | refine cS (fun _ => ?_) fun _ => ?_) | (apply gW; refine sW ?_) | (apply gI; refine sI ?_) | (apply gE; refine sE ?_) | (apply gP; refine sP ?_) | (apply gC; refine sC ?_) | (apply gD; refine sD ?_) | fail)
    refine O_d (dy_call ArgsI.pf (by first | exact rfl | trivial | (intro a b; rfl)) (CT.pull (i := 1) (by rfl) (wRaw_ct (v := vb) (l := b) h1.c (by omega) (by omega)))) ?_; rintro _ _ ⟨_, rfl, rfl⟩; refine O_n ?_
    repeat' (first | refine go ?_ | intro _ | (apply cG; first | refine cT ?_ | refine cF ?_ | refine cS (fun _ => ?_) fun _ => ?_) | (apply gW; refine sW ?_) | (apply gI; refine sI ?_) | (apply gE; refine sE ?_) | (apply gP; refine sP ?_) | (apply gC; refine sC ?_) | (apply gD; refine sD ?_) | fail)
    rw [List.append_assoc]
    refine E_sub (sub_skip (sub_drop (Sub.refl _))) ?_
    refine E_end0 (by first | exact .inl rfl | exact .inr rfl) (by rfl) (by rfl) rfl
  rw [if_neg (by omega)] at hout
  subst hout
  repeat' (first | refine go ?_ | intro _ | (apply cG; first | refine cT ?_ | refine cF ?_ | refine cS (fun _ => ?_) fun _ => ?_) | (apply gW; refine sW ?_) | (apply gI; refine sI ?_) | (apply gE; refine sE ?_) | (apply gP; refine sP ?_) | (apply gC; refine sC ?_) | (apply gD; refine sD ?_) | fail)
  refine O_d (dy_call ArgsI.pf (by first | exact rfl | trivial | (intro a b; rfl)) (CT.pull (i := 1) (by rfl) (wInts_ct (v := vl) (l := l) h2.c hlr (by omega) (by omega)))) ?_; rintro _ _ ⟨_, rfl, rfl⟩; refine O_n ?_
  repeat' (first | refine go ?_ | intro _ | (apply cG; first | refine cT ?_ | refine cF ?_ | refine cS (fun _ => ?_) fun _ => ?_) | (apply gW; refine sW ?_) | (apply gI; refine sI ?_) | (apply gE; refine sE ?_) | (apply gP; refine sP ?_) | (apply gC; refine sC ?_) | (apply gD; refine sD ?_) | fail)
  rw [List.append_assoc]
  refine E_sub (sub_skip (sub_drop (Sub.refl _))) ?_
  refine E_end0 (by first | exact .inl rfl | exact .inr rfl) (by rfl) (by rfl) rfl
end
end Go.Proofs.Ytjaopndlcghkcaa
