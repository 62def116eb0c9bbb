/-
  Walks: DiskPrefix.
-/
import Derived.Deep.Matrix
import Derived.Test.YtikdelkcpapgdaaMS
import Derived.Test.YtikdelkcpapgdaaMC
namespace Go.Proofs.Ytikdelkcpapgdaa
open Go Go.RowKit
set_option linter.unusedVariables false
set_option linter.unusedSimpArgs false
set_option maxRecDepth 20000
set_option synthInstance.maxSize 100000
set_option synthInstance.maxHeartbeats 400000
instance : Sz (eSl eB) 1 := ⟨rfl⟩
theorem xor_self8 (y : UInt8) : bits .xor .u8 (y.toNat : Int) (y.toNat : Int) = 0 := by
  have h : ∀ (y : Fin 256), bits .xor .u8 (y.val : Int) (y.val : Int) = 0 := by decide +kernel
  exact h ⟨y.toNat, y.toNat_lt⟩
theorem fl8_xor {y : UInt8} {s : Nat} (hs : s < 8) : bits .xor .u8 ((fl8 y s).toNat : Int) (y.toNat : Int) = ((2 ^ s : Nat) : Int) := by
  rw [← (fl8_eq hs).1]
  have h : ∀ (k : Fin 8) (y : Fin 256), bits .xor .u8 (bits .xor .u8 (y.val : Int) (IntKind.u8.wrap (1 * 2 ^ k.val))) (y.val : Int) = ((2 ^ k.val : Nat) : Int) := by decide +kernel
  exact h ⟨s, hs⟩ ⟨y.toNat, y.toNat_lt⟩
/-- where a crash turns a bit; from where on: no such place -/
theorem turnB_pl {z : Int} {D m : Nat} {b : List UInt8} (hl : b.length = D + m) : ∃ P s : Nat, s < 8 ∧ (P < b.length ↔ (0 ≤ z ∧ 0 < m)) ∧ (P < b.length → D ≤ P) ∧
    (∀ i : Nat, i < b.length → ∀ y, b[i]? = some y → (turnB z D m b)[i]? = some (if i = P then fl8 y s else y)) := by
  by_cases h : 0 ≤ z ∧ 0 < m
  · obtain ⟨hz, hm⟩ := h
    have h1 := Int.emod_nonneg z (b := ((8 * m : Nat) : Int)) (by omega)
    have h2 := Int.emod_lt_of_pos z (b := ((8 * m : Nat) : Int)) (by omega)
    obtain ⟨k, hk⟩ : ∃ k : Nat, (z % ((8 * m : Nat) : Int)).toNat = k := ⟨_, rfl⟩
    have hk8 : k < 8 * m := by omega
    have hp : D + k / 8 < b.length := by omega
    refine ⟨D + k / 8, 7 - k % 8, by omega, ⟨fun _ => ⟨hz, hm⟩, fun _ => hp⟩, fun _ => by omega, fun i hi y hy => ?_⟩
    unfold turnB
    rw [if_pos ⟨hz, hm⟩, hk]
    by_cases he : i = D + k / 8
    · subst he
      rw [if_pos rfl, List.getElem?_set_self hp, List.getD_eq_getElem?_getD, hy]
      rfl
    · rw [if_neg he, List.getElem?_set_ne (fun h => he h.symm), hy]
  · refine ⟨b.length, 0, by decide, ⟨fun h2 => absurd h2 (Nat.lt_irrefl _), fun h2 => absurd h2 h⟩, fun h2 => absurd h2 (Nat.lt_irrefl _), fun i hi y hy => ?_⟩
    unfold turnB
    rw [if_neg h, if_neg (by omega), hy]
structure XS where
  i : Nat
  firm : Nat
  A : Option Addr
  c : Nat
  all : List UInt8
  f : List (Int × DF)
def catF (ll : List (List UInt8)) : List UInt8 := (ll.map fun b => b.take 20).flatten
section
variable {W0 : World} {L : List HP}
set_option maxHeartbeats 4000000 in
theorem DiskPrefix_ct {synced keep flip : Int} {v : Value} {ll : List (List UInt8)} (hv : rd (eSl eB) v ll ∈ L) (hl : ll.length ≤ 9223372036854775807) (hbl : ∀ b ∈ ll, b.length ≤ 9223372036854775807) (hs1 : -9223372036854775808 ≤ synced) (hs2 : synced ≤ 9223372036854775807) (hk1 : -9223372036854775808 ≤ keep) (hk2 : keep ≤ 9223372036854775807) (hz1 : -9223372036854775808 ≤ flip) (hz2 : flip ≤ 9223372036854775807) :
    CT Try.prog 3 #[v, .int .i64 synced, .int .i64 keep, .int .i64 flip] W0 L fun r L' => r = .bool true ∧ L' = L := by
  refine CT_fact (fun w s => ((Src.sl (.inl hv) s).form)) ?_
  rintro ⟨A, c, rfl, hc⟩
  have hva : ScA A L ll.length c (eSl eB) ll := ⟨.inl hv⟩
  refine CT_enter Try.func3 rfl ?_; (simp only [Try.ntmps3, List.size_toArray, List.length_cons, List.length_nil, Nat.reduceAdd, Nat.reduceSub, Array.replicate_succ, Array.replicate_zero, List.push_toArray, List.append_toArray, List.nil_append, List.cons_append])
  repeat' (first | refine go ?_ | intro _ | (apply cG; first | refine cT ?_ | refine cF ?_ | refine cS (fun _ => ?_) fun _ => ?_) | (apply gW; refine sW ?_) | (apply gI; refine sI ?_) | (apply gE; refine sE ?_) | (apply gP; refine sP ?_) | (apply gC; refine sC ?_) | (apply gD; refine sD ?_) | fail)
  refine O_d (dy_call ArgsI.pf (by first | exact rfl | trivial | (intro a b; rfl)) (dNew_ct (room := 1000) (by decide) (by decide))) ?_; rintro _ _ ⟨_, ⟨p, rfl, rfl⟩, rfl⟩; refine O_n ?_
  have hj0 : J1 ⟨[], 1000, false, false, 0⟩ 9 1000 [] 0 := J1.begun (by decide) (by decide) 9
  have hfk : (0 : Int) ≤ 9 ∧ (9 : Int) < 64 := by decide
  repeat' (first | refine go ?_ | intro _ | (apply cG; first | refine cT ?_ | refine cF ?_ | refine cS (fun _ => ?_) fun _ => ?_) | (apply gW; refine sW ?_) | (apply gI; refine sI ?_) | (apply gE; refine sE ?_) | (apply gP; refine sP ?_) | (apply gC; refine sC ?_) | (apply gD; refine sD ?_) | fail)
  refine O_d (dy_call ArgsI.pf (by first | exact rfl | trivial | (intro a b; rfl)) (Around_ct (most := 6) hs1 hs2 (by decide) (by decide))) ?_; rintro _ _ ⟨_, ⟨rfl, hLL⟩, rfl⟩; replace hLL := hLL.symm; subst hLL; refine O_n ?_
  obtain ⟨sa, hsa, hsa2⟩ : ∃ k : Nat, around synced 6 = (k : Int) ∧ k < 6 := by
    have := around_in (n := synced) (most := 6) (by decide)
    exact ⟨(around synced 6).toNat, by omega, by omega⟩
  rw [hsa]
  repeat' (first | refine go ?_ | intro _ | (apply cG; first | refine cT ?_ | refine cF ?_ | refine cS (fun _ => ?_) fun _ => ?_) | (apply gW; refine sW ?_) | (apply gI; refine sI ?_) | (apply gE; refine sE ?_) | (apply gP; refine sP ?_) | (apply gC; refine sC ?_) | (apply gD; refine sD ?_) | fail)
  refine C_ownnil 5 eB ?_
  refine C_sub (S := own 5 eB (.slice none 0 0) [] :: dsk p ⟨[], 1000, false, false, 0⟩ :: L) Sb ?_
  refine C_loopS (κ := XS) [false, false, false, false, false, false, false, false, false, false, false, true, true, false, true, true, false, false, false, false, false, false, false, false, false, false, false, false, false, false, false, false, false, false, true, true, true, true, true, true, true, true, true, true, true, true, true, true, true, true, true, true, true, true, true, true, true, true, true, true, true, true, false, false, false, false, false, false, false, false, false, false, false, false, false, false, false, false, false, false, false, false, false, false, false, false, false, false, false, false, false, false, false, false, false, false, false, false, false, false, false, false, false, false, false, false, false, false, false, false, false, false, false, false, false, false, false, false, false, false, false, false, false, false, false, false, false, false, false, false, false, false, false, false, false, false, false, false] (fun k => [(11, .slice k.A k.all.length k.c), (12, .int .i64 (k.firm : Int)), (14, .int .i64 (k.i : Int))]) (fun k => [(0, own 5 eB (.slice k.A k.all.length k.c) k.all), (1, dsk p ⟨k.f, 1000, false, false, 0⟩)]) (fun k => k.i ≤ ll.length ∧ k.i ≤ 6 ∧ k.all.length ≤ 20 * k.i ∧ J1 ⟨k.f, 1000, false, false, 0⟩ 9 1000 k.all k.firm) (fun k => 6 - k.i) ⟨0, 0, none, 0, [], []⟩ ⟨Nat.zero_le _, Nat.zero_le _, Nat.le_refl _, hj0⟩ ⟨rfl, rfl, rfl, trivial⟩ ?_ Sb
  rintro ⟨i, firm, A1, c1, all, f⟩ u ⟨hi, hi6, hal, hj⟩
  dsimp only at hi hi6 hal hj
  dsimp only
  ((try dsimp only); refine C_n ?_; (try simp only [Nat.reduceAdd, Nat.zero_add]))
  have hD := hj.dl
  by_cases hlt : i < ll.length ∧ i < 6
  · obtain ⟨hlt1, hlt2⟩ := hlt
    obtain ⟨x, hx⟩ : ∃ x, ll[i]? = some x := ⟨_, List.getElem?_eq_getElem hlt1⟩
    have hax : At ll i x := ⟨hx⟩
    have hxl := hbl x (List.mem_of_getElem? hx)
    repeat' (first | refine go ?_ | intro _ | (apply cG; first | refine cT ?_ | refine cF ?_ | refine cS (fun _ => ?_) fun _ => ?_) | (apply gW; refine sW ?_) | (apply gI; refine sI ?_) | (apply gE; refine sE ?_) | (apply gP; refine sP ?_) | (apply gC; refine sC ?_) | (apply gD; refine sD ?_) | fail)
    refine O_d (dy_call ArgsI.pf (by first | exact rfl | trivial | (intro a b; rfl)) (Few_ct (.head _) hxl (most := 20) (by decide) (by decide))) ?_; rintro _ _ ⟨_, ⟨A5, c5, rfl, rfl⟩, rfl⟩; refine O_n ?_
    obtain ⟨fb, hfb⟩ : ∃ fb, x.take (Int.toNat 20) = fb := ⟨_, rfl⟩
    have hfbl : fb.length ≤ 20 := by rw [← hfb]; exact List.length_take_le _ _
    rw [hfb]
    refine O_frz 0 ?_
    repeat' (first | refine go ?_ | intro _ | (apply cG; first | refine cT ?_ | refine cF ?_ | refine cS (fun _ => ?_) fun _ => ?_) | (apply gW; refine sW ?_) | (apply gI; refine sI ?_) | (apply gE; refine sE ?_) | (apply gP; refine sP ?_) | (apply gC; refine sC ?_) | (apply gD; refine sD ?_) | fail)
    refine O_d (dy_call ArgsI.pf (by first | exact rfl | trivial | (intro a b; rfl)) (CT.pull (i := 3) (by rfl) (Append_na hj hfk (b := fb) (.inl (.head _)) (by omega) (by omega) (by decide) (by decide)))) ?_; rintro _ _ ⟨_, ⟨f1, hj1, rfl, rfl⟩, rfl⟩; refine O_n ?_
    have hal2 : (all ++ fb).length = all.length + fb.length := List.length_append
    obtain ⟨ab, hab⟩ : ∃ ab, all ++ fb = ab := ⟨_, rfl⟩
    rw [hab] at hal2 hj1
    by_cases hisa : i = sa
    · repeat' (first | refine go ?_ | intro _ | (apply cG; first | refine cT ?_ | refine cF ?_ | refine cS (fun _ => ?_) fun _ => ?_) | (apply gW; refine sW ?_) | (apply gI; refine sI ?_) | (apply gE; refine sE ?_) | (apply gP; refine sP ?_) | (apply gC; refine sC ?_) | (apply gD; refine sD ?_) | fail)
      rw [hab, ← hal2]
      refine O_d (dy_call ArgsI.pf (by first | exact rfl | trivial | (intro a b; rfl)) (CT.pull (i := 0) (by rfl) (Sync_na hj1 (by decide) (by decide)))) ?_; rintro _ _ ⟨_, ⟨f2, hj2, rfl, rfl⟩, rfl⟩; refine O_n ?_
      repeat' (first | refine go ?_ | intro _ | (apply cG; first | refine cT ?_ | refine cF ?_ | refine cS (fun _ => ?_) fun _ => ?_) | (apply gW; refine sW ?_) | (apply gI; refine sI ?_) | (apply gE; refine sE ?_) | (apply gP; refine sP ?_) | (apply gC; refine sC ?_) | (apply gD; refine sD ?_) | fail)
      exact E_round ⟨i + 1, ab.length, _, _, ab, f2⟩ ⟨by dsimp only; omega, by dsimp only; omega, by dsimp only; omega, hj2⟩ (by show 6 - (i + 1) < 6 - i; omega) ⟨rfl, rfl, rfl, trivial⟩ Sb
    · repeat' (first | refine go ?_ | intro _ | (apply cG; first | refine cT ?_ | refine cF ?_ | refine cS (fun _ => ?_) fun _ => ?_) | (apply gW; refine sW ?_) | (apply gI; refine sI ?_) | (apply gE; refine sE ?_) | (apply gP; refine sP ?_) | (apply gC; refine sC ?_) | (apply gD; refine sD ?_) | fail)
      rw [hab, ← hal2]
      exact E_round ⟨i + 1, firm, _, _, ab, f1⟩ ⟨by dsimp only; omega, by dsimp only; omega, by dsimp only; omega, hj1⟩ (by show 6 - (i + 1) < 6 - i; omega) ⟨rfl, rfl, rfl, trivial⟩ Sb
  obtain ⟨m, hm⟩ : ∃ m, keepN [keep] 0 all.length firm = m := ⟨_, rfl⟩
  have hmD := keepN_le [keep] 0 all.length firm hD
  rw [hm] at hmD
  have hbl1 : (all.take (firm + m)).length = firm + m := by rw [List.length_take]; omega
  have hcr : crB [keep] flip firm all = turnB flip firm m (all.take (firm + m)) := by unfold crB; rw [hm]
  have hcl := turnB_len flip firm m (all.take (firm + m))
  have hcf := crB_firm [keep] flip firm all hD
  obtain ⟨P, s, hs8, hPn, hPD, hPi⟩ := turnB_pl (z := flip) hbl1
  rw [← hcr] at hcl hPi
  obtain ⟨C, hC⟩ : ∃ C, crB [keep] flip firm all = C := ⟨_, rfl⟩
  rw [hC] at hcl hPi hcf
  rw [hbl1] at hcl hPn hPD hPi
  have hm0 : (max 0 (min keep ((all.length : Int) - (firm : Int)))).toNat = m := by rw [← hm]; rfl
  obtain ⟨mi, hmi⟩ : ∃ mi : Int, min keep ((all.length : Int) - (firm : Int)) = mi := ⟨_, rfl⟩
  rw [hmi] at hm0
  have hmin : (if ((all.length : Int) - (firm : Int)) < keep then ((all.length : Int) - (firm : Int)) else keep) = mi := by split <;> omega
  have hmax : (if (0 : Int) < mi then mi else 0) = (m : Int) := by split <;> omega
  clear hm hmi hcr hbl1
  have hlt2 : ¬ (i < ll.length) ∨ (i < ll.length ∧ ¬ i < 6) := by omega
  rcases hlt2 with hlt2 | ⟨hlt2, hlt3⟩
  all_goals
    repeat' (first | refine go ?_ | intro _ | (apply cG; first | refine cT ?_ | refine cF ?_ | refine cS (fun _ => ?_) fun _ => ?_) | (apply gW; refine sW ?_) | (apply gI; refine sI ?_) | (apply gE; refine sE ?_) | (apply gP; refine sP ?_) | (apply gC; refine sC ?_) | (apply gD; refine sD ?_) | fail)
    refine O_d (dy_litP (f := iv) (hf := fun _ => rfl) [keep] (by rfl)) ?_; rintro _ LI' ⟨_, rfl, hLL⟩; replace hLL : LI' = own _ eI _ _ :: _ := hLL; subst hLL; refine O_n ?_
    refine O_frz 0 ?_
    repeat' (first | refine go ?_ | intro _ | (apply cG; first | refine cT ?_ | refine cF ?_ | refine cS (fun _ => ?_) fun _ => ?_) | (apply gW; refine sW ?_) | (apply gI; refine sI ?_) | (apply gE; refine sE ?_) | (apply gP; refine sP ?_) | (apply gC; refine sC ?_) | (apply gD; refine sD ?_) | fail)
    refine O_front 2 rfl EAt.pf ?_
    refine O_d (dy_call ArgsI.pf (by first | exact rfl | trivial | (intro a b; rfl)) (Crash_na (kp := [keep]) (z := flip) hj (.head _) (by show 1 ≤ 1000000000; decide) (fun y hy => by simp only [List.mem_cons, List.not_mem_nil, or_false] at hy; subst hy; exact ⟨hk1, hk2⟩) hz1 hz2)) ?_; rintro _ _ ⟨_, ⟨f2, hj2, rfl, rfl⟩, rfl⟩; refine O_n ?_
    rw [hC] at hj2
    repeat' (first | refine go ?_ | intro _ | (apply cG; first | refine cT ?_ | refine cF ?_ | refine cS (fun _ => ?_) fun _ => ?_) | (apply gW; refine sW ?_) | (apply gI; refine sI ?_) | (apply gE; refine sE ?_) | (apply gP; refine sP ?_) | (apply gC; refine sC ?_) | (apply gD; refine sD ?_) | fail)
    refine O_d (dy_call ArgsI.pf (by first | exact rfl | trivial | (intro a b; rfl)) (CT.pull (i := 0) (by rfl) (Read_j hj2 hfk))) ?_; rintro _ _ ⟨_, ⟨A9, c9, rfl, rfl⟩, rfl⟩; refine O_n ?_
    repeat' (first | refine go ?_ | intro _ | (apply cG; first | refine cT ?_ | refine cF ?_ | refine cS (fun _ => ?_) fun _ => ?_) | (apply gI; refine sI ?_) | (apply gE; refine sE ?_) | (apply gP; refine sP ?_) | (apply gC; refine sC ?_) | (apply gD; refine sD ?_) | fail)
    apply gW; refine sW (r := (all.length : Int) - (firm : Int)) ?_ (wr_i64 (by omega) (by omega))
    repeat' (first | refine go ?_ | intro _ | (apply cG; first | refine cT ?_ | refine cF ?_ | refine cS (fun _ => ?_) fun _ => ?_) | (apply gI; refine sI ?_) | (apply gE; refine sE ?_) | (apply gP; refine sP ?_) | (apply gC; refine sC ?_) | (apply gD; refine sD ?_) | fail)
    apply gW; refine sW (r := mi) ?_ hmin
    repeat' (first | refine go ?_ | intro _ | (apply cG; first | refine cT ?_ | refine cF ?_ | refine cS (fun _ => ?_) fun _ => ?_) | (apply gI; refine sI ?_) | (apply gE; refine sE ?_) | (apply gP; refine sP ?_) | (apply gC; refine sC ?_) | (apply gD; refine sD ?_) | fail)
    apply gW; refine sW (r := (m : Int)) ?_ hmax
    repeat' (first | refine go ?_ | intro _ | (apply cG; first | refine cT ?_ | refine cF ?_ | refine cS (fun _ => ?_) fun _ => ?_) | (apply gI; refine sI ?_) | (apply gE; refine sE ?_) | (apply gP; refine sP ?_) | (apply gC; refine sC ?_) | (apply gD; refine sD ?_) | fail)
    apply gW; refine sW (r := ((firm + m : Nat) : Int)) ?_ (wr_i64 (by omega) (by omega))
    repeat' (first | refine go ?_ | intro _ | (apply cG; first | refine cT ?_ | refine cF ?_ | refine cS (fun _ => ?_) fun _ => ?_) | (apply gW; refine sW ?_) | (apply gI; refine sI ?_) | (apply gE; refine sE ?_) | (apply gP; refine sP ?_) | (apply gC; refine sC ?_) | (apply gD; refine sD ?_) | fail)
    refine C_loopS (κ := Nat) [false, false, false, false, false, false, false, false, false, false, false, false, false, false, false, false, false, false, false, true, true, true, false, false, false, false, false, false, false, false, false, false, false, false, false, false, false, false, false, false, false, false, false, false, false, false, false, false, false, false, false, false, false, false, false, false, false, false, false, false, false, false, false, false, false, false, false, false, false, false, false, false, false, false, false, false, false, false, false, false, false, false, false, false, false, false, false, false, false, true, true, true, true, true, true, true, true, true, true, true, true, true, true, true, true, true, true, true, true, true, true, true, false, false, false, false, false, false, false, false, false, false, false, false, false, false, false, false, false, false, false, false, false, false, false, false, false, false] (fun k => [(19, .int .i64 ((if P < k then 1 else 0 : Nat) : Int)), (20, .int .i64 (k : Int))]) (fun k => []) (fun k => k ≤ firm + m) (fun k => firm + m - k) 0 (Nat.zero_le _) ⟨rfl, rfl, trivial⟩ ?_
    rintro j u2 hjm
    ((try dsimp only); refine C_n ?_; (try simp only [Nat.reduceAdd, Nat.zero_add]))
    by_cases hjlt : j < firm + m
    · obtain ⟨y, hy⟩ : ∃ y, all[j]? = some y := ⟨_, List.getElem?_eq_getElem (by omega)⟩
      have hay : At all j y := ⟨hy⟩
      have hCy := hPi j hjlt y (by rw [List.getElem?_take, if_pos hjlt]; exact hy)
      obtain ⟨cy, hcy⟩ : ∃ cy, (if j = P then fl8 y s else y) = cy := ⟨_, rfl⟩
      rw [hcy] at hCy
      have hacy : At C j cy := ⟨hCy⟩
      have hxor : bits .xor .u8 (cy.toNat : Int) (y.toNat : Int) = ((if j = P then 2 ^ s else 0 : Nat) : Int) := by
        rw [← hcy]
        split
        · exact fl8_xor hs8
        · exact xor_self8 y
      refine C_fact (φ := A9 = none → C = []) (fun w s hA => by subst hA; exact (Src.sl (.inr ⟨_, .head _⟩) s : Sl _ eB _ C).nil_of) fun hA => ?_
      obtain ⟨ad9, rfl⟩ : ∃ ad, A9 = some ad := by
        cases A9 with
        | none => have := hA rfl; rw [this] at hcl; simp only [List.length_nil] at hcl; omega
        | some ad => exact ⟨ad, rfl⟩
      refine C_fact (φ := A1 = none → all = []) (fun w s hA => by subst hA; exact (Src.sl (.inr ⟨_, .tail _ (.tail _ (.tail _ (.head _)))⟩) s : Sl _ eB _ all).nil_of) fun hA => ?_
      obtain ⟨ad1, rfl⟩ : ∃ ad, A1 = some ad := by
        cases A1 with
        | none => have := hA rfl; rw [this] at hmD; simp only [List.length_nil] at hmD; omega
        | some ad => exact ⟨ad, rfl⟩
      repeat' (first | refine go ?_ | intro _ | (apply cG; first | refine cT ?_ | refine cF ?_ | refine cS (fun _ => ?_) fun _ => ?_) | (apply gW; refine sW ?_) | (apply gI; refine sI ?_) | (apply gE; refine sE ?_) | (apply gP; refine sP ?_) | (apply gC; refine sC ?_) | (apply gD; refine sD ?_) | fail)
      refine C_draw (n := 99) [own 5 eB (.slice (some ad9) C.length c9) C, own 5 eB (.slice (some ad1) all.length c1) all] [(0, 1), (1, 1), (2, 1), (3, 1), (4, 1), (5, 1), (6, 1), (7, 1), (8, 1), (9, 1)] (by kernel_rfl) (by kernel_rfl) Sb ?_
      repeat' (first | refine go ?_ | intro _ | (apply cG; first | refine cT ?_ | refine cF ?_ | refine cS (fun _ => ?_) fun _ => ?_) | (apply gI; refine sI ?_) | (apply gE; refine sE ?_) | (apply gP; refine sP ?_) | (apply gC; refine sC ?_) | (apply gD; refine sD ?_) | fail)
      refine D_op rfl ?_; refine X_s (sv_xor (hr := hxor)) ?_
      repeat' (first | refine go ?_ | intro _ | (apply cG; first | refine cT ?_ | refine cF ?_ | refine cS (fun _ => ?_) fun _ => ?_) | (apply gI; refine sI ?_) | (apply gE; refine sE ?_) | (apply gP; refine sP ?_) | (apply gC; refine sC ?_) | (apply gD; refine sD ?_) | fail)
      have hst : (∃ q, q < 8 ∧ (if j = P then 2 ^ s else 0) = 2 ^ q ∧ j = P ∧ (if P < j then 1 else 0) = 0) ∨ ((if j = P then 2 ^ s else 0) = 0 ∧ (if P < j then 1 else 0) = if P < j + 1 then 1 else 0) := by
        by_cases hjP : j = P
        · left
          exact ⟨s, hs8, by rw [if_pos hjP], hjP, by rw [if_neg (by omega)]⟩
        · right
          refine ⟨by rw [if_neg hjP], ?_⟩
          by_cases hPj : P < j
          · rw [if_pos hPj, if_pos (by omega)]
          · rw [if_neg hPj, if_neg (by omega)]
      refine C_loopS (κ := Nat × Nat) [false, false, false, false, false, false, false, false, false, false, false, false, false, false, false, false, false, false, false, true, false, true, false, false, false, false, false, false, false, false, false, false, false, false, false, false, false, false, false, false, false, false, false, false, false, false, false, false, false, false, false, false, false, false, false, false, false, false, false, false, false, false, false, false, false, false, false, false, false, false, false, false, false, false, false, false, false, false, false, false, false, false, false, false, false, false, false, false, false, false, false, false, false, false, false, false, false, false, false, false, false, false, false, true, true, true, true, true, true, true, true, true, false, false, false, false, false, false, false, false, false, false, false, false, false, false, false, false, false, false, false, false, false, false, false, false, false, false] (fun k => [(19, .int .i64 (k.2 : Int)), (21, .int .u8 (k.1 : Int))]) (fun k => []) (fun k => (∃ q, q < 8 ∧ k.1 = 2 ^ q ∧ j = P ∧ k.2 = 0) ∨ (k.1 = 0 ∧ k.2 = if P < j + 1 then 1 else 0)) (fun k => k.1) ((if j = P then 2 ^ s else 0), (if P < j then 1 else 0)) hst ⟨rfl, rfl, trivial⟩ ?_
      rintro ⟨kv, tn⟩ u3 hk3
      dsimp only at hk3
      dsimp only
      ((try dsimp only); refine C_n ?_; (try simp only [Nat.reduceAdd, Nat.zero_add]))
      rcases hk3 with ⟨q, hq, rfl, hjP, rfl⟩ | ⟨rfl, rfl⟩
      · have hq1 := Nat.pow_le_pow_right (n := 2) (by decide) (show 0 ≤ q by omega)
        have hq2 := Nat.pow_le_pow_right (n := 2) (by decide) (show q ≤ 7 by omega)
        simp only [Nat.pow_zero, Nat.reducePow] at hq1 hq2
        obtain ⟨kv, hkv⟩ : ∃ kv, 2 ^ q = kv := ⟨_, rfl⟩
        rw [hkv] at hq1 hq2
        rw [hkv]
        have hkq : (q = 0 ∧ kv = 1) ∨ (0 < q ∧ kv = 2 * 2 ^ (q - 1)) := by
          cases q with
          | zero => exact .inl ⟨rfl, hkv.symm⟩
          | succ q => exact .inr ⟨Nat.succ_pos _, by rw [← hkv, Nat.pow_succ, Nat.mul_comm]; rfl⟩
        repeat' (first | refine go ?_ | intro _ | (apply cG; first | refine cT ?_ | refine cF ?_ | refine cS (fun _ => ?_) fun _ => ?_) | (apply gI; refine sI ?_) | (apply gE; refine sE ?_) | (apply gP; refine sP ?_) | (apply gC; refine sC ?_) | (apply gD; refine sD ?_) | fail)
        rcases hkq with ⟨rfl, rfl⟩ | ⟨hq0, hkv2⟩
        · apply gW; refine sW (r := 1) ?_ ⟨by decide, by decide⟩
          repeat' (first | refine go ?_ | intro _ | (apply cG; first | refine cT ?_ | refine cF ?_ | refine cS (fun _ => ?_) fun _ => ?_) | (apply gI; refine sI ?_) | (apply gE; refine sE ?_) | (apply gP; refine sP ?_) | (apply gC; refine sC ?_) | (apply gD; refine sD ?_) | fail)
          apply gW; refine sW (r := 1) ?_ (by decide)
          repeat' (first | refine go ?_ | intro _ | (apply cG; first | refine cT ?_ | refine cF ?_ | refine cS (fun _ => ?_) fun _ => ?_) | (apply gI; refine sI ?_) | (apply gE; refine sE ?_) | (apply gP; refine sP ?_) | (apply gC; refine sC ?_) | (apply gD; refine sD ?_) | fail)
          apply gW; refine sW (r := 1) ?_ (by decide)
          repeat' (first | refine go ?_ | intro _ | (apply cG; first | refine cT ?_ | refine cF ?_ | refine cS (fun _ => ?_) fun _ => ?_) | (apply gI; refine sI ?_) | (apply gE; refine sE ?_) | (apply gP; refine sP ?_) | (apply gC; refine sC ?_) | (apply gD; refine sD ?_) | fail)
          apply gW; refine sW (r := 0) ?_ ⟨by decide, by decide⟩
          repeat' (first | refine go ?_ | intro _ | (apply cG; first | refine cT ?_ | refine cF ?_ | refine cS (fun _ => ?_) fun _ => ?_) | (apply gW; refine sW ?_) | (apply gI; refine sI ?_) | (apply gE; refine sE ?_) | (apply gP; refine sP ?_) | (apply gC; refine sC ?_) | (apply gD; refine sD ?_) | fail)
          exact E_round (0, 1) (.inr ⟨rfl, by rw [if_pos (by omega)]⟩) (by decide) ⟨rfl, rfl, trivial⟩ Sb
        · obtain ⟨kh, hkh⟩ : ∃ kh, 2 ^ (q - 1) = kh := ⟨_, rfl⟩
          rw [hkh] at hkv2
          apply gW; refine sW (r := 0) ?_ ⟨by decide, by rw [wm_nn (by omega)]; omega⟩
          repeat' (first | refine go ?_ | intro _ | (apply cG; first | refine cT ?_ | refine cF ?_ | refine cS (fun _ => ?_) fun _ => ?_) | (apply gI; refine sI ?_) | (apply gE; refine sE ?_) | (apply gP; refine sP ?_) | (apply gC; refine sC ?_) | (apply gD; refine sD ?_) | fail)
          apply gW; refine sW (r := 0) ?_ (by decide)
          repeat' (first | refine go ?_ | intro _ | (apply cG; first | refine cT ?_ | refine cF ?_ | refine cS (fun _ => ?_) fun _ => ?_) | (apply gI; refine sI ?_) | (apply gE; refine sE ?_) | (apply gP; refine sP ?_) | (apply gC; refine sC ?_) | (apply gD; refine sD ?_) | fail)
          apply gW; refine sW (r := 0) ?_ (by decide)
          repeat' (first | refine go ?_ | intro _ | (apply cG; first | refine cT ?_ | refine cF ?_ | refine cS (fun _ => ?_) fun _ => ?_) | (apply gI; refine sI ?_) | (apply gE; refine sE ?_) | (apply gP; refine sP ?_) | (apply gC; refine sC ?_) | (apply gD; refine sD ?_) | fail)
          apply gW; refine sW (r := (kh : Int)) ?_ ⟨by decide, ?_⟩
          rotate_left
          · show IntKind.u8.wrap ((kv / 2 : Nat) : Int) = (kh : Int)
            rw [show kv / 2 = kh by omega]
            exact wr_u8 (by omega) (by omega)
          repeat' (first | refine go ?_ | intro _ | (apply cG; first | refine cT ?_ | refine cF ?_ | refine cS (fun _ => ?_) fun _ => ?_) | (apply gW; refine sW ?_) | (apply gI; refine sI ?_) | (apply gE; refine sE ?_) | (apply gP; refine sP ?_) | (apply gC; refine sC ?_) | (apply gD; refine sD ?_) | fail)
          exact E_round (kh, 0) (.inl ⟨q - 1, by omega, hkh.symm, hjP, rfl⟩) (by show kh < kv; omega) ⟨rfl, rfl, trivial⟩ Sb
      · repeat' (first | refine go ?_ | intro _ | (apply cG; first | refine cT ?_ | refine cF ?_ | refine cS (fun _ => ?_) fun _ => ?_) | (apply gW; refine sW ?_) | (apply gI; refine sI ?_) | (apply gE; refine sE ?_) | (apply gP; refine sP ?_) | (apply gC; refine sC ?_) | (apply gD; refine sD ?_) | fail)
        exact E_round (j + 1) (by omega) (by show firm + m - (j + 1) < firm + m - j; omega) ⟨rfl, rfl, trivial⟩ Sb
    have hjm2 : j = firm + m := by omega
    subst hjm2
    refine C_fact (φ := C.length ≤ c9) (fun w s => by obtain ⟨_, _, he, h⟩ := (Src.sl (.inr ⟨_, .head _⟩) s : Sl _ eB _ C).form; injection he with _ _ he; omega) fun hc9 => ?_
    refine C_fact (φ := all.length ≤ c1) (fun w s => by obtain ⟨_, _, he, h⟩ := (Src.sl (.inr ⟨_, .tail _ (.tail _ (.tail _ (.head _)))⟩) s : Sl _ eB _ all).form; injection he with _ _ he; omega) fun hc1 => ?_
    refine C_frz 0 ?_
    refine C_frz 3 ?_
    refine C_sub (rd_cut (N := firm) (A := A9) (n := C.length) (c := c9) (l := C) (.head _) (by omega)) ?_
    refine C_sub (rd_cut (N := firm) (A := A1) (n := all.length) (c := c1) (l := all) (.tail _ (.tail _ (.tail _ (.tail _ (.head _))))) (by omega)) ?_
    rw [hcf]
    have htl := List.length_take_le firm all
    by_cases hz0 : 0 ≤ flip
    · by_cases hm1 : 0 < m
      · have hP := hPn.2 ⟨hz0, hm1⟩
        rw [if_pos hP]
        repeat' (first | refine go ?_ | intro _ | (apply cG; first | refine cT ?_ | refine cF ?_ | refine cS (fun _ => ?_) fun _ => ?_) | (apply gW; refine sW ?_) | (apply gI; refine sI ?_) | (apply gE; refine sE ?_) | (apply gP; refine sP ?_) | (apply gC; refine sC ?_) | (apply gD; refine sD ?_) | fail)
        refine C_draw (n := 99) [rd eB (.slice A1 firm c1) (all.take firm), rd eB (.slice A9 firm c9) (all.take firm)] [(0, 1), (1, 1), (2, 1), (3, 1), (4, 1), (5, 1), (6, 1), (7, 1), (8, 1), (9, 0), (10, 1), (11, 1), (12, 0), (13, 1), (14, 1)] (by kernel_rfl) (by kernel_rfl) Sb ?_
        repeat' (first | refine go ?_ | intro _ | (apply cG; first | refine cT ?_ | refine cF ?_ | refine cS (fun _ => ?_) fun _ => ?_) | (apply gW; refine sW ?_) | (apply gI; refine sI ?_) | (apply gE; refine sE ?_) | (apply gP; refine sP ?_) | (apply gC; refine sC ?_) | (apply gD; refine sD ?_) | fail)
        refine D_op rfl ?_; refine X_s (sv_slice (l' := 0) (h' := firm) (l := 0) (h := firm)) ?_
        rw [cutA0, Nat.sub_zero]
        repeat' (first | refine go ?_ | intro _ | (apply cG; first | refine cT ?_ | refine cF ?_ | refine cS (fun _ => ?_) fun _ => ?_) | (apply gW; refine sW ?_) | (apply gI; refine sI ?_) | (apply gE; refine sE ?_) | (apply gP; refine sP ?_) | (apply gC; refine sC ?_) | (apply gD; refine sD ?_) | fail)
        refine D_op rfl ?_; refine X_s (sv_slice (l' := 0) (h' := firm) (l := 0) (h := firm)) ?_
        rw [cutA0, Nat.sub_zero]
        repeat' (first | refine go ?_ | intro _ | (apply cG; first | refine cT ?_ | refine cF ?_ | refine cS (fun _ => ?_) fun _ => ?_) | (apply gW; refine sW ?_) | (apply gI; refine sI ?_) | (apply gE; refine sE ?_) | (apply gP; refine sP ?_) | (apply gC; refine sC ?_) | (apply gD; refine sD ?_) | fail)
        refine D_op rfl ?_; refine X_d (dy_call ArgsI.pf (by first | exact rfl | trivial | (intro a b; rfl)) (SameBytes_ct (la := all.take firm) (lb := all.take firm) (.inl (.tail _ (.head _))) (.inl (.head _)) (by omega) (by omega) (q := true) (decide_eq_true rfl))) ?_; rintro _ _ ⟨_, ⟨rfl, hLL⟩, rfl⟩; replace hLL := hLL.symm; subst hLL; refine ⟨(by first | exact .inl rfl | exact .inr Sb), D_n ?_⟩
        repeat' (first | refine go ?_ | intro _ | (apply cG; first | refine cT ?_ | refine cF ?_ | refine cS (fun _ => ?_) fun _ => ?_) | (apply gW; refine sW ?_) | (apply gI; refine sI ?_) | (apply gE; refine sE ?_) | (apply gP; refine sP ?_) | (apply gC; refine sC ?_) | (apply gD; refine sD ?_) | fail)
        refine D_op rfl ?_; refine X_d (dy_call ArgsI.pf (by first | exact rfl | trivial | (intro a b; rfl)) (lives_ct)) ?_; rintro _ _ ⟨_, ⟨rfl, hLL⟩, rfl⟩; replace hLL := hLL.symm; subst hLL; refine ⟨(by first | exact .inl rfl | exact .inr Sb), D_n ?_⟩
        repeat' (first | refine go ?_ | intro _ | (apply cG; first | refine cT ?_ | refine cF ?_ | refine cS (fun _ => ?_) fun _ => ?_) | (apply gW; refine sW ?_) | (apply gI; refine sI ?_) | (apply gE; refine sE ?_) | (apply gP; refine sP ?_) | (apply gC; refine sC ?_) | (apply gD; refine sD ?_) | fail)
        repeat' (first | refine go ?_ | intro _ | (apply cG; first | refine cT ?_ | refine cF ?_ | refine cS (fun _ => ?_) fun _ => ?_) | (apply gW; refine sW ?_) | (apply gI; refine sI ?_) | (apply gE; refine sE ?_) | (apply gP; refine sP ?_) | (apply gC; refine sC ?_) | (apply gD; refine sD ?_) | fail)
        refine E_res1 (by rfl) (by rfl) ⟨rfl, rfl⟩ Sb
      · have hP : ¬ P < firm + m := fun h => hm1 (hPn.1 h).2
        rw [if_neg hP]
        repeat' (first | refine go ?_ | intro _ | (apply cG; first | refine cT ?_ | refine cF ?_ | refine cS (fun _ => ?_) fun _ => ?_) | (apply gW; refine sW ?_) | (apply gI; refine sI ?_) | (apply gE; refine sE ?_) | (apply gP; refine sP ?_) | (apply gC; refine sC ?_) | (apply gD; refine sD ?_) | fail)
        refine O_d (dy_call ArgsI.pf (by first | exact rfl | trivial | (intro a b; rfl)) (lives_ct)) ?_; rintro _ _ ⟨_, ⟨rfl, hLL⟩, rfl⟩; replace hLL := hLL.symm; subst hLL; refine O_n ?_
        repeat' (first | refine go ?_ | intro _ | (apply cG; first | refine cT ?_ | refine cF ?_ | refine cS (fun _ => ?_) fun _ => ?_) | (apply gW; refine sW ?_) | (apply gI; refine sI ?_) | (apply gE; refine sE ?_) | (apply gP; refine sP ?_) | (apply gC; refine sC ?_) | (apply gD; refine sD ?_) | fail)
        refine E_res1 (by rfl) (by rfl) ⟨rfl, rfl⟩ Sb
    · have hP : ¬ P < firm + m := fun h => hz0 (hPn.1 h).1
      rw [if_neg hP]
      repeat' (first | refine go ?_ | intro _ | (apply cG; first | refine cT ?_ | refine cF ?_ | refine cS (fun _ => ?_) fun _ => ?_) | (apply gW; refine sW ?_) | (apply gI; refine sI ?_) | (apply gE; refine sE ?_) | (apply gP; refine sP ?_) | (apply gC; refine sC ?_) | (apply gD; refine sD ?_) | fail)
      refine O_d (dy_call ArgsI.pf (by first | exact rfl | trivial | (intro a b; rfl)) (lives_ct)) ?_; rintro _ _ ⟨_, ⟨rfl, hLL⟩, rfl⟩; replace hLL := hLL.symm; subst hLL; refine O_n ?_
      repeat' (first | refine go ?_ | intro _ | (apply cG; first | refine cT ?_ | refine cF ?_ | refine cS (fun _ => ?_) fun _ => ?_) | (apply gW; refine sW ?_) | (apply gI; refine sI ?_) | (apply gE; refine sE ?_) | (apply gP; refine sP ?_) | (apply gC; refine sC ?_) | (apply gD; refine sD ?_) | fail)
      refine E_res1 (by rfl) (by rfl) ⟨rfl, rfl⟩ Sb
theorem DiskPrefix_any {synced keep flip : Int} {v : Value} {ll : List (List UInt8)} {w : World} (s : St w w [rd (eSl eB) v ll]) (hl : ll.length ≤ 9223372036854775807) (hbl : ∀ b ∈ ll, b.length ≤ 9223372036854775807) (hs1 : -9223372036854775808 ≤ synced) (hs2 : synced ≤ 9223372036854775807) (hk1 : -9223372036854775808 ≤ keep) (hk2 : keep ≤ 9223372036854775807) (hz1 : -9223372036854775808 ≤ flip) (hz2 : flip ≤ 9223372036854775807) :
    Calls Try.prog 3 #[v, .int .i64 synced, .int .i64 keep, .int .i64 flip] w fun e w' => e = .returned (.bool true) ∧ Below w.heap.size w w' :=
  ((DiskPrefix_ct (W0 := w) (.head _) hl hbl hs1 hs2 hk1 hk2 hz1 hz2).run w s).mono fun e w' h => by
    obtain ⟨v, L', rfl, ⟨rfl, rfl⟩, s⟩ := h
    exact ⟨rfl, s.below⟩
end
end Go.Proofs.Ytikdelkcpapgdaa
namespace Go.Proofs.Ytikdelkcpapgdaa
open Go Go.RowKit
set_option linter.unusedVariables false
set_option linter.unusedSimpArgs false
def toB (n : Int) : UInt8 := UInt8.ofNat n.toNat
theorem toB_wf {n : Int} (h : (Lit.int .u8 n).wf = true) : ((toB n).toNat : Int) = n := by
  simp [Lit.wf, IntKind.min, IntKind.max, IntKind.signed, IntKind.bits] at h
  unfold toB
  simp
  omega
/-- a row of numbers of one kind, said as the rows' proofs say it -/
theorem row_sl {α : Type} {f : α → Value} {hf : ∀ a, (f a).oneCell' = true} {k : IntKind} {w : World} {a : Option Addr} {len cap : Nat} {zs : List Int} {l : List α} (hl : l.map f = (zs.take len).map (Value.int k)) (hz : zs.length = cap) (hlc : len ≤ cap)
    {x : Addr} (ha : a = some x) (hcell : ∀ i, i < zs.length → w.cell? (x.add i) = some (.int k (zs.getD i 0))) : Sl (Hp.of w) (e1 f hf) (.slice a len cap) l := by
  have hlen : l.length = len := by
    have := congrArg List.length hl
    simp at this
    omega
  subst hlen
  refine ⟨a, cap, l.map fun b => [f b], rfl, hlc, all2_e1.2 rfl, ?_⟩
  by_cases h0 : l = []
  · exact .inl h0
  · right
    have hpos : 0 < l.length := List.length_pos_iff.2 h0
    obtain ⟨b, off, spot⟩ := x
    have h1 := hcell 0 (by omega)
    have hspot : spot = none := by simpa [Addr.add] using World.cell?_spot h1
    subst hspot
    rw [flat_one]
    have hb : ∃ cs t fr, w.heap[b]? = some (.cells cs t fr) := by
      unfold World.cell? at h1
      simp only [Addr.add] at h1
      split at h1
      · rename_i cs t fr he; exact ⟨cs, t, fr, he⟩
      · cases h1
    obtain ⟨cs, t, fr, hb⟩ := hb
    refine ⟨b, off, cs, t, fr, ha, hb, ?_⟩
    intro j u hj
    rw [hl] at hj
    have hjl : j < l.length := by
      have := (List.getElem?_eq_some_iff.1 hj).1
      simp at this
      omega
    have h2 := hcell j (by omega)
    have h3 : w.cell? ⟨b, off + j, none⟩ = some (.int k (zs.getD j 0)) := by
      have e : (Addr.add ⟨b, off, none⟩ j) = ⟨b, off + j, none⟩ := by
        by_cases hj0 : j = 0
        · subst hj0; rfl
        · simp [Addr.add, hj0]
      rw [e] at h2
      exact h2
    have h4 : cs[off + j]? = some (.int k (zs.getD j 0)) := by simpa [World.cell?, hb] using h3
    rw [h4]
    rw [List.getElem?_map, List.getElem?_take, if_pos hjl] at hj
    rw [List.getD_eq_getElem?_getD]
    cases hzz : zs[j]? with
    | none => rw [hzz] at hj; cases hj
    | some z => rw [hzz] at hj; simpa using hj
theorem row_i64 {w : World} {a : Option Addr} {len cap : Nat} {zs : List Int} (h : (a = none ∧ len = 0 ∧ cap = 0 ∧ zs = []) ∨
    ∃ x, a = some x ∧ len ≤ cap ∧ cap ≤ maxLen ∧ zs.length = cap ∧ (∀ i, i < zs.length → w.cell? (x.add i) = some (.int .i64 (zs.getD i 0))) ∧ ∀ n ∈ zs, (Lit.int .i64 n).wf = true) :
    ∃ l : List Int, Sl (Hp.of w) eI (.slice a len cap) l ∧ l.length = len ∧ len ≤ 9223372036854775807 ∧ ∀ n ∈ l, -9223372036854775808 ≤ n ∧ n ≤ 9223372036854775807 := by
  rcases h with ⟨rfl, rfl, rfl, rfl⟩ | ⟨x, ha, hl, hm, hz, hc, hw⟩
  · exact ⟨[], ⟨none, 0, [], rfl, Nat.le_refl _, trivial, .inl rfl⟩, rfl, by omega, by simp⟩
  · unfold maxLen at hm
    refine ⟨zs.take len, row_sl rfl hz hl ha hc, by simp; omega, by omega, fun n hn => ?_⟩
    have := hw n (List.mem_of_mem_take hn)
    simpa [Lit.wf, IntKind.min, IntKind.max, IntKind.signed, IntKind.bits] using this
theorem row_u8 {w : World} {a : Option Addr} {len cap : Nat} {zs : List Int} (h : (a = none ∧ len = 0 ∧ cap = 0 ∧ zs = []) ∨
    ∃ x, a = some x ∧ len ≤ cap ∧ cap ≤ maxLen ∧ zs.length = cap ∧ (∀ i, i < zs.length → w.cell? (x.add i) = some (.int .u8 (zs.getD i 0))) ∧ ∀ n ∈ zs, (Lit.int .u8 n).wf = true) :
    ∃ l : List UInt8, Sl (Hp.of w) eB (.slice a len cap) l ∧ l.length = len ∧ len ≤ 9223372036854775807 := by
  rcases h with ⟨rfl, rfl, rfl, rfl⟩ | ⟨x, ha, hl, hm, hz, hc, hw⟩
  · exact ⟨[], ⟨none, 0, [], rfl, Nat.le_refl _, trivial, .inl rfl⟩, rfl, by omega⟩
  · unfold maxLen at hm
    refine ⟨(zs.take len).map toB, row_sl ?_ hz hl ha hc, by simp; omega, by omega⟩
    rw [List.map_map]
    refine List.map_congr_left fun n hn => ?_
    show bv (toB n) = _
    rw [bv, toB_wf (hw n (List.mem_of_mem_take hn))]
theorem St.mem_ {W : World} {α : Type} {R : Enc α} {v : Value} {l : List α} {L : List HP} (h : Sl (Hp.of W) R v l) (hS : St W W L) : St W W (Go.Proofs.Ytikdelkcpapgdaa.rd R v l :: L) := hS.old h
end Go.Proofs.Ytikdelkcpapgdaa
namespace Go.Proofs.Ytikdelkcpapgdaa
open Go Go.RowKit
set_option linter.unusedVariables false
set_option linter.unusedSimpArgs false
theorem all2_range {α β : Type} {R : α → β → Prop} (f : Nat → α) (g : Nat → β) : ∀ (n k : Nat), (∀ r, r < k + n → R (f r) (g r)) → All2 R ((List.range' k n).map f) ((List.range' k n).map g)
  | 0, _, _ => trivial
  | n + 1, k, h => ⟨h k (by omega), all2_range f g n (k + 1) fun r hr => h r (by omega)⟩
theorem row_rows {w : World} {a : Addr} {len cap : Nat} {A : Nat → Option Addr} {L C : Nat → Nat} {Z : Nat → List Int} (hlc : len ≤ cap)
    (hx : ∀ r, r < cap → w.cell? (a.add r) = some (.slice (A r) (L r) (C r)) ∧ L r ≤ C r ∧ C r ≤ maxLen ∧ (Z r).length = C r ∧ (∀ n ∈ Z r, (Lit.int .u8 n).wf = true) ∧ (A r = none → C r = 0) ∧ ∀ a', A r = some a' → 0 ≤ a'.block ∧ ∀ c, c < C r → w.cell? (a'.add c) = some (.int .u8 ((Z r).getD c 0))) :
    ∃ ll : List (List UInt8), Sl (Hp.of w) (eSl eB) (.slice (some a) len cap) ll ∧ ll.length = len ∧ ∀ b ∈ ll, b.length ≤ 9223372036854775807 := by
  have each : ∀ r, ∃ l : List UInt8, r < len → Sl (Hp.of w) eB (.slice (A r) (L r) (C r)) l ∧ l.length ≤ 9223372036854775807 := by
    intro r
    by_cases hr : r < len
    · obtain ⟨h1, h2, h3, h4, h5, h6, h7⟩ := hx r (by omega)
      obtain ⟨l, hl, hll, hle⟩ := row_u8 (w := w) (a := A r) (len := L r) (cap := C r) (zs := Z r) (by
        cases hA : A r with
        | none =>
          have h0 := h6 hA
          refine .inl ⟨rfl, by omega, h0, List.length_eq_zero_iff.1 (by omega)⟩
        | some x =>
          refine .inr ⟨x, rfl, h2, h3, h4, fun i hi => (h7 x hA).2 i (by omega), h5⟩)
      exact ⟨l, fun _ => ⟨hl, by omega⟩⟩
    · exact ⟨[], fun h => absurd h hr⟩
  obtain ⟨g, hg⟩ := Classical.axiomOfChoice each
  refine ⟨(List.range' 0 len).map g, ?_, by simp, fun b hb => ?_⟩
  rotate_left
  · obtain ⟨r, hr, rfl⟩ := List.mem_map.1 hb
    have := List.mem_range'_1.1 hr
    exact (hg r (by omega)).2
  refine ⟨some a, cap, (List.range' 0 len).map fun r => [.slice (A r) (L r) (C r)], by simp, by simpa using hlc, all2_range _ _ len 0 (fun r hr => ⟨_, rfl, (hg r (by omega)).1⟩), ?_⟩
  by_cases h0 : len = 0
  · left
    subst h0
    rfl
  · right
    obtain ⟨b, off, spot⟩ := a
    have h1 := (hx 0 (by omega)).1
    have hspot : spot = none := by simpa [Addr.add] using World.cell?_spot h1
    subst hspot
    have hb : ∃ cs t fr, w.heap[b]? = some (.cells cs t fr) := by
      unfold World.cell? at h1
      simp only [Addr.add] at h1
      split at h1
      · rename_i cs t fr he; exact ⟨cs, t, fr, he⟩
      · cases h1
    obtain ⟨cs, t, fr, hb⟩ := hb
    refine ⟨b, off, cs, t, fr, rfl, hb, ?_⟩
    intro j u hj
    have hfl : ((List.range' 0 len).map fun r => [Value.slice (A r) (L r) (C r)]).flatten = (List.range' 0 len).map fun r => Value.slice (A r) (L r) (C r) := by
      generalize List.range' 0 len = q
      induction q with
      | nil => rfl
      | cons x q ih => simp [ih]
    rw [hfl, List.getElem?_map] at hj
    have hjl : j < len := by
      cases hq : (List.range' 0 len)[j]? with
      | none => rw [hq] at hj; cases hj
      | some x => have := (List.getElem?_eq_some_iff.1 hq).1; simpa using this
    rw [List.getElem?_range' hjl] at hj
    simp only [Option.map_some, Option.some.injEq] at hj
    have h2 := (hx j (by omega)).1
    have e : (Addr.add ⟨b, off, none⟩ j) = ⟨b, off + j, none⟩ := by
      by_cases hj0 : j = 0
      · subst hj0; rfl
      · simp [Addr.add, hj0]
    rw [e] at h2
    have h4 : cs[off + j]? = some (.slice (A j) (L j) (C j)) := by simpa [World.cell?, hb] using h2
    rw [h4, ← hj]
    simp
end Go.Proofs.Ytikdelkcpapgdaa
