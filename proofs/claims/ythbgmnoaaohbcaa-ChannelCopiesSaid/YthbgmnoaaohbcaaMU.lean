/-
  Walks: ChannelCopies.
-/
import Derived.Test.YthbgmnoaaohbcaaMT
import Derived.Test.YthbgmnoaaohbcaaMC
namespace Go.Proofs.Ythbgmnoaaohbcaa
open Go Go.RowKit
set_option linter.unusedVariables false
set_option linter.unusedSimpArgs false
set_option maxRecDepth 20000
set_option synthInstance.maxSize 100000
set_option synthInstance.maxHeartbeats 400000
theorem u8_small {i : Nat} (h : i < 256) : (UInt8.ofNat i).toNat = i := by rw [UInt8.toNat_ofNat']; omega
section
variable {W0 : World} {L : List HP}
theorem ownF {P : Program} {v : Value} {l : List UInt8} {c : Code} {Q : Exit → Act → World → Prop} {a : Act} (k : ∀ A c', v = .slice A l.length c' → CL P W0 (own 5 eB v l :: L) c Q a) : CL P W0 (own 5 eB v l :: L) c Q a := by
  refine C_fact (fun w s => (Src.sl (.inr ⟨_, .head _⟩) s : Sl _ eB v l).form) ?_
  rintro ⟨A, c', h, _⟩
  exact k A c' h
theorem msg_get {l : List PK} {w : Int} {n i : Nat} {x : PK} (h : l.map PK.p = outP w 0 0 (Mg n) false) (hx : l[i]? = some x) : x.s = (i : Int) + 1 ∧ x.b = [UInt8.ofNat i] := by
  obtain ⟨h1, _, h3⟩ := outP_get h (.inr rfl) hx
  refine ⟨by omega, ?_⟩
  obtain ⟨m, hm⟩ : ∃ m, Mg n = m := ⟨_, rfl⟩
  rw [Mg] at h3
  simp only [List.getElem?_map] at h3
  cases hr : (List.range n)[i]? with
  | none => rw [hr] at h3; cases h3
  | some j =>
    rw [hr] at h3
    have hj := List.getElem?_range (n := n) (i := i) (by have := (List.getElem?_eq_some_iff.1 hr).1; simpa using this)
    rw [hr] at hj
    injection hj with hj
    subst hj
    simpa using h3.symm
set_option maxHeartbeats 4000000 in
theorem ChannelCopies_ct {window many cut : Int} (hw1 : -9223372036854775808 ≤ window) (hw2 : window ≤ 9223372036854775807) (h11 : -9223372036854775808 ≤ many) (h12 : many ≤ 9223372036854775807) (h21 : -9223372036854775808 ≤ cut) (h22 : cut ≤ 9223372036854775807) :
    CT Try.prog 7 #[.int .i64 window, .int .i64 many, .int .i64 cut] W0 L fun r L' => r = .bool true ∧ L' = L := by
  refine CT_enter Try.func7 rfl ?_; (simp only [Try.ntmps7, List.size_toArray, List.length_cons, List.length_nil, Nat.reduceAdd, Nat.reduceSub, Array.replicate_succ, Array.replicate_zero, List.push_toArray, List.append_toArray, List.nil_append, List.cons_append])
  repeat' (first | refine go ?_ | intro _ | (apply cG; first | refine cT ?_ | refine cF ?_ | refine cS (fun _ => ?_) fun _ => ?_) | (apply gW; refine sW ?_) | (apply gI; refine sI ?_) | (apply gE; refine sE ?_) | (apply gP; refine sP ?_) | (apply gC; refine sC ?_) | (apply gD; refine sD ?_) | fail)
  refine O_d (dy_call ArgsI.pf (by first | exact rfl | trivial | (intro a b; rfl)) (ends_ct hw1 hw2)) ?_; rintro _ _ ⟨_, ⟨eg, pa, pb, wa, wb, hw, hwa, hwb, rfl, rfl⟩, rfl⟩; refine O_n ?_
  repeat' (first | refine go ?_ | intro _ | (apply cG; first | refine cT ?_ | refine cF ?_ | refine cS (fun _ => ?_) fun _ => ?_) | (apply gW; refine sW ?_) | (apply gI; refine sI ?_) | (apply gE; refine sE ?_) | (apply gP; refine sP ?_) | (apply gC; refine sC ?_) | (apply gD; refine sD ?_) | fail)
  refine O_d (dy_call ArgsI.pf (by first | exact rfl | trivial | (intro a b; rfl)) (Around_ct (most := 12) h11 h12 (by decide) (by decide))) ?_; rintro _ _ ⟨_, ⟨rfl, hLL⟩, rfl⟩; replace hLL := hLL.symm; subst hLL; refine O_n ?_
  obtain ⟨n, hn, hnl⟩ : ∃ n : Nat, around many 12 = (n : Int) ∧ n ≤ 11 := by
    have := around_in (n := many) (most := 12) (by decide)
    exact ⟨(around many 12).toNat, by omega, by omega⟩
  rw [hn]
  obtain ⟨c, hc⟩ : ∃ c : Nat, (n ≤ c ↔ n = 0) ∧ (0 < n → around cut (n : Int) = (c : Int)) := by
    by_cases h0 : n = 0
    · exact ⟨0, by omega, fun h => by omega⟩
    · have := around_in (n := cut) (most := (n : Int)) (by omega)
      exact ⟨(around cut (n : Int)).toNat, by omega, fun h => by omega⟩
  have hp0 : At [pa, pb] 0 pa := ⟨rfl⟩
  repeat' (first | refine go ?_ | intro _ | (apply cG; first | refine cT ?_ | refine cF ?_ | refine cS (fun _ => ?_) fun _ => ?_) | (apply gW; refine sW ?_) | (apply gI; refine sI ?_) | (apply gE; refine sE ?_) | (apply gP; refine sP ?_) | (apply gC; refine sC ?_) | (apply gD; refine sD ?_) | fail)
  refine O_d (dy_lit1 (R := eB) (0 : UInt8) (hcs := by rfl) (hel := fun _ _ _ => by rfl)) ?_; rintro _ _ ⟨_, rfl, rfl⟩; refine O_n ?_
  rename_i bg
  repeat' (first | refine go ?_ | intro _ | (apply cG; first | refine cT ?_ | refine cF ?_ | refine cS (fun _ => ?_) fun _ => ?_) | (apply gW; refine sW ?_) | (apply gI; refine sI ?_) | (apply gE; refine sE ?_) | (apply gP; refine sP ?_) | (apply gC; refine sC ?_) | (apply gD; refine sD ?_) | fail)
  refine C_loop (κ := Nat × Option Nat × UInt8) [false, false, false, false, false, false, false, false, false, false, true, true, false, false, false, false, false, false, false, false, false, false, false, true, true, true, true, true, true, true, true, true, true, true, true, true, true, true, true, true, true, true, true, true, true, true, true, true, true, true, true, false, false, false, false, false, false, false, false, false, false, false, false, false, false, false, false, false, false, false, false, false, false, false, false, false, false, false, false, false, false, false, false, false, false, false, false, false, false, false, false, false, false, false, false, false, false, false, false, false, false, false, false, false, false, false, false, false, false, false, false, false, false, false, false, false, false, false, false, false, false, false, false, false, false, false, false, false, false, false, false, false, false, false, false, false, false, false, false, false, false, false, false, false, false, false, false, false, false, false, false, false, false, false, false, false, false] (fun k => [(10, .pointer (k.2.1.map fun q => ⟨q, 0, none⟩)), (11, .int .i64 (k.1 : Int))]) (fun k => (match k.2.1 with | none => own 5 eB (.slice (some ⟨bg, 0, none⟩) 1 1) [k.2.2] :: rd ePt (.slice (some ⟨eg, 0, none⟩) 2 2) [pa, pb] :: ende pa ⟨wa, 0, 0, Mg k.1, [], false⟩ :: ende pb ⟨wb, 0, 0, [], [], false⟩ :: L | some q => ende q ⟨wa, 0, 0, Mg k.1, [], false⟩ :: own 5 eB (.slice (some ⟨bg, 0, none⟩) 1 1) [k.2.2] :: rd ePt (.slice (some ⟨eg, 0, none⟩) 2 2) [pa, pb] :: ende pa ⟨wa, 0, 0, Mg k.1, [], false⟩ :: ende pb ⟨wb, 0, 0, [], [], false⟩ :: L)) (fun k => k.1 ≤ n ∧ (k.2.1 = none ↔ k.1 ≤ c)) (fun k => n - k.1) (0, none, 0) ⟨Nat.zero_le _, ⟨fun _ => Nat.zero_le _, fun _ => rfl⟩⟩ ⟨rfl, rfl, trivial⟩ Sb ?_
  rintro ⟨i, cp, x⟩ u ⟨hi, hcp⟩
  dsimp only at hi hcp
  by_cases hlt : i < n
  · have hwr : IntKind.u8.wrap (i : Int) = ((UInt8.ofNat i).toNat : Int) := by
      rw [UInt8.toNat_ofNat', wr_u8 (by omega) (by omega)]
      omega
    have har := hc.2 (by omega)
    cases cp with
    | none =>
      have hic := hcp.1 rfl
      refine C_sub (S := own 5 eB (.slice (some ⟨bg, 0, none⟩) 1 1) [x] :: rd ePt (.slice (some ⟨eg, 0, none⟩) 2 2) [pa, pb] :: ende pa ⟨wa, 0, 0, Mg i, [], false⟩ :: ende pb ⟨wb, 0, 0, [], [], false⟩ :: L) (Sub.refl _) ?_
      ((try dsimp only); refine C_n ?_; (try simp only [Nat.reduceAdd, Nat.zero_add]))
      simp only [Option.map_none, Option.map_some]
      repeat' (first | refine go ?_ | intro _ | (apply cG; first | refine cT ?_ | refine cF ?_ | refine cS (fun _ => ?_) fun _ => ?_) | (apply gW; refine sW ?_) | (apply gI; refine sI ?_) | (apply gE; refine sE ?_) | (apply gP; refine sP ?_) | (apply gC; refine sC ?_) | (apply gD; refine sD ?_) | fail)
      refine O_d (dy_call ArgsI.pf (by first | exact rfl | trivial | (intro a b; rfl)) (Around_ct (most := (n : Int)) h21 h22 (by omega) (by omega))) ?_; rintro _ _ ⟨_, ⟨rfl, hLL⟩, rfl⟩; replace hLL := hLL.symm; subst hLL; refine O_n ?_
      rw [har]
      by_cases hci : i = c
      · repeat' (first | refine go ?_ | intro _ | (apply cG; first | refine cT ?_ | refine cF ?_ | refine cS (fun _ => ?_) fun _ => ?_) | (apply gW; refine sW ?_) | (apply gI; refine sI ?_) | (apply gE; refine sE ?_) | (apply gP; refine sP ?_) | (apply gC; refine sC ?_) | (apply gD; refine sD ?_) | fail)
        refine O_d (dy_call ArgsI.pf (by first | exact rfl | trivial | (intro a b; rfl)) (CT.pull (i := 2) (by rfl) (Copy_e (e := ⟨wa, 0, 0, Mg i, [], false⟩) rfl (by show (Mg i).length ≤ 1000; rw [Mg_len]; omega)))) ?_; rintro _ _ ⟨_, ⟨q, rfl, rfl⟩, rfl⟩; refine O_n ?_
        refine O_sub (S := ende q ⟨wa, 0, 0, Mg i, [], false⟩ :: own 5 eB (.slice (some ⟨bg, 0, none⟩) 1 1) [x] :: rd ePt (.slice (some ⟨eg, 0, none⟩) 2 2) [pa, pb] :: ende pa ⟨wa, 0, 0, Mg i, [], false⟩ :: ende pb ⟨wb, 0, 0, [], [], false⟩ :: L) Sb ?_
        repeat' (first | refine go ?_ | intro _ | (apply cG; first | refine cT ?_ | refine cF ?_ | refine cS (fun _ => ?_) fun _ => ?_) | (apply gI; refine sI ?_) | (apply gE; refine sE ?_) | (apply gP; refine sP ?_) | (apply gC; refine sC ?_) | (apply gD; refine sD ?_) | fail)
        apply gW; refine sW (r := ((UInt8.ofNat i).toNat : Int)) ?_ hwr
        repeat' (first | refine go ?_ | intro _ | (apply cG; first | refine cT ?_ | refine cF ?_ | refine cS (fun _ => ?_) fun _ => ?_) | (apply gW; refine sW ?_) | (apply gI; refine sI ?_) | (apply gE; refine sE ?_) | (apply gP; refine sP ?_) | (apply gC; refine sC ?_) | (apply gD; refine sD ?_) | fail)
        refine O_d (dy_storeE (f := bv) (hf := fun _ => rfl) (n := 1) (c := 1) (UInt8.ofNat i) (hy := by rfl) (hj := Nat.zero_lt_one)) ?_; rintro _ _ ⟨rfl, rfl⟩; refine O_n ?_
        repeat' (first | refine go ?_ | intro _ | (apply cG; first | refine cT ?_ | refine cF ?_ | refine cS (fun _ => ?_) fun _ => ?_) | (apply gW; refine sW ?_) | (apply gI; refine sI ?_) | (apply gE; refine sE ?_) | (apply gP; refine sP ?_) | (apply gC; refine sC ?_) | (apply gD; refine sD ?_) | fail)
        refine O_d (dy_call ArgsI.pf (by first | exact rfl | trivial | (intro a b; rfl)) (CT.pull (i := 3) (by rfl) (Send_e (b := [UInt8.ofNat i]) (e' := ⟨wa, 0, 0, Mg (i + 1), [], false⟩) Sc.pf (by show 1 ≤ 65536; decide) (by show (Mg i).length < 1000; rw [Mg_len]; omega) (by rw [Mg_succ])))) ?_; rintro _ _ ⟨_, ⟨rfl, rfl⟩, rfl⟩; refine O_n ?_
        repeat' (first | refine go ?_ | intro _ | (apply cG; first | refine cT ?_ | refine cF ?_ | refine cS (fun _ => ?_) fun _ => ?_) | (apply gW; refine sW ?_) | (apply gI; refine sI ?_) | (apply gE; refine sE ?_) | (apply gP; refine sP ?_) | (apply gC; refine sC ?_) | (apply gD; refine sD ?_) | fail)
        refine O_d (dy_call ArgsI.pf (by first | exact rfl | trivial | (intro a b; rfl)) (CT.pull (i := 1) (by rfl) (Send_e (b := [UInt8.ofNat i]) (e' := ⟨wa, 0, 0, Mg (i + 1), [], false⟩) Sc.pf (by show 1 ≤ 65536; decide) (by show (Mg i).length < 1000; rw [Mg_len]; omega) (by rw [Mg_succ])))) ?_; rintro _ _ ⟨_, ⟨rfl, rfl⟩, rfl⟩; refine O_n ?_
        repeat' (first | refine go ?_ | intro _ | (apply cG; first | refine cT ?_ | refine cF ?_ | refine cS (fun _ => ?_) fun _ => ?_) | (apply gW; refine sW ?_) | (apply gI; refine sI ?_) | (apply gE; refine sE ?_) | (apply gP; refine sP ?_) | (apply gC; refine sC ?_) | (apply gD; refine sD ?_) | fail)

        exact E_round (i + 1, some q, UInt8.ofNat i) ⟨hlt, ⟨fun h => (by cases h), fun h => (by dsimp only at h; omega)⟩⟩ (by show n - (i + 1) < n - i; omega) ⟨rfl, rfl, trivial⟩ (Sub.trans (B := ende q ⟨wa, 0, 0, Mg (i + 1), [], false⟩ :: own 5 eB (.slice (some ⟨bg, 0, none⟩) 1 1) [UInt8.ofNat i] :: rd ePt (.slice (some ⟨eg, 0, none⟩) 2 2) [pa, pb] :: ende pa ⟨wa, 0, 0, Mg (i + 1), [], false⟩ :: ende pb ⟨wb, 0, 0, [], [], false⟩ :: L) Sb (Sub.refl _))
      · repeat' (first | refine go ?_ | intro _ | (apply cG; first | refine cT ?_ | refine cF ?_ | refine cS (fun _ => ?_) fun _ => ?_) | (apply gI; refine sI ?_) | (apply gE; refine sE ?_) | (apply gP; refine sP ?_) | (apply gC; refine sC ?_) | (apply gD; refine sD ?_) | fail)
        apply gW; refine sW (r := ((UInt8.ofNat i).toNat : Int)) ?_ hwr
        repeat' (first | refine go ?_ | intro _ | (apply cG; first | refine cT ?_ | refine cF ?_ | refine cS (fun _ => ?_) fun _ => ?_) | (apply gW; refine sW ?_) | (apply gI; refine sI ?_) | (apply gE; refine sE ?_) | (apply gP; refine sP ?_) | (apply gC; refine sC ?_) | (apply gD; refine sD ?_) | fail)
        refine O_d (dy_storeE (f := bv) (hf := fun _ => rfl) (n := 1) (c := 1) (UInt8.ofNat i) (hy := by rfl) (hj := Nat.zero_lt_one)) ?_; rintro _ _ ⟨rfl, rfl⟩; refine O_n ?_
        repeat' (first | refine go ?_ | intro _ | (apply cG; first | refine cT ?_ | refine cF ?_ | refine cS (fun _ => ?_) fun _ => ?_) | (apply gW; refine sW ?_) | (apply gI; refine sI ?_) | (apply gE; refine sE ?_) | (apply gP; refine sP ?_) | (apply gC; refine sC ?_) | (apply gD; refine sD ?_) | fail)
        refine O_d (dy_call ArgsI.pf (by first | exact rfl | trivial | (intro a b; rfl)) (CT.pull (i := 2) (by rfl) (Send_e (b := [UInt8.ofNat i]) (e' := ⟨wa, 0, 0, Mg (i + 1), [], false⟩) Sc.pf (by show 1 ≤ 65536; decide) (by show (Mg i).length < 1000; rw [Mg_len]; omega) (by rw [Mg_succ])))) ?_; rintro _ _ ⟨_, ⟨rfl, rfl⟩, rfl⟩; refine O_n ?_
        repeat' (first | refine go ?_ | intro _ | (apply cG; first | refine cT ?_ | refine cF ?_ | refine cS (fun _ => ?_) fun _ => ?_) | (apply gW; refine sW ?_) | (apply gI; refine sI ?_) | (apply gE; refine sE ?_) | (apply gP; refine sP ?_) | (apply gC; refine sC ?_) | (apply gD; refine sD ?_) | fail)

        exact E_round (i + 1, none, UInt8.ofNat i) ⟨hlt, ⟨fun _ => (by dsimp only; omega), fun _ => rfl⟩⟩ (by show n - (i + 1) < n - i; omega) ⟨rfl, rfl, trivial⟩ (Sub.trans (B := own 5 eB (.slice (some ⟨bg, 0, none⟩) 1 1) [UInt8.ofNat i] :: rd ePt (.slice (some ⟨eg, 0, none⟩) 2 2) [pa, pb] :: ende pa ⟨wa, 0, 0, Mg (i + 1), [], false⟩ :: ende pb ⟨wb, 0, 0, [], [], false⟩ :: L) Sb (Sub.refl _))
    | some q =>
      have hic : ¬ i ≤ c := fun h => by have := hcp.2 h; cases this
      refine C_sub (S := ende q ⟨wa, 0, 0, Mg i, [], false⟩ :: own 5 eB (.slice (some ⟨bg, 0, none⟩) 1 1) [x] :: rd ePt (.slice (some ⟨eg, 0, none⟩) 2 2) [pa, pb] :: ende pa ⟨wa, 0, 0, Mg i, [], false⟩ :: ende pb ⟨wb, 0, 0, [], [], false⟩ :: L) (Sub.refl _) ?_
      ((try dsimp only); refine C_n ?_; (try simp only [Nat.reduceAdd, Nat.zero_add]))
      simp only [Option.map_none, Option.map_some]
      repeat' (first | refine go ?_ | intro _ | (apply cG; first | refine cT ?_ | refine cF ?_ | refine cS (fun _ => ?_) fun _ => ?_) | (apply gW; refine sW ?_) | (apply gI; refine sI ?_) | (apply gE; refine sE ?_) | (apply gP; refine sP ?_) | (apply gC; refine sC ?_) | (apply gD; refine sD ?_) | fail)
      refine O_d (dy_call ArgsI.pf (by first | exact rfl | trivial | (intro a b; rfl)) (Around_ct (most := (n : Int)) h21 h22 (by omega) (by omega))) ?_; rintro _ _ ⟨_, ⟨rfl, hLL⟩, rfl⟩; replace hLL := hLL.symm; subst hLL; refine O_n ?_
      rw [har]
      repeat' (first | refine go ?_ | intro _ | (apply cG; first | refine cT ?_ | refine cF ?_ | refine cS (fun _ => ?_) fun _ => ?_) | (apply gI; refine sI ?_) | (apply gE; refine sE ?_) | (apply gP; refine sP ?_) | (apply gC; refine sC ?_) | (apply gD; refine sD ?_) | fail)
      apply gW; refine sW (r := ((UInt8.ofNat i).toNat : Int)) ?_ hwr
      repeat' (first | refine go ?_ | intro _ | (apply cG; first | refine cT ?_ | refine cF ?_ | refine cS (fun _ => ?_) fun _ => ?_) | (apply gW; refine sW ?_) | (apply gI; refine sI ?_) | (apply gE; refine sE ?_) | (apply gP; refine sP ?_) | (apply gC; refine sC ?_) | (apply gD; refine sD ?_) | fail)
      refine O_d (dy_storeE (f := bv) (hf := fun _ => rfl) (n := 1) (c := 1) (UInt8.ofNat i) (hy := by rfl) (hj := Nat.zero_lt_one)) ?_; rintro _ _ ⟨rfl, rfl⟩; refine O_n ?_
      repeat' (first | refine go ?_ | intro _ | (apply cG; first | refine cT ?_ | refine cF ?_ | refine cS (fun _ => ?_) fun _ => ?_) | (apply gW; refine sW ?_) | (apply gI; refine sI ?_) | (apply gE; refine sE ?_) | (apply gP; refine sP ?_) | (apply gC; refine sC ?_) | (apply gD; refine sD ?_) | fail)
      refine O_d (dy_call ArgsI.pf (by first | exact rfl | trivial | (intro a b; rfl)) (CT.pull (i := 3) (by rfl) (Send_e (b := [UInt8.ofNat i]) (e' := ⟨wa, 0, 0, Mg (i + 1), [], false⟩) Sc.pf (by show 1 ≤ 65536; decide) (by show (Mg i).length < 1000; rw [Mg_len]; omega) (by rw [Mg_succ])))) ?_; rintro _ _ ⟨_, ⟨rfl, rfl⟩, rfl⟩; refine O_n ?_
      repeat' (first | refine go ?_ | intro _ | (apply cG; first | refine cT ?_ | refine cF ?_ | refine cS (fun _ => ?_) fun _ => ?_) | (apply gW; refine sW ?_) | (apply gI; refine sI ?_) | (apply gE; refine sE ?_) | (apply gP; refine sP ?_) | (apply gC; refine sC ?_) | (apply gD; refine sD ?_) | fail)
      refine O_d (dy_call ArgsI.pf (by first | exact rfl | trivial | (intro a b; rfl)) (CT.pull (i := 1) (by rfl) (Send_e (b := [UInt8.ofNat i]) (e' := ⟨wa, 0, 0, Mg (i + 1), [], false⟩) Sc.pf (by show 1 ≤ 65536; decide) (by show (Mg i).length < 1000; rw [Mg_len]; omega) (by rw [Mg_succ])))) ?_; rintro _ _ ⟨_, ⟨rfl, rfl⟩, rfl⟩; refine O_n ?_
      repeat' (first | refine go ?_ | intro _ | (apply cG; first | refine cT ?_ | refine cF ?_ | refine cS (fun _ => ?_) fun _ => ?_) | (apply gW; refine sW ?_) | (apply gI; refine sI ?_) | (apply gE; refine sE ?_) | (apply gP; refine sP ?_) | (apply gC; refine sC ?_) | (apply gD; refine sD ?_) | fail)

      exact E_round (i + 1, some q, UInt8.ofNat i) ⟨hlt, ⟨fun h => (by cases h), fun h => (by dsimp only at h; omega)⟩⟩ (by show n - (i + 1) < n - i; omega) ⟨rfl, rfl, trivial⟩ (Sub.trans (B := ende q ⟨wa, 0, 0, Mg (i + 1), [], false⟩ :: own 5 eB (.slice (some ⟨bg, 0, none⟩) 1 1) [UInt8.ofNat i] :: rd ePt (.slice (some ⟨eg, 0, none⟩) 2 2) [pa, pb] :: ende pa ⟨wa, 0, 0, Mg (i + 1), [], false⟩ :: ende pb ⟨wb, 0, 0, [], [], false⟩ :: L) Sb (Sub.refl _))
  obtain rfl : i = n := by omega
  have hMl := Mg_len i
  have g0 : PE.good ⟨wa, 0, 0, Mg i, [], false⟩ := ⟨Int.le_refl _, by show (0 : Int) ≤ 1000000000000; decide, Int.le_refl _, by show (0 : Int) ≤ 1000000000000; decide, by show (Mg i).length ≤ 1000; omega, Nat.zero_le _⟩
  have hMb : ∀ y ∈ Mg i, y.length ≤ 65536 := fun y hy => by rw [Mg_one hy]; decide
  cases cp with
  | none =>
    have h0 : i = 0 := hc.1.1 (hcp.1 rfl)
    subst h0
    refine C_sub (S := own 5 eB (.slice (some ⟨bg, 0, none⟩) 1 1) [x] :: rd ePt (.slice (some ⟨eg, 0, none⟩) 2 2) [pa, pb] :: ende pa ⟨wa, 0, 0, Mg 0, [], false⟩ :: ende pb ⟨wb, 0, 0, [], [], false⟩ :: L) (Sub.refl _) ?_
    ((try dsimp only); refine C_n ?_; (try simp only [Nat.reduceAdd, Nat.zero_add]))
    simp only [Option.map_none]
    repeat' (first | refine go ?_ | intro _ | (apply cG; first | refine cT ?_ | refine cF ?_ | refine cS (fun _ => ?_) fun _ => ?_) | (apply gW; refine sW ?_) | (apply gI; refine sI ?_) | (apply gE; refine sE ?_) | (apply gP; refine sP ?_) | (apply gC; refine sC ?_) | (apply gD; refine sD ?_) | fail)
    refine O_d (dy_call ArgsI.pf (by first | exact rfl | trivial | (intro a b; rfl)) (CT.pull (i := 2) (by rfl) (Out_e (e' := ⟨wa, 0, 0, Mg 0, [], false⟩) g0 hw.1 hw.2.1 hMb rfl))) ?_; rintro _ _ ⟨_, ⟨A1, c1, l, hl, rfl, rfl⟩, rfl⟩; refine O_n ?_
    have hll := outP_length hl (.inr rfl)
    dsimp only at hll
    rw [hMl, Nat.min_zero] at hll
    repeat' (first | refine go ?_ | intro _ | (apply cG; first | refine cT ?_ | refine cF ?_ | refine cS (fun _ => ?_) fun _ => ?_) | (apply gW; refine sW ?_) | (apply gI; refine sI ?_) | (apply gE; refine sE ?_) | (apply gP; refine sP ?_) | (apply gC; refine sC ?_) | (apply gD; refine sD ?_) | fail)
    refine C_loopS (κ := Unit) [false, false, false, false, false, false, true, false, false, false, false, false, false, true, false, false, false, false, false, false, false, false, false, false, false, false, false, false, false, false, false, false, false, false, false, false, false, false, false, false, false, false, false, false, false, false, false, false, false, false, false, false, false, false, false, true, true, true, true, true, true, true, true, true, true, true, true, true, true, true, true, true, true, true, true, true, true, true, true, true, true, true, true, true, true, true, false, false, false, false, false, false, false, false, false, false, false, false, false, false, false, false, false, false, false, false, false, false, false, false, false, false, false, false, false, false, false, false, false, false, false, false, false, false, false, false, false, false, false, false, false, false, false, false, false, false, false, false, false, false, false, false, false, false, false, false, false, false, false, false, false, false, false, false, false, false, false] (fun k => [(13, .int .i64 0)]) (fun k => []) (fun k => True) (fun k => 0) () trivial ⟨rfl, trivial⟩ ?_
    rintro ⟨⟩ u2 _
    ((try dsimp only); refine C_n ?_; (try simp only [Nat.reduceAdd, Nat.zero_add]))
    repeat' (first | refine go ?_ | intro _ | (apply cG; first | refine cT ?_ | refine cF ?_ | refine cS (fun _ => ?_) fun _ => ?_) | (apply gW; refine sW ?_) | (apply gI; refine sI ?_) | (apply gE; refine sE ?_) | (apply gP; refine sP ?_) | (apply gC; refine sC ?_) | (apply gD; refine sD ?_) | fail)
    refine O_d (dy_call ArgsI.pf (by first | exact rfl | trivial | (intro a b; rfl)) (lives_ct)) ?_; rintro _ _ ⟨_, ⟨rfl, hLL⟩, rfl⟩; replace hLL := hLL.symm; subst hLL; refine O_n ?_
    repeat' (first | refine go ?_ | intro _ | (apply cG; first | refine cT ?_ | refine cF ?_ | refine cS (fun _ => ?_) fun _ => ?_) | (apply gW; refine sW ?_) | (apply gI; refine sI ?_) | (apply gE; refine sE ?_) | (apply gP; refine sP ?_) | (apply gC; refine sC ?_) | (apply gD; refine sD ?_) | fail)
    refine E_res1 (by rfl) (by rfl) ⟨rfl, rfl⟩ Sb
  | some q =>
  have hi0 : 0 < i := Nat.pos_of_ne_zero fun h => by
    have := hcp.2 (hc.1.2 h)
    cases this
  refine C_sub (S := ende q ⟨wa, 0, 0, Mg i, [], false⟩ :: own 5 eB (.slice (some ⟨bg, 0, none⟩) 1 1) [x] :: rd ePt (.slice (some ⟨eg, 0, none⟩) 2 2) [pa, pb] :: ende pa ⟨wa, 0, 0, Mg i, [], false⟩ :: ende pb ⟨wb, 0, 0, [], [], false⟩ :: L) (Sub.refl _) ?_
  ((try dsimp only); refine C_n ?_; (try simp only [Nat.reduceAdd, Nat.zero_add]))
  simp only [Option.map_some]
  repeat' (first | refine go ?_ | intro _ | (apply cG; first | refine cT ?_ | refine cF ?_ | refine cS (fun _ => ?_) fun _ => ?_) | (apply gW; refine sW ?_) | (apply gI; refine sI ?_) | (apply gE; refine sE ?_) | (apply gP; refine sP ?_) | (apply gC; refine sC ?_) | (apply gD; refine sD ?_) | fail)
  refine O_d (dy_call ArgsI.pf (by first | exact rfl | trivial | (intro a b; rfl)) (CT.pull (i := 3) (by rfl) (Out_o (w := wa) (acked := 0) (got := 0) (wait := Mg i) (held := []) (ow := false) (.inr rfl) hw.1 hw.2.1 g0.w hMb g0.a1 g0.a2 g0.g1 g0.g2))) ?_; rintro _ _ ⟨_, ⟨A1, c1, l, hl, rfl, rfl⟩, rfl⟩; refine O_n ?_
  have hll := outP_length hl (.inr rfl)
  rw [hMl] at hll
  repeat' (first | refine go ?_ | intro _ | (apply cG; first | refine cT ?_ | refine cF ?_ | refine cS (fun _ => ?_) fun _ => ?_) | (apply gW; refine sW ?_) | (apply gI; refine sI ?_) | (apply gE; refine sE ?_) | (apply gP; refine sP ?_) | (apply gC; refine sC ?_) | (apply gD; refine sD ?_) | fail)
  refine C_loopS (κ := Nat) [false, false, false, false, false, false, true, false, false, false, false, false, false, true, false, false, false, false, false, false, false, false, false, false, false, false, false, false, false, false, false, false, false, false, false, false, false, false, false, false, false, false, false, false, false, false, false, false, false, false, false, false, false, false, false, true, true, true, true, true, true, true, true, true, true, true, true, true, true, true, true, true, true, true, true, true, true, true, true, true, true, true, true, true, true, true, false, false, false, false, false, false, false, false, false, false, false, false, false, false, false, false, false, false, false, false, false, false, false, false, false, false, false, false, false, false, false, false, false, false, false, false, false, false, false, false, false, false, false, false, false, false, false, false, false, false, false, false, false, false, false, false, false, false, false, false, false, false, false, false, false, false, false, false, false, false, false] (fun k => [(13, .int .i64 (k : Int))]) (fun k => [(1, sp ((l.drop k).map oB))]) (fun k => k ≤ l.length) (fun k => l.length - k) 0 (Nat.zero_le _) ⟨rfl, trivial⟩ ?_ Sb
  rintro j u2 hj
  ((try dsimp only); refine C_n ?_; (try simp only [Nat.reduceAdd, Nat.zero_add]))
  by_cases hjl : j < l.length
  · obtain ⟨y, hy⟩ : ∃ y, l[j]? = some y := ⟨_, List.getElem?_eq_getElem hjl⟩
    have hdr : l.drop j = y :: l.drop (j + 1) := by rw [List.drop_eq_getElem_cons hjl]; congr 1; rw [List.getElem?_eq_getElem hjl] at hy; injection hy
    obtain ⟨_, hyb⟩ := msg_get hl hy
    rw [hdr]
    refine C_sub (S := sp (oB y :: (l.drop (j + 1)).map oB) :: own 44 ePB (.slice A1 l.length c1) l :: endo pa wa 0 0 (Mg i) [] false :: ende q ⟨wa, 0, 0, Mg i, [], false⟩ :: own 5 eB (.slice (some ⟨bg, 0, none⟩) 1 1) [x] :: rd ePt (.slice (some ⟨eg, 0, none⟩) 2 2) [pa, pb] :: ende pb ⟨wb, 0, 0, [], [], false⟩ :: L) Sb ?_
    refine C_sub sub_spcons ?_
    refine ownF fun Ay cy hfy => ?_
    obtain ⟨ys, ya, yv, yb⟩ := y
    dsimp only at hyb hfy
    subst hyb
    dsimp only [List.length_cons, List.length_nil] at hfy
    subst hfy
    have hay : At l j ⟨ys, ya, .slice Ay 1 cy, [UInt8.ofNat j]⟩ := ⟨hy⟩
    have hb8 : ((UInt8.ofNat j).toNat : Int) = (j : Int) := by rw [u8_small (by omega)]
    have hbat : At [UInt8.ofNat j] 0 (UInt8.ofNat j) := ⟨rfl⟩
    refine C_sub (S := own 5 eB (.slice Ay 1 cy) [UInt8.ofNat j] :: sp ((l.drop (j + 1)).map oB) :: own 44 ePB (.slice A1 l.length c1) l :: endo pa wa 0 0 (Mg i) [] false :: ende q ⟨wa, 0, 0, Mg i, [], false⟩ :: own 5 eB (.slice (some ⟨bg, 0, none⟩) 1 1) [x] :: rd ePt (.slice (some ⟨eg, 0, none⟩) 2 2) [pa, pb] :: ende pb ⟨wb, 0, 0, [], [], false⟩ :: L) (Sub.refl _) ?_
    repeat' (first | refine go ?_ | intro _ | (apply cG; first | refine cT ?_ | refine cF ?_ | refine cS (fun _ => ?_) fun _ => ?_) | (apply gW; refine sW ?_) | (apply gI; refine sI ?_) | (apply gE; refine sE ?_) | (apply gP; refine sP ?_) | (apply gC; refine sC ?_) | (apply gD; refine sD ?_) | fail)
    refine O_d (dy_storeE (f := bv) (hf := fun _ => rfl) (A := Ay) (n := 1) (c := cy) (i := 0) (99 : UInt8) (hm := rfl) (hy := by rfl) (hj := Nat.zero_lt_one)) ?_; rintro _ _ ⟨rfl, rfl⟩; refine O_n ?_
    repeat' (first | refine go ?_ | intro _ | (apply cG; first | refine cT ?_ | refine cF ?_ | refine cS (fun _ => ?_) fun _ => ?_) | (apply gW; refine sW ?_) | (apply gI; refine sI ?_) | (apply gE; refine sE ?_) | (apply gP; refine sP ?_) | (apply gC; refine sC ?_) | (apply gD; refine sD ?_) | fail)
    exact E_round (j + 1) hjl (by show l.length - (j + 1) < l.length - j; omega) ⟨rfl, trivial⟩ Sb
  obtain rfl : j = l.length := by omega
  repeat' (first | refine go ?_ | intro _ | (apply cG; first | refine cT ?_ | refine cF ?_ | refine cS (fun _ => ?_) fun _ => ?_) | (apply gW; refine sW ?_) | (apply gI; refine sI ?_) | (apply gE; refine sE ?_) | (apply gP; refine sP ?_) | (apply gC; refine sC ?_) | (apply gD; refine sD ?_) | fail)
  refine O_rdnil eB none 0 ?_
  refine O_d (dy_call ArgsI.pf (by first | exact rfl | trivial | (intro a b; rfl)) (CT.pull (i := 3) (by rfl) (In_ct (e := ⟨wa, 0, 0, Mg i, [], false⟩) (b := []) Sc.pf g0 (by decide)))) ?_; rintro _ _ ⟨_, ⟨A2, c2, x2, hx2, rfl, rfl⟩, rfl⟩; refine O_n ?_
  have hin : inP ⟨wa, 0, 0, Mg i, [], false⟩ 0 (i : Int) x2 = (⟨wa, i, 0, [], [], false⟩, []) := by
    rw [inP, if_pos ⟨⟨Int.le_refl _, by omega, by rw [hx2]; exact Nat.zero_le _, .inr (by rw [hx2]; rfl)⟩, by dsimp only; omega, by show (0 : Int) ≤ 0 + 16; decide⟩, if_pos rfl]
    have e1 : max (0 : Int) (i : Int) = i := by omega
    have e2 : ((i : Int) - 0).toNat = i := by omega
    have e3 : (Mg i).drop i = [] := List.drop_eq_nil_of_le (by omega)
    dsimp only
    rw [e1, e2, e3]
  rw [hin]
  dsimp only
  repeat' (first | refine go ?_ | intro _ | (apply cG; first | refine cT ?_ | refine cF ?_ | refine cS (fun _ => ?_) fun _ => ?_) | (apply gW; refine sW ?_) | (apply gI; refine sI ?_) | (apply gE; refine sE ?_) | (apply gP; refine sP ?_) | (apply gC; refine sC ?_) | (apply gD; refine sD ?_) | fail)
  refine O_d (dy_call ArgsI.pf (by first | exact rfl | trivial | (intro a b; rfl)) (CT.pull (i := 5) (by rfl) (Out_e (e := ⟨wa, 0, 0, Mg i, [], false⟩) (e' := ⟨wa, 0, 0, Mg i, [], false⟩) g0 hw.1 hw.2.1 hMb rfl))) ?_; rintro _ _ ⟨_, ⟨A4, c4, l2, hl2, rfl, rfl⟩, rfl⟩; refine O_n ?_
  have hll2 := outP_length hl2 (.inr rfl)
  dsimp only at hll2
  rw [hMl, ← hll] at hll2
  repeat' (first | refine go ?_ | intro _ | (apply cG; first | refine cT ?_ | refine cF ?_ | refine cS (fun _ => ?_) fun _ => ?_) | (apply gW; refine sW ?_) | (apply gI; refine sI ?_) | (apply gE; refine sE ?_) | (apply gP; refine sP ?_) | (apply gC; refine sC ?_) | (apply gD; refine sD ?_) | fail)
  refine C_loopS (κ := Nat) [false, false, false, false, false, false, true, false, false, false, false, false, false, false, false, true, false, false, false, false, false, false, false, false, false, false, false, false, false, false, false, false, false, false, false, false, false, false, false, false, false, false, false, false, false, false, false, false, false, false, false, false, false, false, false, false, false, false, false, false, false, false, false, false, false, false, false, false, false, false, false, false, false, false, false, false, false, false, false, false, false, false, false, false, false, false, false, false, false, false, false, false, false, false, false, false, false, false, false, false, false, true, true, true, true, true, true, true, true, true, true, true, true, true, true, true, true, true, true, true, true, true, true, true, true, true, true, true, true, true, true, true, true, true, true, true, false, false, false, false, false, false, false, false, false, false, false, false, false, false, false, false, false, false, false, false, false] (fun k => [(15, .int .i64 (k : Int))]) (fun k => []) (fun k => k ≤ l2.length) (fun k => l2.length - k) 0 (Nat.zero_le _) ⟨rfl, trivial⟩ ?_
  rintro j u3 hj
  ((try dsimp only); refine C_n ?_; (try simp only [Nat.reduceAdd, Nat.zero_add]))
  by_cases hjl : j < l2.length
  · obtain ⟨y, hy⟩ : ∃ y, l2[j]? = some y := ⟨_, List.getElem?_eq_getElem hjl⟩
    obtain ⟨hys, hyb⟩ := msg_get hl2 hy
    refine C_sub (sub_peekP (l := l2) (j := j) (x := y) (by repeat (first | exact .head _ | refine .tail _ ?_)) hy) ?_
    refine C_fact (fun w s => (Src.sl (.inl (.head _)) s : Sl _ eB y.v y.b).form) ?_
    rintro ⟨Ay, cy, hfy, _⟩
    obtain ⟨ys, ya, yv, yb⟩ := y
    dsimp only at hys hyb hfy
    subst hyb
    simp only [List.length_cons, List.length_nil, Nat.zero_add] at hfy
    subst hfy
    have hay : At l2 j ⟨ys, ya, .slice Ay 1 cy, [UInt8.ofNat j]⟩ := ⟨hy⟩
    have hys2 : PK.s ⟨ys, ya, .slice Ay 1 cy, [UInt8.ofNat j]⟩ = (j : Int) + 1 := hys
    have hb8 : ((UInt8.ofNat j).toNat : Int) = (j : Int) := by rw [u8_small (by omega)]
    have hbat : At [UInt8.ofNat j] 0 (UInt8.ofNat j) := ⟨rfl⟩
    repeat' (first | refine go ?_ | intro _ | (apply cG; first | refine cT ?_ | refine cF ?_ | refine cS (fun _ => ?_) fun _ => ?_) | (apply gW; refine sW ?_) | (apply gI; refine sI ?_) | (apply gE; refine sE ?_) | (apply gP; refine sP ?_) | (apply gC; refine sC ?_) | (apply gD; refine sD ?_) | fail)
    exact E_round (j + 1) hjl (by show l2.length - (j + 1) < l2.length - j; omega) ⟨rfl, trivial⟩ Sb
  obtain rfl : j = l2.length := by omega
  repeat' (first | refine go ?_ | intro _ | (apply cG; first | refine cT ?_ | refine cF ?_ | refine cS (fun _ => ?_) fun _ => ?_) | (apply gW; refine sW ?_) | (apply gI; refine sI ?_) | (apply gE; refine sE ?_) | (apply gP; refine sP ?_) | (apply gC; refine sC ?_) | (apply gD; refine sD ?_) | fail)
  refine O_d (dy_call ArgsI.pf (by first | exact rfl | trivial | (intro a b; rfl)) (CT.pull (i := 1) (by rfl) (Waiting_e (e := ⟨wa, 0, 0, Mg i, [], false⟩)))) ?_; rintro _ _ ⟨_, ⟨rfl, rfl⟩, rfl⟩; refine O_n ?_
  dsimp only
  rw [hMl]
  repeat' (first | refine go ?_ | intro _ | (apply cG; first | refine cT ?_ | refine cF ?_ | refine cS (fun _ => ?_) fun _ => ?_) | (apply gW; refine sW ?_) | (apply gI; refine sI ?_) | (apply gE; refine sE ?_) | (apply gP; refine sP ?_) | (apply gC; refine sC ?_) | (apply gD; refine sD ?_) | fail)
  refine O_d (dy_call ArgsI.pf (by first | exact rfl | trivial | (intro a b; rfl)) (CT.pull (i := 3) (by rfl) (Waiting_e (e := ⟨wa, i, 0, [], [], false⟩)))) ?_; rintro _ _ ⟨_, ⟨rfl, rfl⟩, rfl⟩; refine O_n ?_
  simp only [List.length_nil]
  repeat' (first | refine go ?_ | intro _ | (apply cG; first | refine cT ?_ | refine cF ?_ | refine cS (fun _ => ?_) fun _ => ?_) | (apply gW; refine sW ?_) | (apply gI; refine sI ?_) | (apply gE; refine sE ?_) | (apply gP; refine sP ?_) | (apply gC; refine sC ?_) | (apply gD; refine sD ?_) | fail)
  refine O_d (dy_call ArgsI.pf (by first | exact rfl | trivial | (intro a b; rfl)) (lives_ct)) ?_; rintro _ _ ⟨_, ⟨rfl, hLL⟩, rfl⟩; replace hLL := hLL.symm; subst hLL; refine O_n ?_
  repeat' (first | refine go ?_ | intro _ | (apply cG; first | refine cT ?_ | refine cF ?_ | refine cS (fun _ => ?_) fun _ => ?_) | (apply gW; refine sW ?_) | (apply gI; refine sI ?_) | (apply gE; refine sE ?_) | (apply gP; refine sP ?_) | (apply gC; refine sC ?_) | (apply gD; refine sD ?_) | fail)
  refine E_res1 (by rfl) (by rfl) ⟨rfl, rfl⟩ Sb
theorem ChannelCopies_any {window many cut : Int} {w : World} (hw1 : -9223372036854775808 ≤ window) (hw2 : window ≤ 9223372036854775807) (h11 : -9223372036854775808 ≤ many) (h12 : many ≤ 9223372036854775807) (h21 : -9223372036854775808 ≤ cut) (h22 : cut ≤ 9223372036854775807) :
    Calls Try.prog 7 #[.int .i64 window, .int .i64 many, .int .i64 cut] w fun e w' => e = .returned (.bool true) ∧ Below w.heap.size w w' :=
  ((ChannelCopies_ct (W0 := w) hw1 hw2 h11 h12 h21 h22).run w (St.init w)).mono fun e w' h => by
    obtain ⟨v, L', rfl, ⟨rfl, rfl⟩, s⟩ := h
    exact ⟨rfl, s.below⟩
end
end Go.Proofs.Ythbgmnoaaohbcaa
namespace Go.Proofs.Ythbgmnoaaohbcaa
open Go Go.RowKit
set_option linter.unusedVariables false
set_option linter.unusedSimpArgs false
def toB (n : Int) : UInt8 := UInt8.ofNat n.toNat
theorem toB_wf {n : Int} (h : (Lit.int .u8 n).wf = true) : ((toB n).toNat : Int) = n := by
  simp [Lit.wf, IntKind.min, IntKind.max, IntKind.signed, IntKind.bits] at h
  unfold toB
  simp
  omega
/-- a row of numbers of one kind, said as the rows' proofs say it -/
theorem row_sl {α : Type} {f : α → Value} {hf : ∀ a, (f a).oneCell' = true} {k : IntKind} {w : World} {a : Option Addr} {len cap : Nat} {zs : List Int} {l : List α} (hl : l.map f = (zs.take len).map (Value.int k)) (hz : zs.length = cap) (hlc : len ≤ cap)
    {x : Addr} (ha : a = some x) (hcell : ∀ i, i < zs.length → w.cell? (x.add i) = some (.int k (zs.getD i 0))) : Sl (Hp.of w) (e1 f hf) (.slice a len cap) l := by
  have hlen : l.length = len := by
    have := congrArg List.length hl
    simp at this
    omega
  subst hlen
  refine ⟨a, cap, l.map fun b => [f b], rfl, hlc, all2_e1.2 rfl, ?_⟩
  by_cases h0 : l = []
  · exact .inl h0
  · right
    have hpos : 0 < l.length := List.length_pos_iff.2 h0
    obtain ⟨b, off, spot⟩ := x
    have h1 := hcell 0 (by omega)
    have hspot : spot = none := by simpa [Addr.add] using World.cell?_spot h1
    subst hspot
    rw [flat_one]
    have hb : ∃ cs t fr, w.heap[b]? = some (.cells cs t fr) := by
      unfold World.cell? at h1
      simp only [Addr.add] at h1
      split at h1
      · rename_i cs t fr he; exact ⟨cs, t, fr, he⟩
      · cases h1
    obtain ⟨cs, t, fr, hb⟩ := hb
    refine ⟨b, off, cs, t, fr, ha, hb, ?_⟩
    intro j u hj
    rw [hl] at hj
    have hjl : j < l.length := by
      have := (List.getElem?_eq_some_iff.1 hj).1
      simp at this
      omega
    have h2 := hcell j (by omega)
    have h3 : w.cell? ⟨b, off + j, none⟩ = some (.int k (zs.getD j 0)) := by
      have e : (Addr.add ⟨b, off, none⟩ j) = ⟨b, off + j, none⟩ := by
        by_cases hj0 : j = 0
        · subst hj0; rfl
        · simp [Addr.add, hj0]
      rw [e] at h2
      exact h2
    have h4 : cs[off + j]? = some (.int k (zs.getD j 0)) := by simpa [World.cell?, hb] using h3
    rw [h4]
    rw [List.getElem?_map, List.getElem?_take, if_pos hjl] at hj
    rw [List.getD_eq_getElem?_getD]
    cases hzz : zs[j]? with
    | none => rw [hzz] at hj; cases hj
    | some z => rw [hzz] at hj; simpa using hj
theorem row_i64 {w : World} {a : Option Addr} {len cap : Nat} {zs : List Int} (h : (a = none ∧ len = 0 ∧ cap = 0 ∧ zs = []) ∨
    ∃ x, a = some x ∧ len ≤ cap ∧ cap ≤ maxLen ∧ zs.length = cap ∧ (∀ i, i < zs.length → w.cell? (x.add i) = some (.int .i64 (zs.getD i 0))) ∧ ∀ n ∈ zs, (Lit.int .i64 n).wf = true) :
    ∃ l : List Int, Sl (Hp.of w) eI (.slice a len cap) l ∧ l.length = len ∧ len ≤ 9223372036854775807 ∧ ∀ n ∈ l, -9223372036854775808 ≤ n ∧ n ≤ 9223372036854775807 := by
  rcases h with ⟨rfl, rfl, rfl, rfl⟩ | ⟨x, ha, hl, hm, hz, hc, hw⟩
  · exact ⟨[], ⟨none, 0, [], rfl, Nat.le_refl _, trivial, .inl rfl⟩, rfl, by omega, by simp⟩
  · unfold maxLen at hm
    refine ⟨zs.take len, row_sl rfl hz hl ha hc, by simp; omega, by omega, fun n hn => ?_⟩
    have := hw n (List.mem_of_mem_take hn)
    simpa [Lit.wf, IntKind.min, IntKind.max, IntKind.signed, IntKind.bits] using this
theorem row_u8 {w : World} {a : Option Addr} {len cap : Nat} {zs : List Int} (h : (a = none ∧ len = 0 ∧ cap = 0 ∧ zs = []) ∨
    ∃ x, a = some x ∧ len ≤ cap ∧ cap ≤ maxLen ∧ zs.length = cap ∧ (∀ i, i < zs.length → w.cell? (x.add i) = some (.int .u8 (zs.getD i 0))) ∧ ∀ n ∈ zs, (Lit.int .u8 n).wf = true) :
    ∃ l : List UInt8, Sl (Hp.of w) eB (.slice a len cap) l ∧ l.length = len ∧ len ≤ 9223372036854775807 := by
  rcases h with ⟨rfl, rfl, rfl, rfl⟩ | ⟨x, ha, hl, hm, hz, hc, hw⟩
  · exact ⟨[], ⟨none, 0, [], rfl, Nat.le_refl _, trivial, .inl rfl⟩, rfl, by omega⟩
  · unfold maxLen at hm
    refine ⟨(zs.take len).map toB, row_sl ?_ hz hl ha hc, by simp; omega, by omega⟩
    rw [List.map_map]
    refine List.map_congr_left fun n hn => ?_
    show bv (toB n) = _
    rw [bv, toB_wf (hw n (List.mem_of_mem_take hn))]
theorem St.mem_ {W : World} {α : Type} {R : Enc α} {v : Value} {l : List α} {L : List HP} (h : Sl (Hp.of W) R v l) (hS : St W W L) : St W W (Go.Proofs.Ythbgmnoaaohbcaa.rd R v l :: L) := hS.old h
end Go.Proofs.Ythbgmnoaaohbcaa
