/-
  Walks: ChannelProgress.
-/
import Derived.Test.YthbgmnoaaohbcaaMT
namespace Go.Proofs.Ythbgmnoaaohbcaa
open Go Go.RowKit
set_option linter.unusedVariables false
set_option linter.unusedSimpArgs false
set_option maxRecDepth 20000
set_option synthInstance.maxSize 100000
set_option synthInstance.maxHeartbeats 400000
section
variable {W0 : World} {L : List HP}
set_option maxHeartbeats 4000000 in
theorem ChannelProgress_ct {window one two lost : Int} (hw1 : -9223372036854775808 ≤ window) (hw2 : window ≤ 9223372036854775807) (h11 : -9223372036854775808 ≤ one) (h12 : one ≤ 9223372036854775807) (h21 : -9223372036854775808 ≤ two) (h22 : two ≤ 9223372036854775807) (h31 : -9223372036854775808 ≤ lost) (h32 : lost ≤ 9223372036854775807) :
    CT Try.prog 5 #[.int .i64 window, .int .i64 one, .int .i64 two, .int .i64 lost] W0 L fun r L' => r = .bool true ∧ L' = L := by
  refine CT_enter Try.func5 rfl ?_; (simp only [Try.ntmps5, List.size_toArray, List.length_cons, List.length_nil, Nat.reduceAdd, Nat.reduceSub, Array.replicate_succ, Array.replicate_zero, List.push_toArray, List.append_toArray, List.nil_append, List.cons_append])
  repeat' (first | refine go ?_ | intro _ | (apply cG; first | refine cT ?_ | refine cF ?_ | refine cS (fun _ => ?_) fun _ => ?_) | (apply gW; refine sW ?_) | (apply gI; refine sI ?_) | (apply gE; refine sE ?_) | (apply gP; refine sP ?_) | (apply gC; refine sC ?_) | (apply gD; refine sD ?_) | fail)
  refine O_d (dy_call ArgsI.pf (by first | exact rfl | trivial | (intro a b; rfl)) (ends_ct hw1 hw2)) ?_; rintro _ _ ⟨_, ⟨eg, pa, pb, wa, wb, hw, hwa, hwb, rfl, rfl⟩, rfl⟩; refine O_n ?_
  repeat' (first | refine go ?_ | intro _ | (apply cG; first | refine cT ?_ | refine cF ?_ | refine cS (fun _ => ?_) fun _ => ?_) | (apply gW; refine sW ?_) | (apply gI; refine sI ?_) | (apply gE; refine sE ?_) | (apply gP; refine sP ?_) | (apply gC; refine sC ?_) | (apply gD; refine sD ?_) | fail)
  refine O_d (dy_call ArgsI.pf (by first | exact rfl | trivial | (intro a b; rfl)) (Around_ct (most := 41) h11 h12 (by decide) (by decide))) ?_; rintro _ _ ⟨_, ⟨rfl, hLL⟩, rfl⟩; replace hLL := hLL.symm; subst hLL; refine O_n ?_
  obtain ⟨m0, hm0, hm0l⟩ : ∃ n : Nat, around one 41 = (n : Int) ∧ n ≤ 40 := by
    have := around_in (n := one) (most := 41) (by decide)
    exact ⟨(around one 41).toNat, by omega, by omega⟩
  rw [hm0]
  repeat' (first | refine go ?_ | intro _ | (apply cG; first | refine cT ?_ | refine cF ?_ | refine cS (fun _ => ?_) fun _ => ?_) | (apply gW; refine sW ?_) | (apply gI; refine sI ?_) | (apply gE; refine sE ?_) | (apply gP; refine sP ?_) | (apply gC; refine sC ?_) | (apply gD; refine sD ?_) | fail)
  refine O_d (dy_call ArgsI.pf (by first | exact rfl | trivial | (intro a b; rfl)) (Around_ct (most := 41) h21 h22 (by decide) (by decide))) ?_; rintro _ _ ⟨_, ⟨rfl, hLL⟩, rfl⟩; replace hLL := hLL.symm; subst hLL; refine O_n ?_
  obtain ⟨m1, hm1, hm1l⟩ : ∃ n : Nat, around two 41 = (n : Int) ∧ n ≤ 40 := by
    have := around_in (n := two) (most := 41) (by decide)
    exact ⟨(around two 41).toNat, by omega, by omega⟩
  rw [hm1]
  repeat' (first | refine go ?_ | intro _ | (apply cG; first | refine cT ?_ | refine cF ?_ | refine cS (fun _ => ?_) fun _ => ?_) | (apply gW; refine sW ?_) | (apply gI; refine sI ?_) | (apply gE; refine sE ?_) | (apply gP; refine sP ?_) | (apply gC; refine sC ?_) | (apply gD; refine sD ?_) | fail)
  refine O_d (dy_litP (f := iv) (hf := fun _ => rfl) [(m0 : Int), (m1 : Int)] (by rfl)) ?_; rintro _ _ ⟨_, rfl, rfl⟩; refine O_n ?_
  rename_i mg
  refine O_frz 0 ?_
  refine O_sub (S := ende pa ⟨wa, 0, 0, [], [], false⟩ :: ende pb ⟨wb, 0, 0, [], [], false⟩ :: rd eI (.slice (some ⟨mg, 0, none⟩) 2 2) [(m0 : Int), (m1 : Int)] :: rd ePt (.slice (some ⟨eg, 0, none⟩) 2 2) [pa, pb] :: L) Sb ?_
  have hp0 : At [pa, pb] 0 pa := ⟨rfl⟩
  have hp1 : At [pa, pb] 1 pb := ⟨rfl⟩
  have hma : At [(m0 : Int), (m1 : Int)] 0 (m0 : Int) := ⟨rfl⟩
  have hmb : At [(m0 : Int), (m1 : Int)] 1 (m1 : Int) := ⟨rfl⟩
  repeat' (first | refine go ?_ | intro _ | (apply cG; first | refine cT ?_ | refine cF ?_ | refine cS (fun _ => ?_) fun _ => ?_) | (apply gW; refine sW ?_) | (apply gI; refine sI ?_) | (apply gE; refine sE ?_) | (apply gP; refine sP ?_) | (apply gC; refine sC ?_) | (apply gD; refine sD ?_) | fail)
  refine C_loopS (κ := Nat) [false, false, false, false, false, false, false, false, true, false, false, true, true, false, false, false, false, false, false, false, false, false, false, false, false, false, false, false, false, false, true, true, true, true, true, true, true, true, true, true, true, true, true, true, true, true, true, true, true, true, true, false, false, false, false, false, false, false, false, false, false, false, false, false, false, false, false, false, false, false, false, false, false, false, false, false, false, false, false, false, false, false, false, false, false, false, false, false, false, false, false, false, false, false, false, false, false, false, false, false, false, false, false, false, false, false, false, false, false, false, false, false, false, false, false, false, false, false, false, false, false, false, false, false, false, false, false, false, false, false, false, false, false, false, false, false, false, false, false, false, false, false, false, false, false, false, false, false, false, false, false, false, false, false, false, false, false, false, false, false, false, false, false, false, false, false, false] (fun k => [(11, .int .i64 (k : Int))]) (fun k => [(0, ende pa ⟨wa, 0, 0, Mg (if k = 0 then 0 else m0), [], false⟩), (1, ende pb ⟨wb, 0, 0, Mg (if k ≤ 1 then 0 else m1), [], false⟩)]) (fun k => k ≤ 2) (fun k => 2 - k) 0 (by decide) ⟨rfl, trivial⟩ ?_ Sb
  rintro k u hk
  ((try dsimp only); refine C_n ?_; (try simp only [Nat.reduceAdd, Nat.zero_add]))
  obtain rfl | rfl | rfl : k = 0 ∨ k = 1 ∨ k = 2 := by omega
  · repeat' (first | refine go ?_ | intro _ | (apply cG; first | refine cT ?_ | refine cF ?_ | refine cS (fun _ => ?_) fun _ => ?_) | (apply gW; refine sW ?_) | (apply gI; refine sI ?_) | (apply gE; refine sE ?_) | (apply gP; refine sP ?_) | (apply gC; refine sC ?_) | (apply gD; refine sD ?_) | fail)
    refine C_loopS (κ := Nat) [false, false, false, false, false, false, false, false, true, false, false, false, true, false, false, false, false, false, false, false, false, false, false, false, false, false, false, false, false, false, false, false, false, false, true, true, true, true, true, true, true, true, true, true, true, true, true, true, true, true, true, false, false, false, false, false, false, false, false, false, false, false, false, false, false, false, false, false, false, false, false, false, false, false, false, false, false, false, false, false, false, false, false, false, false, false, false, false, false, false, false, false, false, false, false, false, false, false, false, false, false, false, false, false, false, false, false, false, false, false, false, false, false, false, false, false, false, false, false, false, false, false, false, false, false, false, false, false, false, false, false, false, false, false, false, false, false, false, false, false, false, false, false, false, false, false, false, false, false, false, false, false, false, false, false, false, false, false, false, false, false, false, false, false, false, false, false] (fun k => [(12, .int .i64 (k : Int))]) (fun k => [(0, ende pa ⟨wa, 0, 0, Mg k, [], false⟩)]) (fun k => k ≤ m0) (fun k => m0 - k) 0 (Nat.zero_le _) ⟨rfl, trivial⟩ ?_ Sb
    rintro j u2 hj
    ((try dsimp only); refine C_n ?_; (try simp only [Nat.reduceAdd, Nat.zero_add]))
    by_cases hjl : j < m0
    · have hwr : IntKind.u8.wrap (j : Int) = ((UInt8.ofNat j).toNat : Int) := by
        rw [UInt8.toNat_ofNat', wr_u8 (by omega) (by omega)]
        omega
      repeat' (first | refine go ?_ | intro _ | (apply cG; first | refine cT ?_ | refine cF ?_ | refine cS (fun _ => ?_) fun _ => ?_) | (apply gI; refine sI ?_) | (apply gE; refine sE ?_) | (apply gP; refine sP ?_) | (apply gC; refine sC ?_) | (apply gD; refine sD ?_) | fail)
      apply gW; refine sW (r := ((UInt8.ofNat j).toNat : Int)) ?_ hwr
      repeat' (first | refine go ?_ | intro _ | (apply cG; first | refine cT ?_ | refine cF ?_ | refine cS (fun _ => ?_) fun _ => ?_) | (apply gW; refine sW ?_) | (apply gI; refine sI ?_) | (apply gE; refine sE ?_) | (apply gP; refine sP ?_) | (apply gC; refine sC ?_) | (apply gD; refine sD ?_) | fail)
      refine O_d (dy_litP (f := bv) (hf := fun _ => rfl) [UInt8.ofNat j] (by rfl)) ?_; rintro _ _ ⟨_, rfl, rfl⟩; refine O_n ?_
      refine O_frz 0 ?_
      refine O_d (dy_call ArgsI.pf (by first | exact rfl | trivial | (intro a b; rfl)) (CT.pull (i := 1) (by rfl) (Send_e (b := [UInt8.ofNat j]) (e' := ⟨wa, 0, 0, Mg (j + 1), [], false⟩) Sc.pf (by show 1 ≤ 65536; decide) (by show (Mg j).length < 1000; rw [Mg_len]; omega) (by rw [Mg_succ])))) ?_; rintro _ _ ⟨_, ⟨rfl, rfl⟩, rfl⟩; refine O_n ?_
      repeat' (first | refine go ?_ | intro _ | (apply cG; first | refine cT ?_ | refine cF ?_ | refine cS (fun _ => ?_) fun _ => ?_) | (apply gW; refine sW ?_) | (apply gI; refine sI ?_) | (apply gE; refine sE ?_) | (apply gP; refine sP ?_) | (apply gC; refine sC ?_) | (apply gD; refine sD ?_) | fail)
      exact E_round (j + 1) hjl (by show m0 - (j + 1) < m0 - j; omega) ⟨rfl, trivial⟩ Sb
    obtain rfl : j = m0 := by omega
    repeat' (first | refine go ?_ | intro _ | (apply cG; first | refine cT ?_ | refine cF ?_ | refine cS (fun _ => ?_) fun _ => ?_) | (apply gW; refine sW ?_) | (apply gI; refine sI ?_) | (apply gE; refine sE ?_) | (apply gP; refine sP ?_) | (apply gC; refine sC ?_) | (apply gD; refine sD ?_) | fail)
    exact E_round 1 (by decide) (by decide) ⟨rfl, trivial⟩ Sb
  · repeat' (first | refine go ?_ | intro _ | (apply cG; first | refine cT ?_ | refine cF ?_ | refine cS (fun _ => ?_) fun _ => ?_) | (apply gW; refine sW ?_) | (apply gI; refine sI ?_) | (apply gE; refine sE ?_) | (apply gP; refine sP ?_) | (apply gC; refine sC ?_) | (apply gD; refine sD ?_) | fail)
    refine C_loopS (κ := Nat) [false, false, false, false, false, false, false, false, true, false, false, false, true, false, false, false, false, false, false, false, false, false, false, false, false, false, false, false, false, false, false, false, false, false, true, true, true, true, true, true, true, true, true, true, true, true, true, true, true, true, true, false, false, false, false, false, false, false, false, false, false, false, false, false, false, false, false, false, false, false, false, false, false, false, false, false, false, false, false, false, false, false, false, false, false, false, false, false, false, false, false, false, false, false, false, false, false, false, false, false, false, false, false, false, false, false, false, false, false, false, false, false, false, false, false, false, false, false, false, false, false, false, false, false, false, false, false, false, false, false, false, false, false, false, false, false, false, false, false, false, false, false, false, false, false, false, false, false, false, false, false, false, false, false, false, false, false, false, false, false, false, false, false, false, false, false, false] (fun k => [(12, .int .i64 (k : Int))]) (fun k => [(1, ende pb ⟨wb, 0, 0, Mg k, [], false⟩)]) (fun k => k ≤ m1) (fun k => m1 - k) 0 (Nat.zero_le _) ⟨rfl, trivial⟩ ?_ Sb
    rintro j u2 hj
    ((try dsimp only); refine C_n ?_; (try simp only [Nat.reduceAdd, Nat.zero_add]))
    by_cases hjl : j < m1
    · have hwr : IntKind.u8.wrap (j : Int) = ((UInt8.ofNat j).toNat : Int) := by
        rw [UInt8.toNat_ofNat', wr_u8 (by omega) (by omega)]
        omega
      repeat' (first | refine go ?_ | intro _ | (apply cG; first | refine cT ?_ | refine cF ?_ | refine cS (fun _ => ?_) fun _ => ?_) | (apply gI; refine sI ?_) | (apply gE; refine sE ?_) | (apply gP; refine sP ?_) | (apply gC; refine sC ?_) | (apply gD; refine sD ?_) | fail)
      apply gW; refine sW (r := ((UInt8.ofNat j).toNat : Int)) ?_ hwr
      repeat' (first | refine go ?_ | intro _ | (apply cG; first | refine cT ?_ | refine cF ?_ | refine cS (fun _ => ?_) fun _ => ?_) | (apply gW; refine sW ?_) | (apply gI; refine sI ?_) | (apply gE; refine sE ?_) | (apply gP; refine sP ?_) | (apply gC; refine sC ?_) | (apply gD; refine sD ?_) | fail)
      refine O_d (dy_litP (f := bv) (hf := fun _ => rfl) [UInt8.ofNat j] (by rfl)) ?_; rintro _ _ ⟨_, rfl, rfl⟩; refine O_n ?_
      refine O_frz 0 ?_
      refine O_d (dy_call ArgsI.pf (by first | exact rfl | trivial | (intro a b; rfl)) (CT.pull (i := 2) (by rfl) (Send_e (b := [UInt8.ofNat j]) (e' := ⟨wb, 0, 0, Mg (j + 1), [], false⟩) Sc.pf (by show 1 ≤ 65536; decide) (by show (Mg j).length < 1000; rw [Mg_len]; omega) (by rw [Mg_succ])))) ?_; rintro _ _ ⟨_, ⟨rfl, rfl⟩, rfl⟩; refine O_n ?_
      repeat' (first | refine go ?_ | intro _ | (apply cG; first | refine cT ?_ | refine cF ?_ | refine cS (fun _ => ?_) fun _ => ?_) | (apply gW; refine sW ?_) | (apply gI; refine sI ?_) | (apply gE; refine sE ?_) | (apply gP; refine sP ?_) | (apply gC; refine sC ?_) | (apply gD; refine sD ?_) | fail)
      exact E_round (j + 1) hjl (by show m1 - (j + 1) < m1 - j; omega) ⟨rfl, trivial⟩ Sb
    obtain rfl : j = m1 := by omega
    repeat' (first | refine go ?_ | intro _ | (apply cG; first | refine cT ?_ | refine cF ?_ | refine cS (fun _ => ?_) fun _ => ?_) | (apply gW; refine sW ?_) | (apply gI; refine sI ?_) | (apply gE; refine sE ?_) | (apply gP; refine sP ?_) | (apply gC; refine sC ?_) | (apply gD; refine sD ?_) | fail)
    exact E_round 2 (by decide) (by decide) ⟨rfl, trivial⟩ Sb
  repeat' (first | refine go ?_ | intro _ | (apply cG; first | refine cT ?_ | refine cF ?_ | refine cS (fun _ => ?_) fun _ => ?_) | (apply gW; refine sW ?_) | (apply gI; refine sI ?_) | (apply gE; refine sE ?_) | (apply gP; refine sP ?_) | (apply gC; refine sC ?_) | (apply gD; refine sD ?_) | fail)
  refine C_sub (S := ende pa (mkE wa 0 0 m0 false) :: ende pb (mkE wb 0 0 m1 false) :: rd eI (.slice (some ⟨mg, 0, none⟩) 2 2) [(m0 : Int), (m1 : Int)] :: rd ePt (.slice (some ⟨eg, 0, none⟩) 2 2) [pa, pb] :: L) Sb ?_
  obtain ⟨q, hq, hq5⟩ : ∃ n : Nat, around lost 5 = (n : Int) ∧ n < 5 := by
    have := around_in (n := lost) (most := 5) (by decide)
    exact ⟨(around lost 5).toNat, by omega, by omega⟩
  refine C_loopS (κ := Nat) [false, false, false, false, false, false, false, false, false, false, false, false, false, true, false, false, false, false, false, false, false, false, false, false, false, false, false, false, false, false, false, false, false, false, false, false, false, false, false, false, false, false, false, false, false, false, false, false, false, false, false, true, true, true, true, true, true, true, true, true, true, true, true, false, false, false, false, false, false, false, false, false, false, false, false, false, false, false, false, false, false, false, false, false, false, false, false, false, false, false, false, false, false, false, false, false, false, false, false, false, false, false, false, false, false, false, false, false, false, false, false, false, false, false, false, false, false, false, false, false, false, false, false, false, false, false, false, false, false, false, false, false, false, false, false, false, false, false, false, false, false, false, false, false, false, false, false, false, false, false, false, false, false, false, false, false, false, false, false, false, false, false, false, false, false, false, false] (fun k => [(13, .int .i64 (k : Int))]) (fun k => []) (fun k => k ≤ q) (fun k => q - k) 0 (Nat.zero_le _) ⟨rfl, trivial⟩ ?_
  rintro i u2 hi
  ((try dsimp only); refine C_n ?_; (try simp only [Nat.reduceAdd, Nat.zero_add]))
  repeat' (first | refine go ?_ | intro _ | (apply cG; first | refine cT ?_ | refine cF ?_ | refine cS (fun _ => ?_) fun _ => ?_) | (apply gW; refine sW ?_) | (apply gI; refine sI ?_) | (apply gE; refine sE ?_) | (apply gP; refine sP ?_) | (apply gC; refine sC ?_) | (apply gD; refine sD ?_) | fail)
  refine O_d (dy_call ArgsI.pf (by first | exact rfl | trivial | (intro a b; rfl)) (Around_ct (most := 5) h31 h32 (by decide) (by decide))) ?_; rintro _ _ ⟨_, ⟨rfl, hLL⟩, rfl⟩; replace hLL := hLL.symm; subst hLL; refine O_n ?_
  rw [hq]
  by_cases hil : i < q
  · rcases Nat.mod_two_eq_zero_or_one i with h2 | h2
    · have hrem : (i : Int).tmod 2 = 0 := by rw [Int.tmod_eq_emod_of_nonneg (by omega)]; omega
      repeat' (first | refine go ?_ | intro _ | (apply cG; first | refine cT ?_ | refine cF ?_ | refine cS (fun _ => ?_) fun _ => ?_) | (apply gI; refine sI ?_) | (apply gE; refine sE ?_) | (apply gP; refine sP ?_) | (apply gC; refine sC ?_) | (apply gD; refine sD ?_) | fail)
      apply gW; refine sW (r := 0) ?_ ⟨by decide, hrem⟩
      repeat' (first | refine go ?_ | intro _ | (apply cG; first | refine cT ?_ | refine cF ?_ | refine cS (fun _ => ?_) fun _ => ?_) | (apply gW; refine sW ?_) | (apply gI; refine sI ?_) | (apply gE; refine sE ?_) | (apply gP; refine sP ?_) | (apply gC; refine sC ?_) | (apply gD; refine sD ?_) | fail)
      refine O_d (dy_call ArgsI.pf (by first | exact rfl | trivial | (intro a b; rfl)) (CT.pull (i := 0) (by rfl) (Out_e (e := mkE wa 0 0 m0 false) (e' := mkE wa 0 0 m0 false) (mkE_good (by omega) (by omega) (by omega)) (by show 1 ≤ wa; omega) (by show wa ≤ 16; omega) (fun x hx => by have := Mg_one (List.mem_of_mem_drop hx); omega) rfl))) ?_; rintro _ _ ⟨_, ⟨A1, c1, l, hl, rfl, rfl⟩, rfl⟩; refine O_n ?_
      repeat' (first | refine go ?_ | intro _ | (apply cG; first | refine cT ?_ | refine cF ?_ | refine cS (fun _ => ?_) fun _ => ?_) | (apply gW; refine sW ?_) | (apply gI; refine sI ?_) | (apply gE; refine sE ?_) | (apply gP; refine sP ?_) | (apply gC; refine sC ?_) | (apply gD; refine sD ?_) | fail)
      exact E_round (i + 1) hil (by show q - (i + 1) < q - i; omega) ⟨rfl, trivial⟩ Sb
    · have hrem : (i : Int).tmod 2 = 1 := by rw [Int.tmod_eq_emod_of_nonneg (by omega)]; omega
      repeat' (first | refine go ?_ | intro _ | (apply cG; first | refine cT ?_ | refine cF ?_ | refine cS (fun _ => ?_) fun _ => ?_) | (apply gI; refine sI ?_) | (apply gE; refine sE ?_) | (apply gP; refine sP ?_) | (apply gC; refine sC ?_) | (apply gD; refine sD ?_) | fail)
      apply gW; refine sW (r := 1) ?_ ⟨by decide, hrem⟩
      repeat' (first | refine go ?_ | intro _ | (apply cG; first | refine cT ?_ | refine cF ?_ | refine cS (fun _ => ?_) fun _ => ?_) | (apply gW; refine sW ?_) | (apply gI; refine sI ?_) | (apply gE; refine sE ?_) | (apply gP; refine sP ?_) | (apply gC; refine sC ?_) | (apply gD; refine sD ?_) | fail)
      refine O_d (dy_call ArgsI.pf (by first | exact rfl | trivial | (intro a b; rfl)) (CT.pull (i := 1) (by rfl) (Out_e (e := mkE wb 0 0 m1 false) (e' := mkE wb 0 0 m1 false) (mkE_good (by omega) (by omega) (by omega)) (by show 1 ≤ wb; omega) (by show wb ≤ 16; omega) (fun x hx => by have := Mg_one (List.mem_of_mem_drop hx); omega) rfl))) ?_; rintro _ _ ⟨_, ⟨A1, c1, l, hl, rfl, rfl⟩, rfl⟩; refine O_n ?_
      repeat' (first | refine go ?_ | intro _ | (apply cG; first | refine cT ?_ | refine cF ?_ | refine cS (fun _ => ?_) fun _ => ?_) | (apply gW; refine sW ?_) | (apply gI; refine sI ?_) | (apply gE; refine sE ?_) | (apply gP; refine sP ?_) | (apply gC; refine sC ?_) | (apply gD; refine sD ?_) | fail)
      exact E_round (i + 1) hil (by show q - (i + 1) < q - i; omega) ⟨rfl, trivial⟩ Sb
  obtain rfl : i = q := by omega
  repeat' (first | refine go ?_ | intro _ | (apply cG; first | refine cT ?_ | refine cF ?_ | refine cS (fun _ => ?_) fun _ => ?_) | (apply gW; refine sW ?_) | (apply gI; refine sI ?_) | (apply gE; refine sE ?_) | (apply gP; refine sP ?_) | (apply gC; refine sC ?_) | (apply gD; refine sD ?_) | fail)
  refine O_d (dy_litP (f := iv) (hf := fun _ => rfl) [0, 0] (by rfl)) ?_; rintro _ _ ⟨_, rfl, rfl⟩; refine O_n ?_
  rename_i gg
  repeat' (first | refine go ?_ | intro _ | (apply cG; first | refine cT ?_ | refine cF ?_ | refine cS (fun _ => ?_) fun _ => ?_) | (apply gW; refine sW ?_) | (apply gI; refine sI ?_) | (apply gE; refine sE ?_) | (apply gP; refine sP ?_) | (apply gC; refine sC ?_) | (apply gD; refine sD ?_) | fail)
  refine C_loopS (κ := Nat × PS) [false, false, false, false, false, false, false, false, true, false, false, false, false, false, false, true, true, true, true, true, true, false, false, false, false, false, false, false, false, false, false, false, false, false, false, false, false, false, false, false, false, false, false, false, false, false, false, false, false, false, false, false, false, false, false, false, false, false, false, false, false, false, false, false, true, true, true, true, true, true, true, true, true, true, true, true, true, true, true, true, true, true, true, true, true, true, true, true, true, true, true, true, true, true, true, true, true, true, true, true, true, true, true, true, true, true, true, true, true, true, true, true, true, true, true, true, true, true, true, true, true, true, true, true, true, true, true, true, true, true, true, true, true, true, false, false, false, false, false, false, false, false, false, false, false, false, false, false, false, false, false, false, false, false, false, false, false, false, false, false, false, false, false, false, false, false, false] (fun k => [(15, .int .i64 (k.1 : Int))]) (fun k => [(0, own 3 eI (.slice (some ⟨gg, 0, none⟩) 2 2) [(k.2.g0 : Int), (k.2.g1 : Int)]), (1, ende pa (mkE wa k.2.a0 k.2.g0 m0 k.2.q0)), (2, ende pb (mkE wb k.2.a1 k.2.g1 m1 k.2.q1))]) (fun k => k.1 ≤ max m0 m1 + 1 ∧ PI m0 m1 k.1 k.2) (fun k => max m0 m1 + 1 - k.1) (0, ⟨0, 0, 0, 0, false, false⟩) ⟨Nat.zero_le _, ⟨rfl, Nat.zero_le _, Nat.le_refl _, Nat.zero_le _, fun h => absurd h (Nat.lt_irrefl _), by dsimp only; omega, by dsimp only; omega, by dsimp only; omega⟩⟩ ⟨rfl, trivial⟩ ?_ Sb
  rintro ⟨r, s⟩ u3 ⟨hr, hPI⟩
  dsimp only at hr hPI
  dsimp only
  ((try dsimp only); refine C_n ?_; (try simp only [Nat.reduceAdd, Nat.zero_add]))
  have hmax : (if (m1 : Int) > (m0 : Int) then (m1 : Int) else (m0 : Int)) = ((max m0 m1 : Nat) : Int) := by split <;> omega
  repeat' (first | refine go ?_ | intro _ | (apply cG; first | refine cT ?_ | refine cF ?_ | refine cS (fun _ => ?_) fun _ => ?_) | (apply gW; refine sW ?_) | (apply gI; refine sI ?_) | (apply gE; refine sE ?_) | (apply gP; refine sP ?_) | (apply gC; refine sC ?_) | (apply gD; refine sD ?_) | fail)
  refine C_draw (n := 99) [rd eI (.slice (some ⟨mg, 0, none⟩) 2 2) [(m0 : Int), (m1 : Int)]] [(0, 1), (1, 1), (2, 1), (3, 1), (4, 1), (5, 1), (6, 1), (7, 1), (8, 1)] (by kernel_rfl) (by kernel_rfl) Sb ?_
  repeat' (first | refine go ?_ | intro _ | (apply cG; first | refine cT ?_ | refine cF ?_ | refine cS (fun _ => ?_) fun _ => ?_) | (apply gI; refine sI ?_) | (apply gE; refine sE ?_) | (apply gP; refine sP ?_) | (apply gC; refine sC ?_) | (apply gD; refine sD ?_) | fail)
  apply gW; refine sW (r := ((max m0 m1 : Nat) : Int)) ?_ hmax
  by_cases hrm : r ≤ max m0 m1
  · repeat' (first | refine go ?_ | intro _ | (apply cG; first | refine cT ?_ | refine cF ?_ | refine cS (fun _ => ?_) fun _ => ?_) | (apply gW; refine sW ?_) | (apply gI; refine sI ?_) | (apply gE; refine sE ?_) | (apply gP; refine sP ?_) | (apply gC; refine sC ?_) | (apply gD; refine sD ?_) | fail)
    refine C_loopS (κ := Nat × PS) [false, false, false, false, false, false, false, false, true, false, false, false, false, false, false, false, true, true, true, true, true, false, false, false, false, false, false, false, false, false, false, false, false, false, false, false, false, false, false, false, false, false, false, false, false, false, false, false, false, false, false, false, false, false, false, false, false, false, false, false, false, false, false, false, false, false, false, false, false, false, false, false, false, false, false, true, true, true, true, true, true, true, true, true, true, true, true, true, true, true, true, true, true, true, true, true, true, true, true, true, true, true, true, true, true, true, true, true, true, true, true, true, true, true, true, true, true, true, true, true, true, true, true, true, true, true, true, true, true, true, true, true, true, true, false, false, false, false, false, false, false, false, false, false, false, false, false, false, false, false, false, false, false, false, false, false, false, false, false, false, false, false, false, false, false, false, false] (fun k => [(16, .int .i64 (k.1 : Int))]) (fun k => [(0, own 3 eI (.slice (some ⟨gg, 0, none⟩) 2 2) [(k.2.g0 : Int), (k.2.g1 : Int)]), (1, ende pa (mkE wa k.2.a0 k.2.g0 m0 k.2.q0)), (2, ende pb (mkE wb k.2.a1 k.2.g1 m1 k.2.q1))]) (fun k => (k.1 = 0 ∧ PI m0 m1 r k.2) ∨ (k.1 = 1 ∧ PJ m0 m1 r k.2) ∨ (k.1 = 2 ∧ PI m0 m1 (r + 1) k.2)) (fun k => 2 - k.1) (0, s) (.inl ⟨rfl, hPI⟩) ⟨rfl, trivial⟩ ?_ Sb
    clear hPI
    rintro ⟨k, a0, g0, a1, g1, q0, q1⟩ u3 hcase
    dsimp only at hcase
    dsimp only
    ((try dsimp only); refine C_n ?_; (try simp only [Nat.reduceAdd, Nat.zero_add]))
    rcases hcase with ⟨rfl, hP⟩ | ⟨rfl, hP⟩ | ⟨rfl, hP⟩
    · have hb1 := hP.le0; have hb2 := hP.le1; have hb3 := hP.le2; have hb4 := hP.e; dsimp only at hb1 hb2 hb3 hb4
      obtain rfl : a0 = g1 := by omega
      repeat' (first | refine go ?_ | intro _ | (apply cG; first | refine cT ?_ | refine cF ?_ | refine cS (fun _ => ?_) fun _ => ?_) | (apply gW; refine sW ?_) | (apply gI; refine sI ?_) | (apply gE; refine sE ?_) | (apply gP; refine sP ?_) | (apply gC; refine sC ?_) | (apply gD; refine sD ?_) | fail)
      refine O_d (dy_call ArgsI.pf (by first | exact rfl | trivial | (intro a b; rfl)) (CT.pull (i := 1) (by rfl) (Out_e (e := mkE wa a0 g0 m0 q0) (e' := mkE wa a0 g0 m0 false) (mkE_good (by omega) (by omega) (by omega)) (by show 1 ≤ wa; omega) (by show wa ≤ 16; omega) (fun x hx => by have := Mg_one (List.mem_of_mem_drop hx); omega) rfl))) ?_; rintro _ _ ⟨_, ⟨A1, c1, l, hl, rfl, rfl⟩, rfl⟩; refine O_n ?_
      obtain ⟨R, G, O, hH, hG, hR⟩ := half (ws := wa) (wr := wb) (c := a0) (gs := g0) (ms := m0) (ar := a1) (mr := m1) (ows := q0) (owr := q1) (by omega) hl (by omega) (by omega) (by omega) (by omega) (by omega)
      have hll : l.length ≤ 16 := by
        have h1 := congrArg List.length hl
        have h2 := outP_len (w := wa) (acked := a0) (got := g0) (wait := (Mg m0).drop a0) (ow := q0) (by omega)
        rw [List.length_map] at h1
        exact Nat.le_trans (Nat.le_of_eq h1) h2
      repeat' (first | refine go ?_ | intro _ | (apply cG; first | refine cT ?_ | refine cF ?_ | refine cS (fun _ => ?_) fun _ => ?_) | (apply gW; refine sW ?_) | (apply gI; refine sI ?_) | (apply gE; refine sE ?_) | (apply gP; refine sP ?_) | (apply gC; refine sC ?_) | (apply gD; refine sD ?_) | fail)
      have hR0 : mkE wb a1 a0 m1 q1 = R 0 := hH.r0.symm
      have hG0 : a0 = G 0 := hH.g0.symm
      refine C_loopS (κ := Nat) [false, false, false, false, false, false, false, false, true, false, false, false, false, false, false, false, false, false, true, true, true, false, false, false, false, false, false, false, false, false, false, false, false, false, false, false, false, false, false, false, false, false, false, false, false, false, false, false, false, false, false, false, false, false, false, false, false, false, false, false, false, false, false, false, false, false, false, false, false, false, false, false, false, false, false, false, false, false, false, false, false, false, false, false, true, true, true, true, true, true, true, true, true, true, true, true, true, true, true, true, true, true, true, true, true, true, true, true, true, true, true, true, true, true, true, true, true, true, true, true, true, true, true, true, true, true, true, true, true, true, true, true, true, true, false, false, false, false, false, false, false, false, false, false, false, false, false, false, false, false, false, false, false, false, false, false, false, false, false, false, false, false, false, false, false, false, false] (fun k => [(18, .int .i64 (k : Int))]) (fun k => [(2, own 3 eI (.slice (some ⟨gg, 0, none⟩) 2 2) [(g0 : Int), (G k : Int)]), (3, ende pb (R k))]) (fun k => k ≤ l.length) (fun k => l.length - k) 0 (Nat.zero_le _) ⟨rfl, trivial⟩ ?_ (by rw [← hR0, ← hG0]; exact Sb)
      rintro i u4 hi
      ((try dsimp only); refine C_n ?_; (try simp only [Nat.reduceAdd, Nat.zero_add]))
      by_cases hil : i < l.length
      · obtain ⟨x, hx⟩ : ∃ x, l[i]? = some x := ⟨_, List.getElem?_eq_getElem hil⟩
        have hax : At l i x := ⟨hx⟩
        have hxb := hH.bl x (List.mem_of_getElem? hx)
        have hgi := hH.gb i (by omega)
        have hgi1 := hH.gb (i + 1) (by omega)
        refine C_sub (sub_peekP (l := l) (j := i) (x := x) (by repeat (first | exact .head _ | refine .tail _ ?_)) hx) ?_
        repeat' (first | refine go ?_ | intro _ | (apply cG; first | refine cT ?_ | refine cF ?_ | refine cS (fun _ => ?_) fun _ => ?_) | (apply gW; refine sW ?_) | (apply gI; refine sI ?_) | (apply gE; refine sE ?_) | (apply gP; refine sP ?_) | (apply gC; refine sC ?_) | (apply gD; refine sD ?_) | fail)
        refine C_draw (n := 99) [rd ePt (.slice (some ⟨eg, 0, none⟩) 2 2) [pa, pb], own 44 ePK (.slice A1 l.length c1) l] [(0, 1), (1, 1), (2, 1), (3, 1), (4, 1), (5, 1), (6, 1), (7, 1), (8, 1), (9, 0), (10, 1)] (by kernel_rfl) (by kernel_rfl) Sb ?_
        repeat' (first | refine go ?_ | intro _ | (apply cG; first | refine cT ?_ | refine cF ?_ | refine cS (fun _ => ?_) fun _ => ?_) | (apply gW; refine sW ?_) | (apply gI; refine sI ?_) | (apply gE; refine sE ?_) | (apply gP; refine sP ?_) | (apply gC; refine sC ?_) | (apply gD; refine sD ?_) | fail)
        refine D_op rfl ?_; refine X_d (dy_call ArgsI.pf (by first | exact rfl | trivial | (intro a b; rfl)) (CT.pull (i := 4) (by rfl) (In_ct (e := R i) (b := x.b) Sc.pf (hH.good i (by omega)) (by omega)))) ?_; rintro _ _ ⟨_, ⟨A2, c2, z, hz, rfl, rfl⟩, rfl⟩; refine ⟨(by first | exact .inl rfl | exact .inr Sb), D_n ?_⟩
        rw [hH.st i x z hx hz]
        dsimp only
        obtain ⟨o, ho⟩ : ∃ o, O i = o := ⟨_, rfl⟩
        have hoo := hH.o i x hx
        rw [ho] at hoo ⊢
        repeat' (first | refine go ?_ | intro _ | (apply cG; first | refine cT ?_ | refine cF ?_ | refine cS (fun _ => ?_) fun _ => ?_) | (apply gW; refine sW ?_) | (apply gI; refine sI ?_) | (apply gE; refine sE ?_) | (apply gP; refine sP ?_) | (apply gC; refine sC ?_) | (apply gD; refine sD ?_) | fail)
        refine C_ownSB 0 rfl fun out' ho' => ?_
        simp only [List.set_cons_zero]
        have hol : out'.length = o.length := by rw [← ho', List.length_map]
        refine C_loopS (κ := Nat) [false, false, false, false, false, false, false, false, true, false, false, false, false, false, false, false, false, false, false, false, true, false, false, false, false, false, false, false, false, false, false, false, false, false, false, false, false, false, false, false, false, false, false, false, false, false, false, false, false, false, false, false, false, false, false, false, false, false, false, false, false, false, false, false, false, false, false, false, false, false, false, false, false, false, false, false, false, false, false, false, false, false, false, false, false, false, false, false, false, false, false, false, false, false, false, false, false, false, false, false, true, true, true, true, true, true, true, true, true, true, true, true, true, true, true, true, true, true, true, true, true, true, true, true, true, true, true, true, true, true, true, true, true, true, false, false, false, false, false, false, false, false, false, false, false, false, false, false, false, false, false, false, false, false, false, false, false, false, false, false, false, false, false, false, false, false, false] (fun k => [(20, .int .i64 (k : Int))]) (fun k => [(5, own 3 eI (.slice (some ⟨gg, 0, none⟩) 2 2) [(g0 : Int), ((G i + k : Nat) : Int)])]) (fun k => k ≤ o.length) (fun k => o.length - k) 0 (Nat.zero_le _) ⟨rfl, trivial⟩ ?_ Sb
        rintro j u5 hj
        ((try dsimp only); refine C_n ?_; (try simp only [Nat.reduceAdd, Nat.zero_add]))
        by_cases hjl : j < o.length
        · rcases hoo with ⟨h1, _⟩ | ⟨h1, h2⟩
          · rw [h1] at hjl; simp at hjl
          obtain rfl : j = 0 := by rw [h1] at hjl; simp at hjl; omega
          have ho1 : o.length = 1 := by rw [h1]; rfl
          rw [Nat.add_zero (G i)]
          obtain ⟨y, hy⟩ : ∃ y, out'[0]? = some y := ⟨_, List.getElem?_eq_getElem (by omega)⟩
          have hyb : y.b = [UInt8.ofNat (G i)] := by
            have : o[0]? = some y.b := by rw [← ho', List.getElem?_map, hy]; rfl
            rw [h1] at this
            simp at this
            exact this.symm
          have hyl : y.b.length = 1 := by rw [hyb]; rfl
          have hat0 : At out' 0 y := ⟨hy⟩
          refine C_sub (sub_peekSBo (l := out') (j := 0) (x := y) (by repeat (first | exact .head _ | refine .tail _ ?_)) hy) ?_
          rw [hyb]
          refine C_fact (fun w s => ((Src.sl (.inl (.head _)) s : Sl _ eB y.v [UInt8.ofNat (G i)]).form)) ?_
          rintro ⟨Ay, cy, hform, hcy⟩
          obtain ⟨yv, yb⟩ := y
          dsimp only at hform hyb
          subst hform
          subst hyb
          have hatg : At [(g0 : Int), (G i : Int)] 1 (G i : Int) := ⟨rfl⟩
          have hatb : At [UInt8.ofNat (G i)] 0 (UInt8.ofNat (G i)) := ⟨rfl⟩
          have hbn : (UInt8.ofNat (G i)).toNat = G i := by rw [UInt8.toNat_ofNat']; omega
          have hl1 : [UInt8.ofNat (G i)].length = 1 := rfl
          repeat' (first | refine go ?_ | intro _ | (apply cG; first | refine cT ?_ | refine cF ?_ | refine cS (fun _ => ?_) fun _ => ?_) | (apply gW; refine sW ?_) | (apply gI; refine sI ?_) | (apply gE; refine sE ?_) | (apply gP; refine sP ?_) | (apply gC; refine sC ?_) | (apply gD; refine sD ?_) | fail)
          refine C_draw (n := 99) [rd eB (.slice Ay [UInt8.ofNat (G i)].length cy) [UInt8.ofNat (G i)], own 31 eSB (.slice A2 o.length c2) out', own 3 eI (.slice (some ⟨gg, 0, none⟩) 2 2) [(g0 : Int), (G i : Int)]] [(0, 1), (1, 1), (2, 1), (3, 1), (4, 1), (5, 1), (6, 1), (7, 1), (8, 1), (9, 1), (10, 1), (11, 1), (12, 1), (13, 1), (14, 1), (15, 1), (16, 1), (17, 1), (18, 1), (19, 1), (20, 1)] (by kernel_rfl) (by kernel_rfl) Sb ?_
          repeat' (first | refine go ?_ | intro _ | (apply cG; first | refine cT ?_ | refine cF ?_ | refine cS (fun _ => ?_) fun _ => ?_) | (apply gW; refine sW ?_) | (apply gI; refine sI ?_) | (apply gE; refine sE ?_) | (apply gP; refine sP ?_) | (apply gC; refine sC ?_) | (apply gD; refine sD ?_) | fail)
          refine O_d (dy_storeE (f := iv) (hf := fun _ => rfl) (j := 1) (n := 2) (c := 2) ((G i : Int) + 1) (hy := by rfl) (hj := by show _ < 2; decide)) ?_; rintro _ _ ⟨rfl, rfl⟩; refine O_n ?_
          repeat' (first | refine go ?_ | intro _ | (apply cG; first | refine cT ?_ | refine cF ?_ | refine cS (fun _ => ?_) fun _ => ?_) | (apply gW; refine sW ?_) | (apply gI; refine sI ?_) | (apply gE; refine sE ?_) | (apply gP; refine sP ?_) | (apply gC; refine sC ?_) | (apply gD; refine sD ?_) | fail)
          exact E_round 1 (by rw [ho1]; exact Nat.le_refl _) (by show o.length - 1 < o.length - 0; omega) ⟨rfl, trivial⟩ Sb
        obtain rfl : j = o.length := by omega
        repeat' (first | refine go ?_ | intro _ | (apply cG; first | refine cT ?_ | refine cF ?_ | refine cS (fun _ => ?_) fun _ => ?_) | (apply gW; refine sW ?_) | (apply gI; refine sI ?_) | (apply gE; refine sE ?_) | (apply gP; refine sP ?_) | (apply gC; refine sC ?_) | (apply gD; refine sD ?_) | fail)
        have hGn : G i + o.length = G (i + 1) := by
          rcases hoo with ⟨h1, h2⟩ | ⟨h1, h2⟩
          · rw [h1, h2]; rfl
          · rw [h1, h2]; rfl
        rw [hGn]
        exact E_round (i + 1) hil (by show l.length - (i + 1) < l.length - i; omega) ⟨rfl, trivial⟩ Sb
      obtain rfl : i = l.length := by omega
      rw [hG, hR]
      repeat' (first | refine go ?_ | intro _ | (apply cG; first | refine cT ?_ | refine cF ?_ | refine cS (fun _ => ?_) fun _ => ?_) | (apply gW; refine sW ?_) | (apply gI; refine sI ?_) | (apply gE; refine sE ?_) | (apply gP; refine sP ?_) | (apply gC; refine sC ?_) | (apply gD; refine sD ?_) | fail)
      exact E_round (1, ⟨a0, g0, (if 0 < m0 - a0 ∨ q0 = true then max a1 g0 else a1), a0 + min wa.toNat (m0 - a0), false, q1 || decide (0 < m0 - a0)⟩) (.inr (.inl ⟨rfl, hP.mid (by omega)⟩)) (by show 2 - 1 < 2 - 0; decide) ⟨rfl, trivial⟩ Sb
    · have hb1 := hP.le0; have hb2 := hP.le1; have hb3 := hP.le2; have hb4 := hP.e; dsimp only at hb1 hb2 hb3 hb4
      obtain rfl : a1 = g0 := by omega
      repeat' (first | refine go ?_ | intro _ | (apply cG; first | refine cT ?_ | refine cF ?_ | refine cS (fun _ => ?_) fun _ => ?_) | (apply gW; refine sW ?_) | (apply gI; refine sI ?_) | (apply gE; refine sE ?_) | (apply gP; refine sP ?_) | (apply gC; refine sC ?_) | (apply gD; refine sD ?_) | fail)
      refine O_d (dy_call ArgsI.pf (by first | exact rfl | trivial | (intro a b; rfl)) (CT.pull (i := 2) (by rfl) (Out_e (e := mkE wb a1 g1 m1 q1) (e' := mkE wb a1 g1 m1 false) (mkE_good (by omega) (by omega) (by omega)) (by show 1 ≤ wb; omega) (by show wb ≤ 16; omega) (fun x hx => by have := Mg_one (List.mem_of_mem_drop hx); omega) rfl))) ?_; rintro _ _ ⟨_, ⟨A1, c1, l, hl, rfl, rfl⟩, rfl⟩; refine O_n ?_
      obtain ⟨R, G, O, hH, hG, hR⟩ := half (ws := wb) (wr := wa) (c := a1) (gs := g1) (ms := m1) (ar := a0) (mr := m0) (ows := q1) (owr := q0) (by omega) hl (by omega) (by omega) (by omega) (by omega) (by omega)
      have hll : l.length ≤ 16 := by
        have h1 := congrArg List.length hl
        have h2 := outP_len (w := wb) (acked := a1) (got := g1) (wait := (Mg m1).drop a1) (ow := q1) (by omega)
        rw [List.length_map] at h1
        exact Nat.le_trans (Nat.le_of_eq h1) h2
      repeat' (first | refine go ?_ | intro _ | (apply cG; first | refine cT ?_ | refine cF ?_ | refine cS (fun _ => ?_) fun _ => ?_) | (apply gW; refine sW ?_) | (apply gI; refine sI ?_) | (apply gE; refine sE ?_) | (apply gP; refine sP ?_) | (apply gC; refine sC ?_) | (apply gD; refine sD ?_) | fail)
      have hR0 : mkE wa a0 a1 m0 q0 = R 0 := hH.r0.symm
      have hG0 : a1 = G 0 := hH.g0.symm
      refine C_loopS (κ := Nat) [false, false, false, false, false, false, false, false, true, false, false, false, false, false, false, false, false, false, true, true, true, false, false, false, false, false, false, false, false, false, false, false, false, false, false, false, false, false, false, false, false, false, false, false, false, false, false, false, false, false, false, false, false, false, false, false, false, false, false, false, false, false, false, false, false, false, false, false, false, false, false, false, false, false, false, false, false, false, false, false, false, false, false, false, true, true, true, true, true, true, true, true, true, true, true, true, true, true, true, true, true, true, true, true, true, true, true, true, true, true, true, true, true, true, true, true, true, true, true, true, true, true, true, true, true, true, true, true, true, true, true, true, true, true, false, false, false, false, false, false, false, false, false, false, false, false, false, false, false, false, false, false, false, false, false, false, false, false, false, false, false, false, false, false, false, false, false] (fun k => [(18, .int .i64 (k : Int))]) (fun k => [(2, own 3 eI (.slice (some ⟨gg, 0, none⟩) 2 2) [(G k : Int), (g1 : Int)]), (3, ende pa (R k))]) (fun k => k ≤ l.length) (fun k => l.length - k) 0 (Nat.zero_le _) ⟨rfl, trivial⟩ ?_ (by rw [← hR0, ← hG0]; exact Sb)
      rintro i u4 hi
      ((try dsimp only); refine C_n ?_; (try simp only [Nat.reduceAdd, Nat.zero_add]))
      by_cases hil : i < l.length
      · obtain ⟨x, hx⟩ : ∃ x, l[i]? = some x := ⟨_, List.getElem?_eq_getElem hil⟩
        have hax : At l i x := ⟨hx⟩
        have hxb := hH.bl x (List.mem_of_getElem? hx)
        have hgi := hH.gb i (by omega)
        have hgi1 := hH.gb (i + 1) (by omega)
        refine C_sub (sub_peekP (l := l) (j := i) (x := x) (by repeat (first | exact .head _ | refine .tail _ ?_)) hx) ?_
        repeat' (first | refine go ?_ | intro _ | (apply cG; first | refine cT ?_ | refine cF ?_ | refine cS (fun _ => ?_) fun _ => ?_) | (apply gW; refine sW ?_) | (apply gI; refine sI ?_) | (apply gE; refine sE ?_) | (apply gP; refine sP ?_) | (apply gC; refine sC ?_) | (apply gD; refine sD ?_) | fail)
        refine C_draw (n := 99) [rd ePt (.slice (some ⟨eg, 0, none⟩) 2 2) [pa, pb], own 44 ePK (.slice A1 l.length c1) l] [(0, 1), (1, 1), (2, 1), (3, 1), (4, 1), (5, 1), (6, 1), (7, 1), (8, 1), (9, 0), (10, 1)] (by kernel_rfl) (by kernel_rfl) Sb ?_
        repeat' (first | refine go ?_ | intro _ | (apply cG; first | refine cT ?_ | refine cF ?_ | refine cS (fun _ => ?_) fun _ => ?_) | (apply gW; refine sW ?_) | (apply gI; refine sI ?_) | (apply gE; refine sE ?_) | (apply gP; refine sP ?_) | (apply gC; refine sC ?_) | (apply gD; refine sD ?_) | fail)
        refine D_op rfl ?_; refine X_d (dy_call ArgsI.pf (by first | exact rfl | trivial | (intro a b; rfl)) (CT.pull (i := 4) (by rfl) (In_ct (e := R i) (b := x.b) Sc.pf (hH.good i (by omega)) (by omega)))) ?_; rintro _ _ ⟨_, ⟨A2, c2, z, hz, rfl, rfl⟩, rfl⟩; refine ⟨(by first | exact .inl rfl | exact .inr Sb), D_n ?_⟩
        rw [hH.st i x z hx hz]
        dsimp only
        obtain ⟨o, ho⟩ : ∃ o, O i = o := ⟨_, rfl⟩
        have hoo := hH.o i x hx
        rw [ho] at hoo ⊢
        repeat' (first | refine go ?_ | intro _ | (apply cG; first | refine cT ?_ | refine cF ?_ | refine cS (fun _ => ?_) fun _ => ?_) | (apply gW; refine sW ?_) | (apply gI; refine sI ?_) | (apply gE; refine sE ?_) | (apply gP; refine sP ?_) | (apply gC; refine sC ?_) | (apply gD; refine sD ?_) | fail)
        refine C_ownSB 0 rfl fun out' ho' => ?_
        simp only [List.set_cons_zero]
        have hol : out'.length = o.length := by rw [← ho', List.length_map]
        refine C_loopS (κ := Nat) [false, false, false, false, false, false, false, false, true, false, false, false, false, false, false, false, false, false, false, false, true, false, false, false, false, false, false, false, false, false, false, false, false, false, false, false, false, false, false, false, false, false, false, false, false, false, false, false, false, false, false, false, false, false, false, false, false, false, false, false, false, false, false, false, false, false, false, false, false, false, false, false, false, false, false, false, false, false, false, false, false, false, false, false, false, false, false, false, false, false, false, false, false, false, false, false, false, false, false, false, true, true, true, true, true, true, true, true, true, true, true, true, true, true, true, true, true, true, true, true, true, true, true, true, true, true, true, true, true, true, true, true, true, true, false, false, false, false, false, false, false, false, false, false, false, false, false, false, false, false, false, false, false, false, false, false, false, false, false, false, false, false, false, false, false, false, false] (fun k => [(20, .int .i64 (k : Int))]) (fun k => [(5, own 3 eI (.slice (some ⟨gg, 0, none⟩) 2 2) [((G i + k : Nat) : Int), (g1 : Int)])]) (fun k => k ≤ o.length) (fun k => o.length - k) 0 (Nat.zero_le _) ⟨rfl, trivial⟩ ?_ Sb
        rintro j u5 hj
        ((try dsimp only); refine C_n ?_; (try simp only [Nat.reduceAdd, Nat.zero_add]))
        by_cases hjl : j < o.length
        · rcases hoo with ⟨h1, _⟩ | ⟨h1, h2⟩
          · rw [h1] at hjl; simp at hjl
          obtain rfl : j = 0 := by rw [h1] at hjl; simp at hjl; omega
          have ho1 : o.length = 1 := by rw [h1]; rfl
          rw [Nat.add_zero (G i)]
          obtain ⟨y, hy⟩ : ∃ y, out'[0]? = some y := ⟨_, List.getElem?_eq_getElem (by omega)⟩
          have hyb : y.b = [UInt8.ofNat (G i)] := by
            have : o[0]? = some y.b := by rw [← ho', List.getElem?_map, hy]; rfl
            rw [h1] at this
            simp at this
            exact this.symm
          have hyl : y.b.length = 1 := by rw [hyb]; rfl
          have hat0 : At out' 0 y := ⟨hy⟩
          refine C_sub (sub_peekSBo (l := out') (j := 0) (x := y) (by repeat (first | exact .head _ | refine .tail _ ?_)) hy) ?_
          rw [hyb]
          refine C_fact (fun w s => ((Src.sl (.inl (.head _)) s : Sl _ eB y.v [UInt8.ofNat (G i)]).form)) ?_
          rintro ⟨Ay, cy, hform, hcy⟩
          obtain ⟨yv, yb⟩ := y
          dsimp only at hform hyb
          subst hform
          subst hyb
          have hatg : At [(G i : Int), (g1 : Int)] 0 (G i : Int) := ⟨rfl⟩
          have hatb : At [UInt8.ofNat (G i)] 0 (UInt8.ofNat (G i)) := ⟨rfl⟩
          have hbn : (UInt8.ofNat (G i)).toNat = G i := by rw [UInt8.toNat_ofNat']; omega
          have hl1 : [UInt8.ofNat (G i)].length = 1 := rfl
          repeat' (first | refine go ?_ | intro _ | (apply cG; first | refine cT ?_ | refine cF ?_ | refine cS (fun _ => ?_) fun _ => ?_) | (apply gW; refine sW ?_) | (apply gI; refine sI ?_) | (apply gE; refine sE ?_) | (apply gP; refine sP ?_) | (apply gC; refine sC ?_) | (apply gD; refine sD ?_) | fail)
          refine C_draw (n := 99) [rd eB (.slice Ay [UInt8.ofNat (G i)].length cy) [UInt8.ofNat (G i)], own 31 eSB (.slice A2 o.length c2) out', own 3 eI (.slice (some ⟨gg, 0, none⟩) 2 2) [(G i : Int), (g1 : Int)]] [(0, 1), (1, 1), (2, 1), (3, 1), (4, 1), (5, 1), (6, 1), (7, 1), (8, 1), (9, 1), (10, 1), (11, 1), (12, 1), (13, 1), (14, 1), (15, 1), (16, 1), (17, 1), (18, 1), (19, 1), (20, 1)] (by kernel_rfl) (by kernel_rfl) Sb ?_
          repeat' (first | refine go ?_ | intro _ | (apply cG; first | refine cT ?_ | refine cF ?_ | refine cS (fun _ => ?_) fun _ => ?_) | (apply gW; refine sW ?_) | (apply gI; refine sI ?_) | (apply gE; refine sE ?_) | (apply gP; refine sP ?_) | (apply gC; refine sC ?_) | (apply gD; refine sD ?_) | fail)
          refine O_d (dy_storeE (f := iv) (hf := fun _ => rfl) (j := 0) (n := 2) (c := 2) ((G i : Int) + 1) (hy := by rfl) (hj := by show _ < 2; decide)) ?_; rintro _ _ ⟨rfl, rfl⟩; refine O_n ?_
          repeat' (first | refine go ?_ | intro _ | (apply cG; first | refine cT ?_ | refine cF ?_ | refine cS (fun _ => ?_) fun _ => ?_) | (apply gW; refine sW ?_) | (apply gI; refine sI ?_) | (apply gE; refine sE ?_) | (apply gP; refine sP ?_) | (apply gC; refine sC ?_) | (apply gD; refine sD ?_) | fail)
          exact E_round 1 (by rw [ho1]; exact Nat.le_refl _) (by show o.length - 1 < o.length - 0; omega) ⟨rfl, trivial⟩ Sb
        obtain rfl : j = o.length := by omega
        repeat' (first | refine go ?_ | intro _ | (apply cG; first | refine cT ?_ | refine cF ?_ | refine cS (fun _ => ?_) fun _ => ?_) | (apply gW; refine sW ?_) | (apply gI; refine sI ?_) | (apply gE; refine sE ?_) | (apply gP; refine sP ?_) | (apply gC; refine sC ?_) | (apply gD; refine sD ?_) | fail)
        have hGn : G i + o.length = G (i + 1) := by
          rcases hoo with ⟨h1, h2⟩ | ⟨h1, h2⟩
          · rw [h1, h2]; rfl
          · rw [h1, h2]; rfl
        rw [hGn]
        exact E_round (i + 1) hil (by show l.length - (i + 1) < l.length - i; omega) ⟨rfl, trivial⟩ Sb
      obtain rfl : i = l.length := by omega
      rw [hG, hR]
      repeat' (first | refine go ?_ | intro _ | (apply cG; first | refine cT ?_ | refine cF ?_ | refine cS (fun _ => ?_) fun _ => ?_) | (apply gW; refine sW ?_) | (apply gI; refine sI ?_) | (apply gE; refine sE ?_) | (apply gP; refine sP ?_) | (apply gC; refine sC ?_) | (apply gD; refine sD ?_) | fail)
      exact E_round (2, ⟨(if 0 < m1 - a1 ∨ q1 = true then max a0 g1 else a0), a1 + min wb.toNat (m1 - a1), a1, g1, q0 || decide (0 < m1 - a1), false⟩) (.inr (.inr ⟨rfl, hP.next (by omega)⟩)) (by show 2 - 2 < 2 - 1; decide) ⟨rfl, trivial⟩ Sb
    · repeat' (first | refine go ?_ | intro _ | (apply cG; first | refine cT ?_ | refine cF ?_ | refine cS (fun _ => ?_) fun _ => ?_) | (apply gW; refine sW ?_) | (apply gI; refine sI ?_) | (apply gE; refine sE ?_) | (apply gP; refine sP ?_) | (apply gC; refine sC ?_) | (apply gD; refine sD ?_) | fail)
      exact E_round (r + 1, ⟨a0, g0, a1, g1, q0, q1⟩) ⟨by dsimp only; omega, hP⟩ (by show max m0 m1 + 1 - (r + 1) < max m0 m1 + 1 - r; omega) ⟨rfl, trivial⟩ Sb
  obtain rfl : r = max m0 m1 + 1 := by omega
  obtain ⟨a0, g0, a1, g1, q0, q1⟩ := s
  have hb1 := hPI.le0; have hb2 := hPI.le1; have hb3 := hPI.le2; have hb4 := hPI.e; have hb5 := hPI.p0; have hb6 := hPI.p1; have hb7 := hPI.p2
  dsimp only at hb1 hb2 hb3 hb4 hb5 hb6 hb7
  obtain rfl : m0 = a0 := by omega
  obtain rfl : m0 = g1 := by omega
  obtain rfl : m1 = g0 := by omega
  obtain rfl : m1 = a1 := by omega
  dsimp only
  have hat0 : At [(m1 : Int), (m0 : Int)] 0 (m1 : Int) := ⟨rfl⟩
  have hat1 : At [(m1 : Int), (m0 : Int)] 1 (m0 : Int) := ⟨rfl⟩
  have hz0 : (mkE wa m0 m1 m0 q0).wait.length = 0 := by show ((Mg m0).drop m0).length = 0; rw [List.length_drop, Mg_len]; omega
  have hz1 : (mkE wb m1 m0 m1 q1).wait.length = 0 := by show ((Mg m1).drop m1).length = 0; rw [List.length_drop, Mg_len]; omega
  repeat' (first | refine go ?_ | intro _ | (apply cG; first | refine cT ?_ | refine cF ?_ | refine cS (fun _ => ?_) fun _ => ?_) | (apply gW; refine sW ?_) | (apply gI; refine sI ?_) | (apply gE; refine sE ?_) | (apply gP; refine sP ?_) | (apply gC; refine sC ?_) | (apply gD; refine sD ?_) | fail)
  refine C_draw (n := 99) [rd eI (.slice (some ⟨mg, 0, none⟩) 2 2) [(m0 : Int), (m1 : Int)], own 3 eI (.slice (some ⟨gg, 0, none⟩) 2 2) [(m1 : Int), (m0 : Int)], rd ePt (.slice (some ⟨eg, 0, none⟩) 2 2) [pa, pb]] [(0, 1), (1, 1), (2, 1), (3, 1), (4, 1), (5, 1), (6, 1), (7, 1), (8, 1), (9, 1), (10, 1), (11, 1), (12, 1), (13, 1), (14, 1), (15, 1), (16, 1), (17, 1), (18, 1), (19, 1), (20, 0), (21, 1), (22, 1), (23, 1), (24, 1), (25, 1), (26, 1), (27, 0), (28, 1), (29, 1), (30, 1), (31, 0), (32, 1), (33, 1)] (by kernel_rfl) (by kernel_rfl) Sb ?_
  repeat' (first | refine go ?_ | intro _ | (apply cG; first | refine cT ?_ | refine cF ?_ | refine cS (fun _ => ?_) fun _ => ?_) | (apply gW; refine sW ?_) | (apply gI; refine sI ?_) | (apply gE; refine sE ?_) | (apply gP; refine sP ?_) | (apply gC; refine sC ?_) | (apply gD; refine sD ?_) | fail)
  refine D_op rfl ?_; refine X_d (dy_call ArgsI.pf (by first | exact rfl | trivial | (intro a b; rfl)) (CT.pull (i := 1) (by rfl) (Waiting_e))) ?_; rintro _ _ ⟨_, ⟨rfl, rfl⟩, rfl⟩; refine ⟨(by first | exact .inl rfl | exact .inr Sb), D_n ?_⟩
  rw [hz0]
  repeat' (first | refine go ?_ | intro _ | (apply cG; first | refine cT ?_ | refine cF ?_ | refine cS (fun _ => ?_) fun _ => ?_) | (apply gW; refine sW ?_) | (apply gI; refine sI ?_) | (apply gE; refine sE ?_) | (apply gP; refine sP ?_) | (apply gC; refine sC ?_) | (apply gD; refine sD ?_) | fail)
  refine D_op rfl ?_; refine X_d (dy_call ArgsI.pf (by first | exact rfl | trivial | (intro a b; rfl)) (CT.pull (i := 2) (by rfl) (Waiting_e))) ?_; rintro _ _ ⟨_, ⟨rfl, rfl⟩, rfl⟩; refine ⟨(by first | exact .inl rfl | exact .inr Sb), D_n ?_⟩
  rw [hz1]
  repeat' (first | refine go ?_ | intro _ | (apply cG; first | refine cT ?_ | refine cF ?_ | refine cS (fun _ => ?_) fun _ => ?_) | (apply gW; refine sW ?_) | (apply gI; refine sI ?_) | (apply gE; refine sE ?_) | (apply gP; refine sP ?_) | (apply gC; refine sC ?_) | (apply gD; refine sD ?_) | fail)
  refine D_op rfl ?_; refine X_d (dy_call ArgsI.pf (by first | exact rfl | trivial | (intro a b; rfl)) (lives_ct)) ?_; rintro _ _ ⟨_, ⟨rfl, hLL⟩, rfl⟩; replace hLL := hLL.symm; subst hLL; refine ⟨(by first | exact .inl rfl | exact .inr Sb), D_n ?_⟩
  repeat' (first | refine go ?_ | intro _ | (apply cG; first | refine cT ?_ | refine cF ?_ | refine cS (fun _ => ?_) fun _ => ?_) | (apply gW; refine sW ?_) | (apply gI; refine sI ?_) | (apply gE; refine sE ?_) | (apply gP; refine sP ?_) | (apply gC; refine sC ?_) | (apply gD; refine sD ?_) | fail)
  refine E_res1 (by rfl) (by rfl) ⟨rfl, rfl⟩ Sb
theorem ChannelProgress_any {window one two lost : Int} {w : World} (hw1 : -9223372036854775808 ≤ window) (hw2 : window ≤ 9223372036854775807) (h11 : -9223372036854775808 ≤ one) (h12 : one ≤ 9223372036854775807) (h21 : -9223372036854775808 ≤ two) (h22 : two ≤ 9223372036854775807) (h31 : -9223372036854775808 ≤ lost) (h32 : lost ≤ 9223372036854775807) :
    Calls Try.prog 5 #[.int .i64 window, .int .i64 one, .int .i64 two, .int .i64 lost] w fun e w' => e = .returned (.bool true) ∧ Below w.heap.size w w' :=
  ((ChannelProgress_ct (W0 := w) hw1 hw2 h11 h12 h21 h22 h31 h32).run w (St.init w)).mono fun e w' h => by
    obtain ⟨v, L', rfl, ⟨rfl, rfl⟩, s⟩ := h
    exact ⟨rfl, s.below⟩
end
end Go.Proofs.Ythbgmnoaaohbcaa
