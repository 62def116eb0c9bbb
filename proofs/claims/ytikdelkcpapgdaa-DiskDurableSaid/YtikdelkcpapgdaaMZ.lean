/-
  The law DiskDurable.
-/
import Derived.Test.YtikdelkcpapgdaaMY
import Derived.Test.YtikdelkcpapgdaaMC
namespace Go.Proofs.Ytikdelkcpapgdaa
open Go Go.RowKit
set_option linter.unusedVariables false
set_option linter.unusedSimpArgs false
set_option maxRecDepth 20000
set_option synthInstance.maxSize 100000
set_option synthInstance.maxHeartbeats 400000
theorem u8_anyD (z : Int) : ∃ b : UInt8, IntKind.u8.wrap z = (b.toNat : Int) := u8_anyO z
section
variable {W0 : World} {L : List HP}
set_option maxHeartbeats 8000000 in
theorem DiskDurable_ct {room z : Int} {v vm vk : Value} {l lm lk : List Int} (hr1 : -9223372036854775808 ≤ room) (hr2 : room ≤ 9223372036854775807) (hv : rd eI v l ∈ L) (hr : ∀ n ∈ l, -9223372036854775808 ≤ n ∧ n ≤ 9223372036854775807) (hvm : rd eI vm lm ∈ L) (hrm : ∀ n ∈ lm, -9223372036854775808 ≤ n ∧ n ≤ 9223372036854775807) (hlm : lm.length ≤ 9223372036854775807)
    (hvk : rd eI vk lk ∈ L) (hrk : ∀ n ∈ lk, -9223372036854775808 ≤ n ∧ n ≤ 9223372036854775807) (hlk : lk.length ≤ 9223372036854775807) (hz1 : -9223372036854775808 ≤ z) (hz2 : z ≤ 9223372036854775807) :
    CT Try.prog 6 #[.int .i64 room, v, vm, vk, .int .i64 z] W0 L fun r L' => r = .bool true ∧ L' = L := by
  refine CT_fact (fun w s => ((Src.sl (.inl hv) s).form)) ?_
  rintro ⟨A, c, rfl, hc⟩
  refine CT_fact (fun w s => ((Src.sl (.inl hvm) s).form)) ?_
  rintro ⟨Am, cm, rfl, hcm⟩
  refine CT_fact (fun w s => ((Src.sl (.inl hvk) s).form)) ?_
  rintro ⟨Ak, ck, rfl, hck⟩
  refine CT_enter Try.func6 rfl ?_; (simp only [Try.ntmps6, List.size_toArray, List.length_cons, List.length_nil, Nat.reduceAdd, Nat.reduceSub, Array.replicate_succ, Array.replicate_zero, List.push_toArray, List.append_toArray, List.nil_append, List.cons_append])
  repeat' (first | refine go ?_ | intro _ | (apply cG; first | refine cT ?_ | refine cF ?_ | refine cS (fun _ => ?_) fun _ => ?_) | (apply gW; refine sW ?_) | (apply gI; refine sI ?_) | (apply gE; refine sE ?_) | (apply gP; refine sP ?_) | (apply gC; refine sC ?_) | (apply gD; refine sD ?_) | fail)
  refine O_d (dy_call ArgsI.pf (by first | exact rfl | trivial | (intro a b; rfl)) (made_ct hv hr hr1 hr2)) ?_; rintro _ _ ⟨_, ⟨p, r, d, K, hR, rfl, rfl⟩, rfl⟩; refine O_n ?_
  have hl0 := hR.l0
  have hl1 := hR.l1
  have hu := hR.ok.u
  have hrm1 := hR.ok.r1
  have hb := fun n : Int => hR.b (n := n)
  have hRh := hR.f.hard
  have hKo := hR.off
  have hok := hR.ok
  obtain ⟨files, room0, off, armed, left⟩ := d
  dsimp only at hl0 hl1 hu hrm1 hb hRh hKo
  cases off
  rotate_left
  · repeat' (first | refine go ?_ | intro _ | (apply cG; first | refine cT ?_ | refine cF ?_ | refine cS (fun _ => ?_) fun _ => ?_) | (apply gW; refine sW ?_) | (apply gI; refine sI ?_) | (apply gE; refine sE ?_) | (apply gP; refine sP ?_) | (apply gC; refine sC ?_) | (apply gD; refine sD ?_) | fail)
    refine O_d (dy_call ArgsI.pf (by first | exact rfl | trivial | (intro a b; rfl)) (CT.pull (i := 0) (by rfl) (dArm_off (n := -1)))) ?_; rintro _ _ ⟨_, ⟨rfl, rfl⟩, rfl⟩; refine O_n ?_
    repeat' (first | refine go ?_ | intro _ | (apply cG; first | refine cT ?_ | refine cF ?_ | refine cS (fun _ => ?_) fun _ => ?_) | (apply gW; refine sW ?_) | (apply gI; refine sI ?_) | (apply gE; refine sE ?_) | (apply gP; refine sP ?_) | (apply gC; refine sC ?_) | (apply gD; refine sD ?_) | fail)
    refine O_d (dy_call ArgsI.pf (by first | exact rfl | trivial | (intro a b; rfl)) (CT.pull (i := 0) (by rfl) (dOn_ct))) ?_; rintro _ _ ⟨_, ⟨rfl, rfl⟩, rfl⟩; refine O_n ?_
    simp only [Bool.not_true]
    repeat' (first | refine go ?_ | intro _ | (apply cG; first | refine cT ?_ | refine cF ?_ | refine cS (fun _ => ?_) fun _ => ?_) | (apply gW; refine sW ?_) | (apply gI; refine sI ?_) | (apply gE; refine sE ?_) | (apply gP; refine sP ?_) | (apply gC; refine sC ?_) | (apply gD; refine sD ?_) | fail)
    refine O_d (dy_call ArgsI.pf (by first | exact rfl | trivial | (intro a b; rfl)) (CT.pull (i := 0) (by rfl) (dSync_ct (files := files) hok.k (by omega) (by omega) (by omega)))) ?_; rintro _ _ ⟨_, ⟨rfl, rfl⟩, rfl⟩; refine O_n ?_
    have e : syncF ⟨files, room0, true, armed, left⟩ = (⟨files, room0, true, armed, left⟩, 21) := by unfold syncF; rw [if_pos rfl]
    rw [e]
    repeat' (first | refine go ?_ | intro _ | (apply cG; first | refine cT ?_ | refine cF ?_ | refine cS (fun _ => ?_) fun _ => ?_) | (apply gW; refine sW ?_) | (apply gI; refine sI ?_) | (apply gE; refine sE ?_) | (apply gP; refine sP ?_) | (apply gC; refine sC ?_) | (apply gD; refine sD ?_) | fail)
    refine O_d (dy_call ArgsI.pf (by first | exact rfl | trivial | (intro a b; rfl)) (lives_ct)) ?_; rintro _ _ ⟨_, ⟨rfl, hLL⟩, rfl⟩; replace hLL := hLL.symm; subst hLL; refine O_n ?_
    repeat' (first | refine go ?_ | intro _ | (apply cG; first | refine cT ?_ | refine cF ?_ | refine cS (fun _ => ?_) fun _ => ?_) | (apply gW; refine sW ?_) | (apply gI; refine sI ?_) | (apply gE; refine sE ?_) | (apply gP; refine sP ?_) | (apply gC; refine sC ?_) | (apply gD; refine sD ?_) | fail)
    refine E_res1 (by rfl) (by rfl) ⟨rfl, rfl⟩ Sb
  repeat' (first | refine go ?_ | intro _ | (apply cG; first | refine cT ?_ | refine cF ?_ | refine cS (fun _ => ?_) fun _ => ?_) | (apply gW; refine sW ?_) | (apply gI; refine sI ?_) | (apply gE; refine sE ?_) | (apply gP; refine sP ?_) | (apply gC; refine sC ?_) | (apply gD; refine sD ?_) | fail)
  refine O_d (dy_call ArgsI.pf (by first | exact rfl | trivial | (intro a b; rfl)) (CT.pull (i := 0) (by rfl) (dArm_ct (n := -1)))) ?_; rintro _ _ ⟨_, ⟨rfl, rfl⟩, rfl⟩; refine O_n ?_
  rw [show decide ((0 : Int) ≤ -1) = false by decide]
  repeat' (first | refine go ?_ | intro _ | (apply cG; first | refine cT ?_ | refine cF ?_ | refine cS (fun _ => ?_) fun _ => ?_) | (apply gW; refine sW ?_) | (apply gI; refine sI ?_) | (apply gE; refine sE ?_) | (apply gP; refine sP ?_) | (apply gC; refine sC ?_) | (apply gD; refine sD ?_) | fail)
  refine O_d (dy_call ArgsI.pf (by first | exact rfl | trivial | (intro a b; rfl)) (CT.pull (i := 0) (by rfl) (dOn_ct))) ?_; rintro _ _ ⟨_, ⟨rfl, rfl⟩, rfl⟩; refine O_n ?_
  simp only [Bool.not_false]
  repeat' (first | refine go ?_ | intro _ | (apply cG; first | refine cT ?_ | refine cF ?_ | refine cS (fun _ => ?_) fun _ => ?_) | (apply gW; refine sW ?_) | (apply gI; refine sI ?_) | (apply gE; refine sE ?_) | (apply gP; refine sP ?_) | (apply gC; refine sC ?_) | (apply gD; refine sD ?_) | fail)
  refine O_d (dy_call ArgsI.pf (by first | exact rfl | trivial | (intro a b; rfl)) (CT.pull (i := 0) (by rfl) (dSync_ct (files := files) hok.k (by omega) (by omega) (by omega)))) ?_; rintro _ _ ⟨_, ⟨rfl, rfl⟩, rfl⟩; refine O_n ?_
  have e : syncF ⟨files, room0, false, false, -1⟩ = (⟨hardL files, room0, false, false, -1⟩, 0) := by unfold syncF; rfl
  rw [e]
  dsimp only
  have hok2 : DOk ⟨hardL files, room0, false, false, -1⟩ := by
    have := hok.hard
    exact ⟨this.k, this.r0, this.r1, this.u, this.d0⟩
  have hFb := fun n : Int => (fileF_hard (n := n) files).1
  have hFd := fun n : Int => (fileF_hard (n := n) files).2
  obtain ⟨F2, hF2⟩ : ∃ F2, hardL files = F2 := ⟨_, rfl⟩
  rw [hF2] at hok2 hFb hFd hRh ⊢
  obtain ⟨B2, hB2⟩ : ∃ B2, K.B = B2 := ⟨_, rfl⟩
  obtain ⟨G2, hG2⟩ : ∃ G2, (K.B.map fun b => (b.length : Int)) = G2 := ⟨_, rfl⟩
  have hR2 : Rel ⟨F2, room0, false, false, -1⟩ ⟨K.room, K.B, G2, false, -1⟩ := ⟨hok2, by rw [← hG2]; exact hRh, hR.room, rfl, (by show (-1 : Int) < 0; decide), (by show (-2 : Int) ≤ -1; decide), (by show (-1000000 : Int) ≤ -1; decide), by show (-1 : Int) ≤ 1000000; decide⟩
  repeat' (first | refine go ?_ | intro _ | (apply cG; first | refine cT ?_ | refine cF ?_ | refine cS (fun _ => ?_) fun _ => ?_) | (apply gW; refine sW ?_) | (apply gI; refine sI ?_) | (apply gE; refine sE ?_) | (apply gP; refine sP ?_) | (apply gC; refine sC ?_) | (apply gD; refine sD ?_) | fail)
  refine O_d (dy_call ArgsI.pf (by first | exact rfl | trivial | (intro a b; rfl)) (CT.pull (i := 0) (by rfl) (Copy_ct))) ?_; rintro _ _ ⟨_, ⟨q, rfl, rfl⟩, rfl⟩; refine O_n ?_
  repeat' (first | refine go ?_ | intro _ | (apply cG; first | refine cT ?_ | refine cF ?_ | refine cS (fun _ => ?_) fun _ => ?_) | (apply gW; refine sW ?_) | (apply gI; refine sI ?_) | (apply gE; refine sE ?_) | (apply gP; refine sP ?_) | (apply gC; refine sC ?_) | (apply gD; refine sD ?_) | fail)
  refine O_d (dy_call ArgsI.pf (by first | exact rfl | trivial | (intro a b; rfl)) (Ints_ct (l := lk) (most := 4) (.tail _ (.tail _ (.tail _ hvk))) hlk (by decide) (by decide))) ?_; rintro _ _ ⟨_, ⟨A4, c4, rfl, rfl⟩, rfl⟩; refine O_n ?_
  obtain ⟨kp, hkp⟩ : ∃ kp, lk.take (4 : Int).toNat = kp := ⟨_, rfl⟩
  have hkpl : kp.length ≤ 4 := by rw [← hkp, List.length_take]; exact Nat.min_le_left _ _
  have hkpr : ∀ x ∈ kp, -9223372036854775808 ≤ x ∧ x ≤ 9223372036854775807 := fun x hx => hrk x (by rw [← hkp] at hx; exact List.mem_of_mem_take hx)
  rw [hkp]
  refine O_frz 0 ?_
  repeat' (first | refine go ?_ | intro _ | (apply cG; first | refine cT ?_ | refine cF ?_ | refine cS (fun _ => ?_) fun _ => ?_) | (apply gW; refine sW ?_) | (apply gI; refine sI ?_) | (apply gE; refine sE ?_) | (apply gP; refine sP ?_) | (apply gC; refine sC ?_) | (apply gD; refine sD ?_) | fail)
  refine O_sub (S := dsk q ⟨F2, room0, false, false, -1⟩ :: rd eI (.slice A4 kp.length c4) kp :: dsk p ⟨F2, room0, false, false, -1⟩ :: rdk r K :: L) Sb ?_
  refine O_d (dy_call ArgsI.pf (by first | exact rfl | trivial | (intro a b; rfl)) (Crash_ct (z := z) hok2 hR2.len (.head _) (by omega) hkpr hz1 hz2)) ?_; rintro _ _ ⟨_, ⟨ysc, Fc, hpc, hsc, hcc, hokc, rfl, rfl⟩, rfl⟩; refine O_n ?_
  have hcb := fun n : Int => hcc.firm hok2.k hpc (n := n) (by rw [hFd, hFb])
  repeat' (first | refine go ?_ | intro _ | (apply cG; first | refine cT ?_ | refine cF ?_ | refine cS (fun _ => ?_) fun _ => ?_) | (apply gW; refine sW ?_) | (apply gI; refine sI ?_) | (apply gE; refine sE ?_) | (apply gP; refine sP ?_) | (apply gC; refine sC ?_) | (apply gD; refine sD ?_) | fail)
  refine C_sub (S := dsk q ⟨Fc, room0, false, false, -1⟩ :: rd eI (.slice A4 kp.length c4) kp :: dsk p ⟨F2, room0, false, false, -1⟩ :: rdk r K :: rd eI (.slice Am lm.length cm) lm :: L) (Sub.trans (sub_dup (.tail _ (.tail _ (.tail _ (.tail _ hvm))))) Sb) ?_
  refine C_loopS (κ := Nat × List (Int × DF) × RK) [false, false, false, false, false, false, false, false, false, false, false, false, false, false, false, true, false, false, false, false, false, false, false, false, false, false, false, false, false, false, false, false, false, false, false, false, false, false, false, false, false, false, false, false, false, false, false, false, false, false, false, false, false, false, false, false, false, false, false, false, true, true, true, true, true, true, true, true, true, true, true, true, true, true, true, true, true, true, true, true, true, true, true, false, false, false, false, false, false, false, false, false, false, false, false, false, false, false, false, false, false, false, false, false, false, false, false, false, false, false, false, false, false, false, false, false, false, false, false, false, false, false, false, false, false, false, false, false, false, false, false, false, false, false, false, false, false, false, false, false, false, false, false, false, false, false, false, false, false, false, false, false, false] (fun k => [(15, .int .i64 (k.1 : Int))]) (fun k => [(2, dsk p ⟨k.2.1, room0, false, false, -1⟩)]) (fun k => k.1 ≤ 6 ∧ Rel ⟨k.2.1, room0, false, false, -1⟩ k.2.2 ∧ ∀ n : Int, ∃ e, (fileF n k.2.1).b = (fileF n F2).b ++ e ∧ (fileF n k.2.1).d = (fileF n F2).d) (fun k => 6 - k.1) (0, F2, ⟨K.room, K.B, G2, false, -1⟩) ⟨Nat.zero_le _, hR2, fun n => ⟨[], (List.append_nil _).symm, rfl⟩⟩ ⟨rfl, trivial⟩ ?_
  rintro ⟨i, Fi, Ki⟩ u ⟨hi, hRi, hei⟩
  dsimp only at hi hRi hei
  dsimp only
  ((try dsimp only); refine C_n ?_; (try simp only [Nat.reduceAdd, Nat.zero_add]))
  by_cases hlt : i < lm.length ∧ i < 6
  · obtain ⟨hlt, hlt6⟩ := hlt
    obtain ⟨y, hy⟩ : ∃ y, lm[i]? = some y := ⟨_, List.getElem?_eq_getElem (by omega)⟩
    have hay : At lm i y := ⟨hy⟩
    have hyr := hrm y (List.mem_of_getElem? hy)
    have hui := hRi.ok.u
    have hfi := file_le_used (n := around y 3) Fi
    dsimp only at hui
    repeat' (first | refine go ?_ | intro _ | (apply cG; first | refine cT ?_ | refine cF ?_ | refine cS (fun _ => ?_) fun _ => ?_) | (apply gW; refine sW ?_) | (apply gI; refine sI ?_) | (apply gE; refine sE ?_) | (apply gP; refine sP ?_) | (apply gC; refine sC ?_) | (apply gD; refine sD ?_) | fail)
    refine C_drawT (n := 99) [rd eI (.slice Am lm.length cm) lm] (.two [(0, 1), (1, 1), (2, 1), (3, 1), (4, 1), (6, 1), (7, 1), (8, 1), (9, 1), (10, 1)] 5 (.leaf [(11, 0), (12, 0)]) 11 (.leaf [(5, 0), (12, 0)])) (by kernel_rfl) (by kernel_rfl) Sb ?_
    refine DT_two ?_
    repeat' (first | refine go ?_ | intro _ | (apply cG; first | refine cT ?_ | refine cF ?_ | refine cS (fun _ => ?_) fun _ => ?_) | (apply gI; refine sI ?_) | (apply gE; refine sE ?_) | (apply gP; refine sP ?_) | (apply gC; refine sC ?_) | (apply gD; refine sD ?_) | fail)
    apply gW; refine sW_u8 fun bb => ?_
    repeat' (first | refine go ?_ | intro _ | (apply cG; first | refine cT ?_ | refine cF ?_ | refine cS (fun _ => ?_) fun _ => ?_) | (apply gW; refine sW ?_) | (apply gI; refine sI ?_) | (apply gE; refine sE ?_) | (apply gP; refine sP ?_) | (apply gC; refine sC ?_) | (apply gD; refine sD ?_) | fail)
    refine E_two ?_ ?_
    · refine D_op rfl ?_; refine X_d (dy_call ArgsI.pf (by first | exact rfl | trivial | (intro a b; rfl)) (Around_ct (most := 3) hyr.1 hyr.2 (by decide) (by decide))) ?_; rintro _ _ ⟨_, ⟨rfl, hLL⟩, rfl⟩; replace hLL := hLL.symm; subst hLL; refine ⟨(by first | exact .inl rfl | exact .inr Sb), D_n ?_⟩
      repeat' (first | refine go ?_ | intro _ | (apply cG; first | refine cT ?_ | refine cF ?_ | refine cS (fun _ => ?_) fun _ => ?_) | (apply gW; refine sW ?_) | (apply gI; refine sI ?_) | (apply gE; refine sE ?_) | (apply gP; refine sP ?_) | (apply gC; refine sC ?_) | (apply gD; refine sD ?_) | fail)
      refine E_way (DT_leaf ?_)
      refine D_op rfl ?_; refine X_d (dy_litP (f := bv) (hf := fun _ => rfl) [bb, 7] (by rfl)) ?_; rintro _ _ ⟨_, rfl, rfl⟩; refine ⟨(by first | exact .inl rfl | exact .inr Sb), D_n ?_⟩
      repeat' (first | refine go ?_ | intro _ | (apply cG; first | refine cT ?_ | refine cF ?_ | refine cS (fun _ => ?_) fun _ => ?_) | (apply gW; refine sW ?_) | (apply gI; refine sI ?_) | (apply gE; refine sE ?_) | (apply gP; refine sP ?_) | (apply gC; refine sC ?_) | (apply gD; refine sD ?_) | fail)
      refine D_op rfl ?_; refine X_d (dy_call ArgsI.pf (by first | exact rfl | trivial | (intro a b; rfl)) (CT.pull (i := 3) (by rfl) (dAppend_ct (n := around y 3) (b := [bb, 7]) (.inr ⟨_, .head _⟩) (by show 2 ≤ 1000000; decide) (by omega) hRi.ok.r0 (by omega) (by omega) (by omega) (by omega)))) ?_; rintro _ _ ⟨_, ⟨A6, c6, rfl, rfl⟩, rfl⟩; refine ⟨(by first | exact .inl rfl | exact .inr Sb), D_n ?_⟩
      obtain ⟨f2, he, hf2⟩ := app_on (files := Fi) (room := room0) (left := -1) (n := around y 3) (b := [bb, 7]) (y := .slice A6 ((fileF (around y 3) Fi).b ++ [bb, 7]).length c6) (by show 0 < 2; decide)
      have hR3 := (hRi.app (around y 3) [bb, 7] (.slice A6 ((fileF (around y 3) Fi).b ++ [bb, 7]).length c6)).1
      rw [he] at hR3 ⊢
      repeat' (first | refine go ?_ | intro _ | (apply cG; first | refine cT ?_ | refine cF ?_ | refine cS (fun _ => ?_) fun _ => ?_) | (apply gW; refine sW ?_) | (apply gI; refine sI ?_) | (apply gE; refine sE ?_) | (apply gP; refine sP ?_) | (apply gC; refine sC ?_) | (apply gD; refine sD ?_) | fail)
      refine E_round (i + 1, f2, _) ⟨by dsimp only; omega, hR3, fun n => ?_⟩ (by dsimp only; omega) ⟨rfl, trivial⟩ Sb
      obtain ⟨e1, he1, he2⟩ := hei n
      obtain ⟨e3, he3, he4⟩ := hf2 hRi.ok.k n
      exact ⟨e1 ++ e3, by rw [he3, he1, List.append_assoc], by rw [he4, he2]⟩
    · refine D_op rfl ?_; refine X_d (dy_litP (f := bv) (hf := fun _ => rfl) [bb, 7] (by rfl)) ?_; rintro _ _ ⟨_, rfl, rfl⟩; refine ⟨(by first | exact .inl rfl | exact .inr Sb), D_n ?_⟩
      repeat' (first | refine go ?_ | intro _ | (apply cG; first | refine cT ?_ | refine cF ?_ | refine cS (fun _ => ?_) fun _ => ?_) | (apply gW; refine sW ?_) | (apply gI; refine sI ?_) | (apply gE; refine sE ?_) | (apply gP; refine sP ?_) | (apply gC; refine sC ?_) | (apply gD; refine sD ?_) | fail)
      refine E_way (DT_leaf ?_)
      refine D_op rfl ?_; refine X_d (dy_call ArgsI.pf (by first | exact rfl | trivial | (intro a b; rfl)) (Around_ct (most := 3) hyr.1 hyr.2 (by decide) (by decide))) ?_; rintro _ _ ⟨_, ⟨rfl, hLL⟩, rfl⟩; replace hLL := hLL.symm; subst hLL; refine ⟨(by first | exact .inl rfl | exact .inr Sb), D_n ?_⟩
      repeat' (first | refine go ?_ | intro _ | (apply cG; first | refine cT ?_ | refine cF ?_ | refine cS (fun _ => ?_) fun _ => ?_) | (apply gW; refine sW ?_) | (apply gI; refine sI ?_) | (apply gE; refine sE ?_) | (apply gP; refine sP ?_) | (apply gC; refine sC ?_) | (apply gD; refine sD ?_) | fail)
      refine D_op rfl ?_; refine X_d (dy_call ArgsI.pf (by first | exact rfl | trivial | (intro a b; rfl)) (CT.pull (i := 3) (by rfl) (dAppend_ct (n := around y 3) (b := [bb, 7]) (.inr ⟨_, .head _⟩) (by show 2 ≤ 1000000; decide) (by omega) hRi.ok.r0 (by omega) (by omega) (by omega) (by omega)))) ?_; rintro _ _ ⟨_, ⟨A6, c6, rfl, rfl⟩, rfl⟩; refine ⟨(by first | exact .inl rfl | exact .inr Sb), D_n ?_⟩
      obtain ⟨f2, he, hf2⟩ := app_on (files := Fi) (room := room0) (left := -1) (n := around y 3) (b := [bb, 7]) (y := .slice A6 ((fileF (around y 3) Fi).b ++ [bb, 7]).length c6) (by show 0 < 2; decide)
      have hR3 := (hRi.app (around y 3) [bb, 7] (.slice A6 ((fileF (around y 3) Fi).b ++ [bb, 7]).length c6)).1
      rw [he] at hR3 ⊢
      repeat' (first | refine go ?_ | intro _ | (apply cG; first | refine cT ?_ | refine cF ?_ | refine cS (fun _ => ?_) fun _ => ?_) | (apply gW; refine sW ?_) | (apply gI; refine sI ?_) | (apply gE; refine sE ?_) | (apply gP; refine sP ?_) | (apply gC; refine sC ?_) | (apply gD; refine sD ?_) | fail)
      refine E_round (i + 1, f2, _) ⟨by dsimp only; omega, hR3, fun n => ?_⟩ (by dsimp only; omega) ⟨rfl, trivial⟩ Sb
      obtain ⟨e1, he1, he2⟩ := hei n
      obtain ⟨e3, he3, he4⟩ := hf2 hRi.ok.k n
      exact ⟨e1 ++ e3, by rw [he3, he1, List.append_assoc], by rw [he4, he2]⟩
  have hui := hRi.ok.u
  dsimp only at hui
  have hex : ¬ i < lm.length ∨ (i < lm.length ∧ ¬ i < 6) := by omega
  have hfb2 : ∀ n : Int, (fileF n Fi).b.length ≤ usedL Fi := fun n => file_le_used (n := n) Fi
  rcases hex with hex | ⟨hex, hex6⟩
  all_goals
    repeat' (first | refine go ?_ | intro _ | (apply cG; first | refine cT ?_ | refine cF ?_ | refine cS (fun _ => ?_) fun _ => ?_) | (apply gW; refine sW ?_) | (apply gI; refine sI ?_) | (apply gE; refine sE ?_) | (apply gP; refine sP ?_) | (apply gC; refine sC ?_) | (apply gD; refine sD ?_) | fail)
    refine O_d (dy_call ArgsI.pf (by first | exact rfl | trivial | (intro a b; rfl)) (CT.pull (i := 2) (by rfl) (Copy_ct))) ?_; rintro _ _ ⟨_, ⟨s, rfl, rfl⟩, rfl⟩; refine O_n ?_
    repeat' (first | refine go ?_ | intro _ | (apply cG; first | refine cT ?_ | refine cF ?_ | refine cS (fun _ => ?_) fun _ => ?_) | (apply gW; refine sW ?_) | (apply gI; refine sI ?_) | (apply gE; refine sE ?_) | (apply gP; refine sP ?_) | (apply gC; refine sC ?_) | (apply gD; refine sD ?_) | fail)
    refine O_sub (S := dsk p ⟨Fi, room0, false, false, -1⟩ :: rd eI (.slice A4 kp.length c4) kp :: dsk q ⟨Fc, room0, false, false, -1⟩ :: dsk s ⟨Fi, room0, false, false, -1⟩ :: rdk r K :: L) Sb ?_
    refine O_d (dy_call ArgsI.pf (by first | exact rfl | trivial | (intro a b; rfl)) (Crash_ct (z := z) hRi.ok hRi.len (.head _) (by omega) hkpr hz1 hz2)) ?_; rintro _ _ ⟨_, ⟨ysd, Fd, hpd, hsd, hcd, hokd, rfl, rfl⟩, rfl⟩; refine O_n ?_
    have hkeep : ∀ n : Int, (fileF n Fd).b.take (fileF n F2).b.length = (fileF n F2).b ∧ (fileF n F2).b.length ≤ (fileF n Fd).b.length ∧ (fileF n Fd).b.length ≤ (fileF n Fi).b.length := fun n => by
      obtain ⟨e1, he1, he2⟩ := hei n
      have := hcd.keeps hRi.ok.k hpd (n := n) (D := (fileF n F2).b.length) (by rw [he2, hFd, hFb]) (by rw [he1, List.length_append]; omega)
      rw [he1, List.take_append_of_le_length (Nat.le_refl _), List.take_length] at this
      rw [he1]
      exact this
    repeat' (first | refine go ?_ | intro _ | (apply cG; first | refine cT ?_ | refine cF ?_ | refine cS (fun _ => ?_) fun _ => ?_) | (apply gW; refine sW ?_) | (apply gI; refine sI ?_) | (apply gE; refine sE ?_) | (apply gP; refine sP ?_) | (apply gC; refine sC ?_) | (apply gD; refine sD ?_) | fail)
    refine rdk_Cx 4 rfl fun ab af Bs h1 h2 h3 => ?_
    simp only [List.eraseIdx_cons_succ, List.eraseIdx_cons_zero]
    have hcl := (rdk_sub (L := L) (r := r) (ab := ab) (af := af) (K := K) h1 h2 h3)
    refine C_loopS (κ := Nat) [false, false, false, false, false, false, false, false, false, false, true, false, false, false, false, false, false, true, true, true, true, true, true, true, false, false, false, false, false, false, false, false, false, false, false, false, false, false, false, false, false, false, false, false, false, false, false, false, false, false, false, false, false, false, false, false, false, false, false, false, false, false, false, false, false, false, false, false, false, false, false, false, false, false, false, false, false, false, false, false, false, false, false, false, false, false, false, false, false, true, true, true, true, true, true, true, true, true, true, true, true, true, true, true, true, true, true, true, true, true, true, true, true, true, true, true, true, true, true, true, true, true, true, true, true, true, true, true, true, true, true, true, true, true, true, true, true, true, true, true, true, true, true, true, true, true, true, true, true, true, true, true, false] (fun k => [(17, .int .i64 (k : Int))]) (fun k => []) (fun k => k ≤ 4) (fun k => 4 - k) 0 (Nat.zero_le _) ⟨rfl, trivial⟩ ?_
    rintro k u7 hk
    ((try dsimp only); refine C_n ?_; (try simp only [Nat.reduceAdd, Nat.zero_add]))
    by_cases hlt4 : k < 4
    · obtain ⟨x, hx⟩ : ∃ x, Bs[k]? = some x := ⟨_, List.getElem?_eq_getElem (by omega)⟩
      have hax : At Bs k x := ⟨hx⟩
      have hxb := rbn h1 hx
      have hin : (0 : Int) ≤ (k : Int) ∧ (k : Int) < 64 := ⟨by omega, by omega⟩
      rw [hb (k : Int) hin, ← hFb] at hxb
      have hcbk := hcb (k : Int)
      rw [hxb] at hcbk
      obtain ⟨hk1, hk2, hk3⟩ := hkeep (k : Int)
      rw [hxb] at hk1 hk2
      have hfik := hfb2 (k : Int)
      obtain ⟨bd, hbd⟩ : ∃ bd, (fileF (k : Int) Fd).b = bd := ⟨_, rfl⟩
      obtain ⟨bi, hbi⟩ : ∃ bi, (fileF (k : Int) Fi).b = bi := ⟨_, rfl⟩
      rw [hbd] at hk1 hk2 hk3
      rw [hbi] at hk3 hfik
      repeat' (first | refine go ?_ | intro _ | (apply cG; first | refine cT ?_ | refine cF ?_ | refine cS (fun _ => ?_) fun _ => ?_) | (apply gW; refine sW ?_) | (apply gI; refine sI ?_) | (apply gE; refine sE ?_) | (apply gP; refine sP ?_) | (apply gC; refine sC ?_) | (apply gD; refine sD ?_) | fail)
      refine O_d (dy_call ArgsI.pf (by first | exact rfl | trivial | (intro a b; rfl)) (CT.pull (i := 6) (by rfl) (dRead_ct (files := Fc) (n := (k : Int)) (by rw [hcbk]; omega) hin))) ?_; rintro _ _ ⟨_, ⟨A5, c5, rfl, rfl⟩, rfl⟩; refine O_n ?_
      rw [hcbk]
      repeat' (first | refine go ?_ | intro _ | (apply cG; first | refine cT ?_ | refine cF ?_ | refine cS (fun _ => ?_) fun _ => ?_) | (apply gW; refine sW ?_) | (apply gI; refine sI ?_) | (apply gE; refine sE ?_) | (apply gP; refine sP ?_) | (apply gC; refine sC ?_) | (apply gD; refine sD ?_) | fail)
      refine O_d (dy_call ArgsI.pf (by first | exact rfl | trivial | (intro a b; rfl)) (CT.pull (i := 6) (by rfl) (dRead_ct (files := Fd) (n := (k : Int)) (by rw [hbd]; omega) hin))) ?_; rintro _ _ ⟨_, ⟨A6, c6, rfl, rfl⟩, rfl⟩; refine O_n ?_
      rw [hbd]
      refine O_frz 0 ?_
      refine O_frz 2 ?_
      refine O_fact (φ := bd.length ≤ c6) (fun w s => by obtain ⟨A', c', e, h⟩ := (Src.sl (.inl (.head _)) s : Sl _ eB _ bd).form; injection e with _ _ e3; rw [e3]; exact h) fun hc6 => ?_
      refine O_sub (S := rd eB (.slice A6 x.b.length c6) x.b :: rd eB (.slice A5 x.b.length c5) x.b :: rd eB (.slice x.A x.b.length x.c) x.b :: cel r [.int .i64 K.room, .slice (some ab) 64 64, .slice (some af) 64 64, .bool K.off, .int .i64 K.plan] 58 :: own 27 eRBy (.slice (some ab) 64 64) Bs :: own 3 eI (.slice (some af) 64 64) K.F :: imR Bs :: dsk p ⟨Fd, room0, false, false, -1⟩ :: rd eI (.slice A4 kp.length c4) kp :: dsk q ⟨Fc, room0, false, false, -1⟩ :: dsk s ⟨Fi, room0, false, false, -1⟩ :: L) (Sub.trans (sub_imR (j := k) (x := x) (by repeat (first | exact .head _ | refine .tail _ ?_)) hx) (Sub.trans (rd_cut (N := x.b.length) (A := A6) (n := bd.length) (c := c6) (l := bd) (by repeat (first | exact .head _ | refine .tail _ ?_)) hk2) (by rw [hk1]; exact Sb))) ?_
      repeat' (first | refine go ?_ | intro _ | (apply cG; first | refine cT ?_ | refine cF ?_ | refine cS (fun _ => ?_) fun _ => ?_) | (apply gW; refine sW ?_) | (apply gI; refine sI ?_) | (apply gE; refine sE ?_) | (apply gP; refine sP ?_) | (apply gC; refine sC ?_) | (apply gD; refine sD ?_) | fail)
      refine O_d (dy_call ArgsI.pf (by first | exact rfl | trivial | (intro a b; rfl)) (SameBytes_ct (la := x.b) (lb := x.b) (q := true) (.inl (.tail _ (.head _))) (.inl (.tail _ (.tail _ (.head _)))) (by omega) (by omega) (decide_eq_true rfl))) ?_; rintro _ _ ⟨_, ⟨rfl, hLL⟩, rfl⟩; replace hLL := hLL.symm; subst hLL; refine O_n ?_
      repeat' (first | refine go ?_ | intro _ | (apply cG; first | refine cT ?_ | refine cF ?_ | refine cS (fun _ => ?_) fun _ => ?_) | (apply gW; refine sW ?_) | (apply gI; refine sI ?_) | (apply gE; refine sE ?_) | (apply gP; refine sP ?_) | (apply gC; refine sC ?_) | (apply gD; refine sD ?_) | fail)
      refine O_s (sv_slice (l' := 0) (h' := x.b.length) (l := 0) (h := x.b.length)) ?_
      rw [cutA0, Nat.sub_zero]
      repeat' (first | refine go ?_ | intro _ | (apply cG; first | refine cT ?_ | refine cF ?_ | refine cS (fun _ => ?_) fun _ => ?_) | (apply gW; refine sW ?_) | (apply gI; refine sI ?_) | (apply gE; refine sE ?_) | (apply gP; refine sP ?_) | (apply gC; refine sC ?_) | (apply gD; refine sD ?_) | fail)
      refine O_d (dy_call ArgsI.pf (by first | exact rfl | trivial | (intro a b; rfl)) (SameBytes_ct (la := x.b) (lb := x.b) (q := true) (.inl (.head _)) (.inl (.tail _ (.head _))) (by omega) (by omega) (decide_eq_true rfl))) ?_; rintro _ _ ⟨_, ⟨rfl, hLL⟩, rfl⟩; replace hLL := hLL.symm; subst hLL; refine O_n ?_
      repeat' (first | refine go ?_ | intro _ | (apply cG; first | refine cT ?_ | refine cF ?_ | refine cS (fun _ => ?_) fun _ => ?_) | (apply gW; refine sW ?_) | (apply gI; refine sI ?_) | (apply gE; refine sE ?_) | (apply gP; refine sP ?_) | (apply gC; refine sC ?_) | (apply gD; refine sD ?_) | fail)
      refine O_d (dy_call ArgsI.pf (by first | exact rfl | trivial | (intro a b; rfl)) (CT.pull (i := 10) (by rfl) (dRead_ct (files := Fi) (n := (k : Int)) (by rw [hbi]; omega) hin))) ?_; rintro _ _ ⟨_, ⟨A8, c8, rfl, rfl⟩, rfl⟩; refine O_n ?_
      rw [hbi]
      repeat' (first | refine go ?_ | intro _ | (apply cG; first | refine cT ?_ | refine cF ?_ | refine cS (fun _ => ?_) fun _ => ?_) | (apply gW; refine sW ?_) | (apply gI; refine sI ?_) | (apply gE; refine sE ?_) | (apply gP; refine sP ?_) | (apply gC; refine sC ?_) | (apply gD; refine sD ?_) | fail)
      exact E_round (k + 1) hlt4 (by omega) ⟨rfl, trivial⟩ Sb
    obtain rfl : k = 4 := by omega
    repeat' (first | refine go ?_ | intro _ | (apply cG; first | refine cT ?_ | refine cF ?_ | refine cS (fun _ => ?_) fun _ => ?_) | (apply gW; refine sW ?_) | (apply gI; refine sI ?_) | (apply gE; refine sE ?_) | (apply gP; refine sP ?_) | (apply gC; refine sC ?_) | (apply gD; refine sD ?_) | fail)
    refine O_d (dy_call ArgsI.pf (by first | exact rfl | trivial | (intro a b; rfl)) (lives_ct)) ?_; rintro _ _ ⟨_, ⟨rfl, hLL⟩, rfl⟩; replace hLL := hLL.symm; subst hLL; refine O_n ?_
    repeat' (first | refine go ?_ | intro _ | (apply cG; first | refine cT ?_ | refine cF ?_ | refine cS (fun _ => ?_) fun _ => ?_) | (apply gW; refine sW ?_) | (apply gI; refine sI ?_) | (apply gE; refine sE ?_) | (apply gP; refine sP ?_) | (apply gC; refine sC ?_) | (apply gD; refine sD ?_) | fail)
    refine E_res1 (by rfl) (by rfl) ⟨rfl, rfl⟩ Sb
theorem DiskDurable_any {n z : Int} {v vm vk : Value} {l lm lk : List Int} {w : World} (s : St w w [rd eI v l, rd eI vm lm, rd eI vk lk]) (hn1 : -9223372036854775808 ≤ n) (hn2 : n ≤ 9223372036854775807) (hr : ∀ n ∈ l, -9223372036854775808 ≤ n ∧ n ≤ 9223372036854775807) (hrm : ∀ n ∈ lm, -9223372036854775808 ≤ n ∧ n ≤ 9223372036854775807) (hlm : lm.length ≤ 9223372036854775807) (hrk : ∀ n ∈ lk, -9223372036854775808 ≤ n ∧ n ≤ 9223372036854775807) (hlk : lk.length ≤ 9223372036854775807) (hz1 : -9223372036854775808 ≤ z) (hz2 : z ≤ 9223372036854775807) :
    Calls Try.prog 6 #[.int .i64 n, v, vm, vk, .int .i64 z] w fun e w' => e = .returned (.bool true) ∧ Below w.heap.size w w' :=
  ((DiskDurable_ct (W0 := w) hn1 hn2 (.head _) hr (.tail _ (.head _)) hrm hlm (.tail _ (.tail _ (.head _))) hrk hlk hz1 hz2).run w s).mono fun e w' h => by
    obtain ⟨v, L', rfl, ⟨rfl, rfl⟩, s⟩ := h
    exact ⟨rfl, s.below⟩
end
end Go.Proofs.Ytikdelkcpapgdaa
namespace Go.Proofs.Ytikdelkcpapgdaa
open Go Go.RowKit
set_option linter.unusedVariables false
set_option linter.unusedSimpArgs false
def toB (n : Int) : UInt8 := UInt8.ofNat n.toNat
theorem toB_wf {n : Int} (h : (Lit.int .u8 n).wf = true) : ((toB n).toNat : Int) = n := by
  simp [Lit.wf, IntKind.min, IntKind.max, IntKind.signed, IntKind.bits] at h
  unfold toB
  simp
  omega
/-- a row of numbers of one kind, said as the rows' proofs say it -/
theorem row_sl {α : Type} {f : α → Value} {hf : ∀ a, (f a).oneCell' = true} {k : IntKind} {w : World} {a : Option Addr} {len cap : Nat} {zs : List Int} {l : List α} (hl : l.map f = (zs.take len).map (Value.int k)) (hz : zs.length = cap) (hlc : len ≤ cap)
    {x : Addr} (ha : a = some x) (hcell : ∀ i, i < zs.length → w.cell? (x.add i) = some (.int k (zs.getD i 0))) : Sl (Hp.of w) (e1 f hf) (.slice a len cap) l := by
  have hlen : l.length = len := by
    have := congrArg List.length hl
    simp at this
    omega
  subst hlen
  refine ⟨a, cap, l.map fun b => [f b], rfl, hlc, all2_e1.2 rfl, ?_⟩
  by_cases h0 : l = []
  · exact .inl h0
  · right
    have hpos : 0 < l.length := List.length_pos_iff.2 h0
    obtain ⟨b, off, spot⟩ := x
    have h1 := hcell 0 (by omega)
    have hspot : spot = none := by simpa [Addr.add] using World.cell?_spot h1
    subst hspot
    rw [flat_one]
    have hb : ∃ cs t fr, w.heap[b]? = some (.cells cs t fr) := by
      unfold World.cell? at h1
      simp only [Addr.add] at h1
      split at h1
      · rename_i cs t fr he; exact ⟨cs, t, fr, he⟩
      · cases h1
    obtain ⟨cs, t, fr, hb⟩ := hb
    refine ⟨b, off, cs, t, fr, ha, hb, ?_⟩
    intro j u hj
    rw [hl] at hj
    have hjl : j < l.length := by
      have := (List.getElem?_eq_some_iff.1 hj).1
      simp at this
      omega
    have h2 := hcell j (by omega)
    have h3 : w.cell? ⟨b, off + j, none⟩ = some (.int k (zs.getD j 0)) := by
      have e : (Addr.add ⟨b, off, none⟩ j) = ⟨b, off + j, none⟩ := by
        by_cases hj0 : j = 0
        · subst hj0; rfl
        · simp [Addr.add, hj0]
      rw [e] at h2
      exact h2
    have h4 : cs[off + j]? = some (.int k (zs.getD j 0)) := by simpa [World.cell?, hb] using h3
    rw [h4]
    rw [List.getElem?_map, List.getElem?_take, if_pos hjl] at hj
    rw [List.getD_eq_getElem?_getD]
    cases hzz : zs[j]? with
    | none => rw [hzz] at hj; cases hj
    | some z => rw [hzz] at hj; simpa using hj
theorem row_i64 {w : World} {a : Option Addr} {len cap : Nat} {zs : List Int} (h : (a = none ∧ len = 0 ∧ cap = 0 ∧ zs = []) ∨
    ∃ x, a = some x ∧ len ≤ cap ∧ cap ≤ maxLen ∧ zs.length = cap ∧ (∀ i, i < zs.length → w.cell? (x.add i) = some (.int .i64 (zs.getD i 0))) ∧ ∀ n ∈ zs, (Lit.int .i64 n).wf = true) :
    ∃ l : List Int, Sl (Hp.of w) eI (.slice a len cap) l ∧ l.length = len ∧ len ≤ 9223372036854775807 ∧ ∀ n ∈ l, -9223372036854775808 ≤ n ∧ n ≤ 9223372036854775807 := by
  rcases h with ⟨rfl, rfl, rfl, rfl⟩ | ⟨x, ha, hl, hm, hz, hc, hw⟩
  · exact ⟨[], ⟨none, 0, [], rfl, Nat.le_refl _, trivial, .inl rfl⟩, rfl, by omega, by simp⟩
  · unfold maxLen at hm
    refine ⟨zs.take len, row_sl rfl hz hl ha hc, by simp; omega, by omega, fun n hn => ?_⟩
    have := hw n (List.mem_of_mem_take hn)
    simpa [Lit.wf, IntKind.min, IntKind.max, IntKind.signed, IntKind.bits] using this
theorem row_u8 {w : World} {a : Option Addr} {len cap : Nat} {zs : List Int} (h : (a = none ∧ len = 0 ∧ cap = 0 ∧ zs = []) ∨
    ∃ x, a = some x ∧ len ≤ cap ∧ cap ≤ maxLen ∧ zs.length = cap ∧ (∀ i, i < zs.length → w.cell? (x.add i) = some (.int .u8 (zs.getD i 0))) ∧ ∀ n ∈ zs, (Lit.int .u8 n).wf = true) :
    ∃ l : List UInt8, Sl (Hp.of w) eB (.slice a len cap) l ∧ l.length = len ∧ len ≤ 9223372036854775807 := by
  rcases h with ⟨rfl, rfl, rfl, rfl⟩ | ⟨x, ha, hl, hm, hz, hc, hw⟩
  · exact ⟨[], ⟨none, 0, [], rfl, Nat.le_refl _, trivial, .inl rfl⟩, rfl, by omega⟩
  · unfold maxLen at hm
    refine ⟨(zs.take len).map toB, row_sl ?_ hz hl ha hc, by simp; omega, by omega⟩
    rw [List.map_map]
    refine List.map_congr_left fun n hn => ?_
    show bv (toB n) = _
    rw [bv, toB_wf (hw n (List.mem_of_mem_take hn))]
theorem St.mem_ {W : World} {α : Type} {R : Enc α} {v : Value} {l : List α} {L : List HP} (h : Sl (Hp.of W) R v l) (hS : St W W L) : St W W (Go.Proofs.Ytikdelkcpapgdaa.rd R v l :: L) := hS.old h
end Go.Proofs.Ytikdelkcpapgdaa
