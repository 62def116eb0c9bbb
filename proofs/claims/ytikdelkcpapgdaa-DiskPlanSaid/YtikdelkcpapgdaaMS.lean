/-
  Walks: the examples of package disk.
-/
import Derived.Test.YtikdelkcpapgdaaMR
namespace Go.Proofs.Ytikdelkcpapgdaa
open Go Go.RowKit
set_option linter.unusedVariables false
set_option linter.unusedSimpArgs false
set_option maxRecDepth 20000
set_option synthInstance.maxSize 100000
set_option synthInstance.maxHeartbeats 400000
theorem crB_ex1 : crB [1] 7 2 [1, 2, 255] = [1, 2, 254] := by decide +kernel
theorem crB_ex2 : crB [] 7 2 [1, 2, 255] = [1, 2] := by decide +kernel
section
variable {W0 : World} {L : List HP}
set_option maxHeartbeats 1000000 in
theorem lives_ct : CT Try.prog 19 #[] W0 L fun r L' => r = .bool true ∧ L' = L := by
  refine CT_enter Try.func19 rfl ?_; (simp only [Try.ntmps19, List.size_toArray, List.length_cons, List.length_nil, Nat.reduceAdd, Nat.reduceSub, Array.replicate_succ, Array.replicate_zero, List.push_toArray, List.append_toArray, List.nil_append, List.cons_append])
  repeat' (first | refine go ?_ | intro _ | (apply cG; first | refine cT ?_ | refine cF ?_ | refine cS (fun _ => ?_) fun _ => ?_) | (apply gW; refine sW ?_) | (apply gI; refine sI ?_) | (apply gE; refine sE ?_) | (apply gP; refine sP ?_) | (apply gC; refine sC ?_) | (apply gD; refine sD ?_) | fail)
  refine O_d (dy_call ArgsI.pf (by first | exact rfl | trivial | (intro a b; rfl)) (dNew_ct (room := 100) (by decide) (by decide))) ?_; rintro _ _ ⟨_, ⟨p, rfl, rfl⟩, rfl⟩; refine O_n ?_
  have hj0 : J1 ⟨[], 100, false, false, 0⟩ 3 100 [] 0 := J1.begun (by decide) (by decide) 3
  have hfk : (0 : Int) ≤ 3 ∧ (3 : Int) < 64 := by decide
  repeat' (first | refine go ?_ | intro _ | (apply cG; first | refine cT ?_ | refine cF ?_ | refine cS (fun _ => ?_) fun _ => ?_) | (apply gW; refine sW ?_) | (apply gI; refine sI ?_) | (apply gE; refine sE ?_) | (apply gP; refine sP ?_) | (apply gC; refine sC ?_) | (apply gD; refine sD ?_) | fail)
  refine O_d (dy_litP (f := bv) (hf := fun _ => rfl) [1, 2] (by rfl)) ?_; rintro _ _ ⟨_, rfl, rfl⟩; refine O_n ?_
  refine O_d (dy_call ArgsI.pf (by first | exact rfl | trivial | (intro a b; rfl)) (CT.pull (i := 1) (by rfl) (Append_na hj0 hfk (b := [1, 2]) Sc.pf (by decide) (by decide) (by decide) (by decide)))) ?_; rintro _ _ ⟨_, ⟨f1, hj1, rfl, rfl⟩, rfl⟩; refine O_n ?_
  repeat' (first | refine go ?_ | intro _ | (apply cG; first | refine cT ?_ | refine cF ?_ | refine cS (fun _ => ?_) fun _ => ?_) | (apply gW; refine sW ?_) | (apply gI; refine sI ?_) | (apply gE; refine sE ?_) | (apply gP; refine sP ?_) | (apply gC; refine sC ?_) | (apply gD; refine sD ?_) | fail)
  refine O_d (dy_call ArgsI.pf (by first | exact rfl | trivial | (intro a b; rfl)) (CT.pull (i := 0) (by rfl) (Sync_na hj1 (by decide) (by decide)))) ?_; rintro _ _ ⟨_, ⟨f2, hj2, rfl, rfl⟩, rfl⟩; refine O_n ?_
  repeat' (first | refine go ?_ | intro _ | (apply cG; first | refine cT ?_ | refine cF ?_ | refine cS (fun _ => ?_) fun _ => ?_) | (apply gW; refine sW ?_) | (apply gI; refine sI ?_) | (apply gE; refine sE ?_) | (apply gP; refine sP ?_) | (apply gC; refine sC ?_) | (apply gD; refine sD ?_) | fail)
  refine O_d (dy_litP (f := bv) (hf := fun _ => rfl) [255] (by rfl)) ?_; rintro _ _ ⟨_, rfl, rfl⟩; refine O_n ?_
  refine O_d (dy_call ArgsI.pf (by first | exact rfl | trivial | (intro a b; rfl)) (CT.pull (i := 1) (by rfl) (Append_na hj2 hfk (b := [255]) Sc.pf (by decide) (by decide) (by decide) (by decide)))) ?_; rintro _ _ ⟨_, ⟨f3, hj3, rfl, rfl⟩, rfl⟩; refine O_n ?_
  replace hj3 : J1 ⟨f3, 100, false, false, 0⟩ 3 100 [1, 2, 255] 2 := hj3
  repeat' (first | refine go ?_ | intro _ | (apply cG; first | refine cT ?_ | refine cF ?_ | refine cS (fun _ => ?_) fun _ => ?_) | (apply gW; refine sW ?_) | (apply gI; refine sI ?_) | (apply gE; refine sE ?_) | (apply gP; refine sP ?_) | (apply gC; refine sC ?_) | (apply gD; refine sD ?_) | fail)
  refine O_d (dy_call ArgsI.pf (by first | exact rfl | trivial | (intro a b; rfl)) (CT.pull (i := 0) (by rfl) (Copy_ct))) ?_; rintro _ _ ⟨_, ⟨q, rfl, rfl⟩, rfl⟩; refine O_n ?_
  repeat' (first | refine go ?_ | intro _ | (apply cG; first | refine cT ?_ | refine cF ?_ | refine cS (fun _ => ?_) fun _ => ?_) | (apply gW; refine sW ?_) | (apply gI; refine sI ?_) | (apply gE; refine sE ?_) | (apply gP; refine sP ?_) | (apply gC; refine sC ?_) | (apply gD; refine sD ?_) | fail)
  refine O_d (dy_litP (f := iv) (hf := fun _ => rfl) [1] (by rfl)) ?_; rintro _ LI' ⟨_, rfl, hLL⟩; replace hLL : LI' = own _ eI _ _ :: _ := hLL; subst hLL; refine O_n ?_
  refine O_frz 0 ?_
  repeat' (first | refine go ?_ | intro _ | (apply cG; first | refine cT ?_ | refine cF ?_ | refine cS (fun _ => ?_) fun _ => ?_) | (apply gW; refine sW ?_) | (apply gI; refine sI ?_) | (apply gE; refine sE ?_) | (apply gP; refine sP ?_) | (apply gC; refine sC ?_) | (apply gD; refine sD ?_) | fail)
  refine O_front 2 rfl EAt.pf ?_
  refine O_d (dy_call ArgsI.pf (by first | exact rfl | trivial | (intro a b; rfl)) (Crash_na (kp := [1]) (z := 7) hj3 (.head _) (by decide) (by decide) (by decide) (by decide))) ?_; rintro _ _ ⟨_, ⟨f4, hj4, rfl, rfl⟩, rfl⟩; refine O_n ?_
  rw [crB_ex1] at hj4
  replace hj4 : J1 ⟨f4, 100, false, false, 0⟩ 3 100 [1, 2, 254] 3 := hj4
  repeat' (first | refine go ?_ | intro _ | (apply cG; first | refine cT ?_ | refine cF ?_ | refine cS (fun _ => ?_) fun _ => ?_) | (apply gW; refine sW ?_) | (apply gI; refine sI ?_) | (apply gE; refine sE ?_) | (apply gP; refine sP ?_) | (apply gC; refine sC ?_) | (apply gD; refine sD ?_) | fail)
  refine O_rdnil eI none 0 ?_
  refine O_front 3 rfl EAt.pf ?_
  refine O_d (dy_call ArgsI.pf (by first | exact rfl | trivial | (intro a b; rfl)) (Crash_na (kp := []) (z := 7) hj3 (.head _) (by decide) (fun x hx => by cases hx) (by decide) (by decide))) ?_; rintro _ _ ⟨_, ⟨f5, hj5, rfl, rfl⟩, rfl⟩; refine O_n ?_
  rw [crB_ex2] at hj5
  replace hj5 : J1 ⟨f5, 100, false, false, 0⟩ 3 100 [1, 2] 2 := hj5
  repeat' (first | refine go ?_ | intro _ | (apply cG; first | refine cT ?_ | refine cF ?_ | refine cS (fun _ => ?_) fun _ => ?_) | (apply gW; refine sW ?_) | (apply gI; refine sI ?_) | (apply gE; refine sE ?_) | (apply gP; refine sP ?_) | (apply gC; refine sC ?_) | (apply gD; refine sD ?_) | fail)
  refine O_d (dy_call ArgsI.pf (by first | exact rfl | trivial | (intro a b; rfl)) (CT.pull (i := 2) (by rfl) (Read_j hj4 hfk))) ?_; rintro _ _ ⟨_, ⟨A6, c6, rfl, rfl⟩, rfl⟩; refine O_n ?_
  repeat' (first | refine go ?_ | intro _ | (apply cG; first | refine cT ?_ | refine cF ?_ | refine cS (fun _ => ?_) fun _ => ?_) | (apply gW; refine sW ?_) | (apply gI; refine sI ?_) | (apply gE; refine sE ?_) | (apply gP; refine sP ?_) | (apply gC; refine sC ?_) | (apply gD; refine sD ?_) | fail)
  refine O_d (dy_call ArgsI.pf (by first | exact rfl | trivial | (intro a b; rfl)) (CT.pull (i := 2) (by rfl) (Read_j hj5 hfk))) ?_; rintro _ _ ⟨_, ⟨A7, c7, rfl, rfl⟩, rfl⟩; refine O_n ?_
  repeat' (first | refine go ?_ | intro _ | (apply cG; first | refine cT ?_ | refine cF ?_ | refine cS (fun _ => ?_) fun _ => ?_) | (apply gW; refine sW ?_) | (apply gI; refine sI ?_) | (apply gE; refine sE ?_) | (apply gP; refine sP ?_) | (apply gC; refine sC ?_) | (apply gD; refine sD ?_) | fail)
  refine O_d (dy_call ArgsI.pf (by first | exact rfl | trivial | (intro a b; rfl)) (CT.pull (i := 1) (by rfl) (dArm_ct (n := 0)))) ?_; rintro _ _ ⟨_, ⟨rfl, rfl⟩, rfl⟩; refine O_n ?_
  repeat' (first | refine go ?_ | intro _ | (apply cG; first | refine cT ?_ | refine cF ?_ | refine cS (fun _ => ?_) fun _ => ?_) | (apply gW; refine sW ?_) | (apply gI; refine sI ?_) | (apply gE; refine sE ?_) | (apply gP; refine sP ?_) | (apply gC; refine sC ?_) | (apply gD; refine sD ?_) | fail)
  have hu5 := hj5.ok.u
  have hfu5 := file_le_used (n := 1) f5
  replace hu5 : (usedL f5 : Int) ≤ 100 := hu5
  refine O_rdnil eB none 0 ?_
  refine O_d (dy_call ArgsI.pf (by first | exact rfl | trivial | (intro a b; rfl)) (CT.pull (i := 1) (by rfl) (dAppend_ct (n := 1) (b := []) (.inl (.head _)) (by decide) (by omega) (by decide) (by decide) (by omega) (by decide) (by decide)))) ?_; rintro _ _ ⟨_, ⟨A8, c8, rfl, rfl⟩, rfl⟩; refine O_n ?_
  have ha8 : ∃ f8, appF ⟨f5, 100, false, decide ((0 : Int) ≤ 0), 0⟩ 1 [] (.slice A8 ((fileF 1 f5).b ++ []).length c8) = (⟨f8, 100, true, false, -1⟩, 21) := by
    unfold appF
    rw [if_pos (by decide), if_neg (by simp)]
    dsimp only
    rw [if_neg (by simp only [List.length_nil]; omega)]
    exact ⟨_, rfl⟩
  obtain ⟨f8, ha8⟩ := ha8
  rw [ha8]
  dsimp only
  repeat' (first | refine go ?_ | intro _ | (apply cG; first | refine cT ?_ | refine cF ?_ | refine cS (fun _ => ?_) fun _ => ?_) | (apply gW; refine sW ?_) | (apply gI; refine sI ?_) | (apply gE; refine sE ?_) | (apply gP; refine sP ?_) | (apply gC; refine sC ?_) | (apply gD; refine sD ?_) | fail)
  refine O_d (dy_call ArgsI.pf (by first | exact rfl | trivial | (intro a b; rfl)) (CT.pull (i := 0) (by rfl) (dRead_no (files := f8) (room := 100) (off := true) (armed := false) (left := -1) (e := 21) (.inr ⟨by decide, rfl, rfl⟩)))) ?_; rintro _ _ ⟨_, ⟨rfl, rfl⟩, rfl⟩; refine O_n ?_
  repeat' (first | refine go ?_ | intro _ | (apply cG; first | refine cT ?_ | refine cF ?_ | refine cS (fun _ => ?_) fun _ => ?_) | (apply gW; refine sW ?_) | (apply gI; refine sI ?_) | (apply gE; refine sE ?_) | (apply gP; refine sP ?_) | (apply gC; refine sC ?_) | (apply gD; refine sD ?_) | fail)
  refine O_d (dy_litP (f := bv) (hf := fun _ => rfl) [1, 2, 254] (by rfl)) ?_; rintro _ _ ⟨_, rfl, rfl⟩; refine O_n ?_
  refine O_d (dy_call ArgsI.pf (by first | exact rfl | trivial | (intro a b; rfl)) (SameBytes_ct (la := [1, 2, 254]) (lb := [1, 2, 254]) (.inr ⟨_, .tail _ (.tail _ (.tail _ (.tail _ (.head _))))⟩) (.inr ⟨_, .head _⟩) (by decide) (by decide) (q := true) (by decide))) ?_; rintro _ _ ⟨_, ⟨rfl, hLL⟩, rfl⟩; replace hLL := hLL.symm; subst hLL; refine O_n ?_
  repeat' (first | refine go ?_ | intro _ | (apply cG; first | refine cT ?_ | refine cF ?_ | refine cS (fun _ => ?_) fun _ => ?_) | (apply gW; refine sW ?_) | (apply gI; refine sI ?_) | (apply gE; refine sE ?_) | (apply gP; refine sP ?_) | (apply gC; refine sC ?_) | (apply gD; refine sD ?_) | fail)
  refine O_d (dy_litP (f := bv) (hf := fun _ => rfl) [1, 2] (by rfl)) ?_; rintro _ _ ⟨_, rfl, rfl⟩; refine O_n ?_
  refine O_d (dy_call ArgsI.pf (by first | exact rfl | trivial | (intro a b; rfl)) (SameBytes_ct (la := [1, 2]) (lb := [1, 2]) (.inr ⟨_, .tail _ (.tail _ (.tail _ (.tail _ (.head _))))⟩) (.inr ⟨_, .head _⟩) (by decide) (by decide) (q := true) (by decide))) ?_; rintro _ _ ⟨_, ⟨rfl, hLL⟩, rfl⟩; replace hLL := hLL.symm; subst hLL; refine O_n ?_
  repeat' (first | refine go ?_ | intro _ | (apply cG; first | refine cT ?_ | refine cF ?_ | refine cS (fun _ => ?_) fun _ => ?_) | (apply gW; refine sW ?_) | (apply gI; refine sI ?_) | (apply gE; refine sE ?_) | (apply gP; refine sP ?_) | (apply gC; refine sC ?_) | (apply gD; refine sD ?_) | fail)
  refine E_res1 (by rfl) (by rfl) ⟨rfl, rfl⟩ Sb
end
end Go.Proofs.Ytikdelkcpapgdaa
