/-
  Walks: points and boxes of the grid.
-/
import Derived.Test.YteeapkfakehocaaMI
import Derived.Test.YteeapkfakehocaaMJ
namespace Go.Proofs.Yteeapkfakehocaa
open Go Go.RowKit
set_option linter.unusedVariables false
set_option linter.unusedSimpArgs false
set_option maxRecDepth 20000
set_option synthInstance.maxSize 100000
set_option synthInstance.maxHeartbeats 400000
section
variable {W0 : World} {L : List HP}
def cmpF (x y : Int) : Int := if x < y then -1 else if y < x then 1 else 0
theorem cmp_ct {x y : Int} : CT Try.prog 68 #[.int .i64 x, .int .i64 y] W0 L fun r L' => r = .int .i64 (cmpF x y) ∧ L' = L := by
  have hN : ∀ {x : Int} {L : List HP}, CT Try.prog 73 #[.int .i64 x] W0 L fun r L' => r = .bool false ∧ L' = L := by
    intro x L
    have hx : ¬ (x ≠ x) := fun h => h rfl
    refine CT_enter Try.func73 rfl ?_; (simp only [Try.ntmps73, List.size_toArray, List.length_cons, List.length_nil, Nat.reduceAdd, Nat.reduceSub, Array.replicate_succ, Array.replicate_zero, List.push_toArray, List.append_toArray, List.nil_append, List.cons_append])
    repeat' (first | refine go ?_ | intro _ | (apply cG; first | refine cT ?_ | refine cF ?_ | refine cS (fun _ => ?_) fun _ => ?_) | (apply gW; refine sW ?_) | (apply gI; refine sI ?_) | (apply gE; refine sE ?_) | (apply gP; refine sP ?_) | (apply gC; refine sC ?_) | (apply gD; refine sD ?_) | fail)
    refine E_res1 (by rfl) (by rfl) ⟨rfl, rfl⟩ Sb
  unfold cmpF
  by_cases h1 : x < y
  · rw [if_pos h1]
    refine CT_enter Try.func68 rfl ?_; (simp only [Try.ntmps68, List.size_toArray, List.length_cons, List.length_nil, Nat.reduceAdd, Nat.reduceSub, Array.replicate_succ, Array.replicate_zero, List.push_toArray, List.append_toArray, List.nil_append, List.cons_append])
    repeat' (first | refine go ?_ | intro _ | (apply cG; first | refine cT ?_ | refine cF ?_ | refine cS (fun _ => ?_) fun _ => ?_) | (apply gW; refine sW ?_) | (apply gI; refine sI ?_) | (apply gE; refine sE ?_) | (apply gP; refine sP ?_) | (apply gC; refine sC ?_) | (apply gD; refine sD ?_) | fail)
    refine O_d (dy_call ArgsI.pf (by first | exact rfl | trivial | (intro a b; rfl)) (hN)) ?_; rintro _ _ ⟨_, ⟨rfl, hLL⟩, rfl⟩; replace hLL := hLL.symm; subst hLL; refine O_n ?_
    repeat' (first | refine go ?_ | intro _ | (apply cG; first | refine cT ?_ | refine cF ?_ | refine cS (fun _ => ?_) fun _ => ?_) | (apply gW; refine sW ?_) | (apply gI; refine sI ?_) | (apply gE; refine sE ?_) | (apply gP; refine sP ?_) | (apply gC; refine sC ?_) | (apply gD; refine sD ?_) | fail)
    refine O_d (dy_call ArgsI.pf (by first | exact rfl | trivial | (intro a b; rfl)) (hN)) ?_; rintro _ _ ⟨_, ⟨rfl, hLL⟩, rfl⟩; replace hLL := hLL.symm; subst hLL; refine O_n ?_
    repeat' (first | refine go ?_ | intro _ | (apply cG; first | refine cT ?_ | refine cF ?_ | refine cS (fun _ => ?_) fun _ => ?_) | (apply gW; refine sW ?_) | (apply gI; refine sI ?_) | (apply gE; refine sE ?_) | (apply gP; refine sP ?_) | (apply gC; refine sC ?_) | (apply gD; refine sD ?_) | fail)
    refine E_res1 (by rfl) (by rfl) ⟨rfl, rfl⟩ Sb
  rw [if_neg h1]
  by_cases h2 : y < x
  · rw [if_pos h2]
    refine CT_enter Try.func68 rfl ?_; (simp only [Try.ntmps68, List.size_toArray, List.length_cons, List.length_nil, Nat.reduceAdd, Nat.reduceSub, Array.replicate_succ, Array.replicate_zero, List.push_toArray, List.append_toArray, List.nil_append, List.cons_append])
    repeat' (first | refine go ?_ | intro _ | (apply cG; first | refine cT ?_ | refine cF ?_ | refine cS (fun _ => ?_) fun _ => ?_) | (apply gW; refine sW ?_) | (apply gI; refine sI ?_) | (apply gE; refine sE ?_) | (apply gP; refine sP ?_) | (apply gC; refine sC ?_) | (apply gD; refine sD ?_) | fail)
    refine O_d (dy_call ArgsI.pf (by first | exact rfl | trivial | (intro a b; rfl)) (hN)) ?_; rintro _ _ ⟨_, ⟨rfl, hLL⟩, rfl⟩; replace hLL := hLL.symm; subst hLL; refine O_n ?_
    repeat' (first | refine go ?_ | intro _ | (apply cG; first | refine cT ?_ | refine cF ?_ | refine cS (fun _ => ?_) fun _ => ?_) | (apply gW; refine sW ?_) | (apply gI; refine sI ?_) | (apply gE; refine sE ?_) | (apply gP; refine sP ?_) | (apply gC; refine sC ?_) | (apply gD; refine sD ?_) | fail)
    refine O_d (dy_call ArgsI.pf (by first | exact rfl | trivial | (intro a b; rfl)) (hN)) ?_; rintro _ _ ⟨_, ⟨rfl, hLL⟩, rfl⟩; replace hLL := hLL.symm; subst hLL; refine O_n ?_
    repeat' (first | refine go ?_ | intro _ | (apply cG; first | refine cT ?_ | refine cF ?_ | refine cS (fun _ => ?_) fun _ => ?_) | (apply gW; refine sW ?_) | (apply gI; refine sI ?_) | (apply gE; refine sE ?_) | (apply gP; refine sP ?_) | (apply gC; refine sC ?_) | (apply gD; refine sD ?_) | fail)
    refine E_res1 (by rfl) (by rfl) ⟨rfl, rfl⟩ Sb
  rw [if_neg h2]
  refine CT_enter Try.func68 rfl ?_; (simp only [Try.ntmps68, List.size_toArray, List.length_cons, List.length_nil, Nat.reduceAdd, Nat.reduceSub, Array.replicate_succ, Array.replicate_zero, List.push_toArray, List.append_toArray, List.nil_append, List.cons_append])
  repeat' (first | refine go ?_ | intro _ | (apply cG; first | refine cT ?_ | refine cF ?_ | refine cS (fun _ => ?_) fun _ => ?_) | (apply gW; refine sW ?_) | (apply gI; refine sI ?_) | (apply gE; refine sE ?_) | (apply gP; refine sP ?_) | (apply gC; refine sC ?_) | (apply gD; refine sD ?_) | fail)
  refine O_d (dy_call ArgsI.pf (by first | exact rfl | trivial | (intro a b; rfl)) (hN)) ?_; rintro _ _ ⟨_, ⟨rfl, hLL⟩, rfl⟩; replace hLL := hLL.symm; subst hLL; refine O_n ?_
  repeat' (first | refine go ?_ | intro _ | (apply cG; first | refine cT ?_ | refine cF ?_ | refine cS (fun _ => ?_) fun _ => ?_) | (apply gW; refine sW ?_) | (apply gI; refine sI ?_) | (apply gE; refine sE ?_) | (apply gP; refine sP ?_) | (apply gC; refine sC ?_) | (apply gD; refine sD ?_) | fail)
  refine O_d (dy_call ArgsI.pf (by first | exact rfl | trivial | (intro a b; rfl)) (hN)) ?_; rintro _ _ ⟨_, ⟨rfl, hLL⟩, rfl⟩; replace hLL := hLL.symm; subst hLL; refine O_n ?_
  repeat' (first | refine go ?_ | intro _ | (apply cG; first | refine cT ?_ | refine cF ?_ | refine cS (fun _ => ?_) fun _ => ?_) | (apply gW; refine sW ?_) | (apply gI; refine sI ?_) | (apply gE; refine sE ?_) | (apply gP; refine sP ?_) | (apply gC; refine sC ?_) | (apply gD; refine sD ?_) | fail)
  refine E_res1 (by rfl) (by rfl) ⟨rfl, rfl⟩ Sb
theorem pwithin_ct {lo x hi : Int} {q : Bool} (hq : decide (lo ≤ x ∧ x ≤ hi) = q) : CT Try.prog 67 #[.int .i64 lo, .int .i64 x, .int .i64 hi, .func (.func 68) #[] #[]] W0 L fun r L' => r = .bool q ∧ L' = L := by
  by_cases h1 : lo ≤ x
  rotate_left
  · obtain rfl : q = false := by rw [← hq]; exact decide_eq_false fun h => h1 h.1
    have hc : cmpF lo x = 1 := by unfold cmpF; rw [if_neg (by omega), if_pos (by omega)]
    refine CT_enter Try.func67 rfl ?_; (simp only [Try.ntmps67, List.size_toArray, List.length_cons, List.length_nil, Nat.reduceAdd, Nat.reduceSub, Array.replicate_succ, Array.replicate_zero, List.push_toArray, List.append_toArray, List.nil_append, List.cons_append])
    repeat' (first | refine go ?_ | intro _ | (apply cG; first | refine cT ?_ | refine cF ?_ | refine cS (fun _ => ?_) fun _ => ?_) | (apply gW; refine sW ?_) | (apply gI; refine sI ?_) | (apply gE; refine sE ?_) | (apply gP; refine sP ?_) | (apply gC; refine sC ?_) | (apply gD; refine sD ?_) | fail)
    refine O_d (dy_callv Ev.pf ArgsI.pf (by simp only [List.append_toArray, List.nil_append, List.append_nil, List.cons_append] <;> exact rfl) (by first | exact rfl | trivial | (intro a b; rfl)) (cmp_ct)) ?_; rintro _ _ ⟨_, ⟨rfl, rfl⟩, rfl⟩; refine O_n ?_
    rw [hc]
    repeat' (first | refine go ?_ | intro _ | (apply cG; first | refine cT ?_ | refine cF ?_ | refine cS (fun _ => ?_) fun _ => ?_) | (apply gW; refine sW ?_) | (apply gI; refine sI ?_) | (apply gE; refine sE ?_) | (apply gP; refine sP ?_) | (apply gC; refine sC ?_) | (apply gD; refine sD ?_) | fail)
    refine E_res1 (by rfl) (by rfl) ⟨rfl, rfl⟩ Sb
  have hc : cmpF lo x ≤ 0 := by unfold cmpF; split; omega; rw [if_neg (by omega)]; exact Int.le_refl _
  obtain ⟨c, hce⟩ : ∃ c, cmpF lo x = c := ⟨_, rfl⟩
  rw [hce] at hc
  by_cases h2 : x ≤ hi
  · obtain rfl : q = true := by rw [← hq]; exact decide_eq_true ⟨h1, h2⟩
    have hd : cmpF x hi ≤ 0 := by unfold cmpF; split; omega; rw [if_neg (by omega)]; exact Int.le_refl _
    obtain ⟨d, hde⟩ : ∃ d, cmpF x hi = d := ⟨_, rfl⟩
    rw [hde] at hd
    refine CT_enter Try.func67 rfl ?_; (simp only [Try.ntmps67, List.size_toArray, List.length_cons, List.length_nil, Nat.reduceAdd, Nat.reduceSub, Array.replicate_succ, Array.replicate_zero, List.push_toArray, List.append_toArray, List.nil_append, List.cons_append])
    repeat' (first | refine go ?_ | intro _ | (apply cG; first | refine cT ?_ | refine cF ?_ | refine cS (fun _ => ?_) fun _ => ?_) | (apply gW; refine sW ?_) | (apply gI; refine sI ?_) | (apply gE; refine sE ?_) | (apply gP; refine sP ?_) | (apply gC; refine sC ?_) | (apply gD; refine sD ?_) | fail)
    refine O_d (dy_callv Ev.pf ArgsI.pf (by simp only [List.append_toArray, List.nil_append, List.append_nil, List.cons_append] <;> exact rfl) (by first | exact rfl | trivial | (intro a b; rfl)) (cmp_ct)) ?_; rintro _ _ ⟨_, ⟨rfl, rfl⟩, rfl⟩; refine O_n ?_
    rw [hce]
    repeat' (first | refine go ?_ | intro _ | (apply cG; first | refine cT ?_ | refine cF ?_ | refine cS (fun _ => ?_) fun _ => ?_) | (apply gW; refine sW ?_) | (apply gI; refine sI ?_) | (apply gE; refine sE ?_) | (apply gP; refine sP ?_) | (apply gC; refine sC ?_) | (apply gD; refine sD ?_) | fail)
    refine O_d (dy_callv Ev.pf ArgsI.pf (by simp only [List.append_toArray, List.nil_append, List.append_nil, List.cons_append] <;> exact rfl) (by first | exact rfl | trivial | (intro a b; rfl)) (cmp_ct)) ?_; rintro _ _ ⟨_, ⟨rfl, rfl⟩, rfl⟩; refine O_n ?_
    rw [hde]
    repeat' (first | refine go ?_ | intro _ | (apply cG; first | refine cT ?_ | refine cF ?_ | refine cS (fun _ => ?_) fun _ => ?_) | (apply gW; refine sW ?_) | (apply gI; refine sI ?_) | (apply gE; refine sE ?_) | (apply gP; refine sP ?_) | (apply gC; refine sC ?_) | (apply gD; refine sD ?_) | fail)
    refine E_res1 (by rfl) (by rfl) ⟨rfl, rfl⟩ Sb
  · obtain rfl : q = false := by rw [← hq]; exact decide_eq_false fun h => h2 h.2
    have hd : cmpF x hi = 1 := by unfold cmpF; rw [if_neg (by omega), if_pos (by omega)]
    refine CT_enter Try.func67 rfl ?_; (simp only [Try.ntmps67, List.size_toArray, List.length_cons, List.length_nil, Nat.reduceAdd, Nat.reduceSub, Array.replicate_succ, Array.replicate_zero, List.push_toArray, List.append_toArray, List.nil_append, List.cons_append])
    repeat' (first | refine go ?_ | intro _ | (apply cG; first | refine cT ?_ | refine cF ?_ | refine cS (fun _ => ?_) fun _ => ?_) | (apply gW; refine sW ?_) | (apply gI; refine sI ?_) | (apply gE; refine sE ?_) | (apply gP; refine sP ?_) | (apply gC; refine sC ?_) | (apply gD; refine sD ?_) | fail)
    refine O_d (dy_callv Ev.pf ArgsI.pf (by simp only [List.append_toArray, List.nil_append, List.append_nil, List.cons_append] <;> exact rfl) (by first | exact rfl | trivial | (intro a b; rfl)) (cmp_ct)) ?_; rintro _ _ ⟨_, ⟨rfl, rfl⟩, rfl⟩; refine O_n ?_
    rw [hce]
    repeat' (first | refine go ?_ | intro _ | (apply cG; first | refine cT ?_ | refine cF ?_ | refine cS (fun _ => ?_) fun _ => ?_) | (apply gW; refine sW ?_) | (apply gI; refine sI ?_) | (apply gE; refine sE ?_) | (apply gP; refine sP ?_) | (apply gC; refine sC ?_) | (apply gD; refine sD ?_) | fail)
    refine O_d (dy_callv Ev.pf ArgsI.pf (by simp only [List.append_toArray, List.nil_append, List.append_nil, List.cons_append] <;> exact rfl) (by first | exact rfl | trivial | (intro a b; rfl)) (cmp_ct)) ?_; rintro _ _ ⟨_, ⟨rfl, rfl⟩, rfl⟩; refine O_n ?_
    rw [hd]
    repeat' (first | refine go ?_ | intro _ | (apply cG; first | refine cT ?_ | refine cF ?_ | refine cS (fun _ => ?_) fun _ => ?_) | (apply gW; refine sW ?_) | (apply gI; refine sI ?_) | (apply gE; refine sE ?_) | (apply gP; refine sP ?_) | (apply gC; refine sC ?_) | (apply gD; refine sD ?_) | fail)
    refine E_res1 (by rfl) (by rfl) ⟨rfl, rfl⟩ Sb
def goodP (x y : Int) : Int := if inG x ∧ inG y then 0 else 5
theorem Valid_ct {x y : Int} : CT Try.prog 53 #[.agg #[.int .i64 x, .int .i64 y]] W0 L fun r L' => r = .int .i64 (goodP x y) ∧ L' = L := by
  unfold goodP
  refine CT_enter Try.func53 rfl ?_; (simp only [Try.ntmps53, List.size_toArray, List.length_cons, List.length_nil, Nat.reduceAdd, Nat.reduceSub, Array.replicate_succ, Array.replicate_zero, List.push_toArray, List.append_toArray, List.nil_append, List.cons_append])
  repeat' (first | refine go ?_ | intro _ | (apply cG; first | refine cT ?_ | refine cF ?_ | refine cS (fun _ => ?_) fun _ => ?_) | (apply gW; refine sW ?_) | (apply gI; refine sI ?_) | (apply gE; refine sE ?_) | (apply gP; refine sP ?_) | (apply gC; refine sC ?_) | (apply gD; refine sD ?_) | fail)
  refine O_s (sv_buildA (len := 2) (e := 3) (zs := #[.int .i64 0, .int .i64 0]) (cs := #[.int .i64 x, .int .i64 y]) (size := 1) (by kernel_rfl) (fun w => by kernel_rfl) (fun w => by kernel_rfl) (by first | kernel_rfl | (simp [Instr.fill, Value.cells, Act.eval]; done))) ?_
  repeat' (first | refine go ?_ | intro _ | (apply cG; first | refine cT ?_ | refine cF ?_ | refine cS (fun _ => ?_) fun _ => ?_) | (apply gW; refine sW ?_) | (apply gI; refine sI ?_) | (apply gE; refine sE ?_) | (apply gP; refine sP ?_) | (apply gC; refine sC ?_) | (apply gD; refine sD ?_) | fail)
  refine C_loopS (κ := Nat) [false, false, true, false, true, false, false, false, false, false, true, true, true, true, true, true, true] (fun k => [(10, .int .i64 (k : Int))]) (fun k => []) (fun k => k ≤ 2 ∧ (1 ≤ k → inG x) ∧ (2 ≤ k → inG y)) (fun k => 2 - k) 0 ⟨by decide, fun h => absurd h (by decide), fun h => absurd h (by decide)⟩ ⟨rfl, trivial⟩ ?_
  rintro i u ⟨hi, hx, hy⟩
  ((try dsimp only); refine C_n ?_; (try simp only [Nat.reduceAdd, Nat.zero_add]))
  rcases (show i = 0 ∨ i = 1 ∨ i = 2 by omega) with rfl | rfl | rfl
  · repeat' (first | refine go ?_ | intro _ | (apply cG; first | refine cT ?_ | refine cF ?_ | refine cS (fun _ => ?_) fun _ => ?_) | (apply gW; refine sW ?_) | (apply gI; refine sI ?_) | (apply gE; refine sE ?_) | (apply gP; refine sP ?_) | (apply gC; refine sC ?_) | (apply gD; refine sD ?_) | fail)
    refine O_s (sv_index (len := 2) (e := 3) (k := .i64) (i := ((0 : Nat) : Int)) (cs := #[.int .i64 x, .int .i64 y]) (size := 1) (v := .int .i64 x) (by kernel_rfl) (fun w => by kernel_rfl) Ev.pf Ev.pf (by decide) (by decide) (fun w => by kernel_rfl)) ?_
    repeat' (first | refine go ?_ | intro _ | (apply cG; first | refine cT ?_ | refine cF ?_ | refine cS (fun _ => ?_) fun _ => ?_) | (apply gW; refine sW ?_) | (apply gI; refine sI ?_) | (apply gE; refine sE ?_) | (apply gP; refine sP ?_) | (apply gC; refine sC ?_) | (apply gD; refine sD ?_) | fail)
    by_cases hg : inG x
    · refine O_d (dy_call ArgsI.pf (by first | exact rfl | trivial | (intro a b; rfl)) (pwithin_ct (q := true) (decide_eq_true hg))) ?_; rintro _ _ ⟨_, ⟨rfl, hLL⟩, rfl⟩; replace hLL := hLL.symm; subst hLL; refine O_n ?_
      repeat' (first | refine go ?_ | intro _ | (apply cG; first | refine cT ?_ | refine cF ?_ | refine cS (fun _ => ?_) fun _ => ?_) | (apply gW; refine sW ?_) | (apply gI; refine sI ?_) | (apply gE; refine sE ?_) | (apply gP; refine sP ?_) | (apply gC; refine sC ?_) | (apply gD; refine sD ?_) | fail)
      exact E_round 1 ⟨by decide, fun _ => hg, fun h => absurd h (by decide)⟩ (by decide) ⟨rfl, trivial⟩ Sb
    · rw [if_neg (fun h => hg h.1)]
      refine O_d (dy_call ArgsI.pf (by first | exact rfl | trivial | (intro a b; rfl)) (pwithin_ct (q := false) (decide_eq_false hg))) ?_; rintro _ _ ⟨_, ⟨rfl, hLL⟩, rfl⟩; replace hLL := hLL.symm; subst hLL; refine O_n ?_
      repeat' (first | refine go ?_ | intro _ | (apply cG; first | refine cT ?_ | refine cF ?_ | refine cS (fun _ => ?_) fun _ => ?_) | (apply gW; refine sW ?_) | (apply gI; refine sI ?_) | (apply gE; refine sE ?_) | (apply gP; refine sP ?_) | (apply gC; refine sC ?_) | (apply gD; refine sD ?_) | fail)
      refine E_res1 (by rfl) (by rfl) ⟨rfl, rfl⟩ Sb
  · repeat' (first | refine go ?_ | intro _ | (apply cG; first | refine cT ?_ | refine cF ?_ | refine cS (fun _ => ?_) fun _ => ?_) | (apply gW; refine sW ?_) | (apply gI; refine sI ?_) | (apply gE; refine sE ?_) | (apply gP; refine sP ?_) | (apply gC; refine sC ?_) | (apply gD; refine sD ?_) | fail)
    refine O_s (sv_index (len := 2) (e := 3) (k := .i64) (i := ((1 : Nat) : Int)) (cs := #[.int .i64 x, .int .i64 y]) (size := 1) (v := .int .i64 y) (by kernel_rfl) (fun w => by kernel_rfl) Ev.pf Ev.pf (by decide) (by decide) (fun w => by kernel_rfl)) ?_
    repeat' (first | refine go ?_ | intro _ | (apply cG; first | refine cT ?_ | refine cF ?_ | refine cS (fun _ => ?_) fun _ => ?_) | (apply gW; refine sW ?_) | (apply gI; refine sI ?_) | (apply gE; refine sE ?_) | (apply gP; refine sP ?_) | (apply gC; refine sC ?_) | (apply gD; refine sD ?_) | fail)
    by_cases hg : inG y
    · refine O_d (dy_call ArgsI.pf (by first | exact rfl | trivial | (intro a b; rfl)) (pwithin_ct (q := true) (decide_eq_true hg))) ?_; rintro _ _ ⟨_, ⟨rfl, hLL⟩, rfl⟩; replace hLL := hLL.symm; subst hLL; refine O_n ?_
      repeat' (first | refine go ?_ | intro _ | (apply cG; first | refine cT ?_ | refine cF ?_ | refine cS (fun _ => ?_) fun _ => ?_) | (apply gW; refine sW ?_) | (apply gI; refine sI ?_) | (apply gE; refine sE ?_) | (apply gP; refine sP ?_) | (apply gC; refine sC ?_) | (apply gD; refine sD ?_) | fail)
      exact E_round 2 ⟨by decide, fun _ => hx (by decide), fun _ => hg⟩ (by decide) ⟨rfl, trivial⟩ Sb
    · rw [if_neg (fun h => hg h.2)]
      refine O_d (dy_call ArgsI.pf (by first | exact rfl | trivial | (intro a b; rfl)) (pwithin_ct (q := false) (decide_eq_false hg))) ?_; rintro _ _ ⟨_, ⟨rfl, hLL⟩, rfl⟩; replace hLL := hLL.symm; subst hLL; refine O_n ?_
      repeat' (first | refine go ?_ | intro _ | (apply cG; first | refine cT ?_ | refine cF ?_ | refine cS (fun _ => ?_) fun _ => ?_) | (apply gW; refine sW ?_) | (apply gI; refine sI ?_) | (apply gE; refine sE ?_) | (apply gP; refine sP ?_) | (apply gC; refine sC ?_) | (apply gD; refine sD ?_) | fail)
      refine E_res1 (by rfl) (by rfl) ⟨rfl, rfl⟩ Sb
  · rw [if_pos ⟨hx (by decide), hy (by decide)⟩]
    repeat' (first | refine go ?_ | intro _ | (apply cG; first | refine cT ?_ | refine cF ?_ | refine cS (fun _ => ?_) fun _ => ?_) | (apply gW; refine sW ?_) | (apply gI; refine sI ?_) | (apply gE; refine sE ?_) | (apply gP; refine sP ?_) | (apply gC; refine sC ?_) | (apply gD; refine sD ?_) | fail)
    refine E_res1 (by rfl) (by rfl) ⟨rfl, rfl⟩ Sb
abbrev bxV (b : BX) : Value := .agg #[.int .i64 b.x0, .int .i64 b.y0, .int .i64 b.x1, .int .i64 b.y1]
def goodBF (b : BX) : Int := if b.good then 0 else 5
theorem ValidBox_ct {b : BX} : CT Try.prog 28 #[bxV b] W0 L fun r L' => r = .int .i64 (goodBF b) ∧ L' = L := by
  unfold goodBF
  by_cases h1 : inG b.x0 ∧ inG b.y0
  rotate_left
  · have e1 : goodP b.x0 b.y0 = 5 := if_neg h1
    rw [if_neg (fun h => h1 ⟨h.1, h.2.1⟩)]
    refine CT_enter Try.func28 rfl ?_; (simp only [Try.ntmps28, List.size_toArray, List.length_cons, List.length_nil, Nat.reduceAdd, Nat.reduceSub, Array.replicate_succ, Array.replicate_zero, List.push_toArray, List.append_toArray, List.nil_append, List.cons_append])
    repeat' (first | refine go ?_ | intro _ | (apply cG; first | refine cT ?_ | refine cF ?_ | refine cS (fun _ => ?_) fun _ => ?_) | (apply gW; refine sW ?_) | (apply gI; refine sI ?_) | (apply gE; refine sE ?_) | (apply gP; refine sP ?_) | (apply gC; refine sC ?_) | (apply gD; refine sD ?_) | fail)
    refine O_d (dy_call ArgsI.pf (by first | exact rfl | trivial | (intro a b; rfl)) (Valid_ct)) ?_; rintro _ _ ⟨_, ⟨rfl, hLL⟩, rfl⟩; replace hLL := hLL.symm; subst hLL; refine O_n ?_
    rw [e1]
    repeat' (first | refine go ?_ | intro _ | (apply cG; first | refine cT ?_ | refine cF ?_ | refine cS (fun _ => ?_) fun _ => ?_) | (apply gW; refine sW ?_) | (apply gI; refine sI ?_) | (apply gE; refine sE ?_) | (apply gP; refine sP ?_) | (apply gC; refine sC ?_) | (apply gD; refine sD ?_) | fail)
    refine E_res1 (by rfl) (by rfl) ⟨rfl, rfl⟩ Sb
  have e1 : goodP b.x0 b.y0 = 0 := if_pos h1
  by_cases h2 : inG b.x1 ∧ inG b.y1
  rotate_left
  · have e2 : goodP b.x1 b.y1 = 5 := if_neg h2
    rw [if_neg (fun h => h2 ⟨h.2.2.1, h.2.2.2.1⟩)]
    refine CT_enter Try.func28 rfl ?_; (simp only [Try.ntmps28, List.size_toArray, List.length_cons, List.length_nil, Nat.reduceAdd, Nat.reduceSub, Array.replicate_succ, Array.replicate_zero, List.push_toArray, List.append_toArray, List.nil_append, List.cons_append])
    repeat' (first | refine go ?_ | intro _ | (apply cG; first | refine cT ?_ | refine cF ?_ | refine cS (fun _ => ?_) fun _ => ?_) | (apply gW; refine sW ?_) | (apply gI; refine sI ?_) | (apply gE; refine sE ?_) | (apply gP; refine sP ?_) | (apply gC; refine sC ?_) | (apply gD; refine sD ?_) | fail)
    refine O_d (dy_call ArgsI.pf (by first | exact rfl | trivial | (intro a b; rfl)) (Valid_ct)) ?_; rintro _ _ ⟨_, ⟨rfl, hLL⟩, rfl⟩; replace hLL := hLL.symm; subst hLL; refine O_n ?_
    rw [e1]
    repeat' (first | refine go ?_ | intro _ | (apply cG; first | refine cT ?_ | refine cF ?_ | refine cS (fun _ => ?_) fun _ => ?_) | (apply gW; refine sW ?_) | (apply gI; refine sI ?_) | (apply gE; refine sE ?_) | (apply gP; refine sP ?_) | (apply gC; refine sC ?_) | (apply gD; refine sD ?_) | fail)
    refine O_d (dy_call ArgsI.pf (by first | exact rfl | trivial | (intro a b; rfl)) (Valid_ct)) ?_; rintro _ _ ⟨_, ⟨rfl, hLL⟩, rfl⟩; replace hLL := hLL.symm; subst hLL; refine O_n ?_
    rw [e2]
    repeat' (first | refine go ?_ | intro _ | (apply cG; first | refine cT ?_ | refine cF ?_ | refine cS (fun _ => ?_) fun _ => ?_) | (apply gW; refine sW ?_) | (apply gI; refine sI ?_) | (apply gE; refine sE ?_) | (apply gP; refine sP ?_) | (apply gC; refine sC ?_) | (apply gD; refine sD ?_) | fail)
    refine E_res1 (by rfl) (by rfl) ⟨rfl, rfl⟩ Sb
  have e2 : goodP b.x1 b.y1 = 0 := if_pos h2
  by_cases h3 : b.x0 ≤ b.x1
  rotate_left
  · rw [if_neg (fun h => h3 h.2.2.2.2.1)]
    refine CT_enter Try.func28 rfl ?_; (simp only [Try.ntmps28, List.size_toArray, List.length_cons, List.length_nil, Nat.reduceAdd, Nat.reduceSub, Array.replicate_succ, Array.replicate_zero, List.push_toArray, List.append_toArray, List.nil_append, List.cons_append])
    repeat' (first | refine go ?_ | intro _ | (apply cG; first | refine cT ?_ | refine cF ?_ | refine cS (fun _ => ?_) fun _ => ?_) | (apply gW; refine sW ?_) | (apply gI; refine sI ?_) | (apply gE; refine sE ?_) | (apply gP; refine sP ?_) | (apply gC; refine sC ?_) | (apply gD; refine sD ?_) | fail)
    refine O_d (dy_call ArgsI.pf (by first | exact rfl | trivial | (intro a b; rfl)) (Valid_ct)) ?_; rintro _ _ ⟨_, ⟨rfl, hLL⟩, rfl⟩; replace hLL := hLL.symm; subst hLL; refine O_n ?_
    rw [e1]
    repeat' (first | refine go ?_ | intro _ | (apply cG; first | refine cT ?_ | refine cF ?_ | refine cS (fun _ => ?_) fun _ => ?_) | (apply gW; refine sW ?_) | (apply gI; refine sI ?_) | (apply gE; refine sE ?_) | (apply gP; refine sP ?_) | (apply gC; refine sC ?_) | (apply gD; refine sD ?_) | fail)
    refine O_d (dy_call ArgsI.pf (by first | exact rfl | trivial | (intro a b; rfl)) (Valid_ct)) ?_; rintro _ _ ⟨_, ⟨rfl, hLL⟩, rfl⟩; replace hLL := hLL.symm; subst hLL; refine O_n ?_
    rw [e2]
    repeat' (first | refine go ?_ | intro _ | (apply cG; first | refine cT ?_ | refine cF ?_ | refine cS (fun _ => ?_) fun _ => ?_) | (apply gW; refine sW ?_) | (apply gI; refine sI ?_) | (apply gE; refine sE ?_) | (apply gP; refine sP ?_) | (apply gC; refine sC ?_) | (apply gD; refine sD ?_) | fail)
    refine E_res1 (by rfl) (by rfl) ⟨rfl, rfl⟩ Sb
  by_cases h4 : b.y0 ≤ b.y1
  · rw [if_pos ⟨h1.1, h1.2, h2.1, h2.2, h3, h4⟩]
    refine CT_enter Try.func28 rfl ?_; (simp only [Try.ntmps28, List.size_toArray, List.length_cons, List.length_nil, Nat.reduceAdd, Nat.reduceSub, Array.replicate_succ, Array.replicate_zero, List.push_toArray, List.append_toArray, List.nil_append, List.cons_append])
    repeat' (first | refine go ?_ | intro _ | (apply cG; first | refine cT ?_ | refine cF ?_ | refine cS (fun _ => ?_) fun _ => ?_) | (apply gW; refine sW ?_) | (apply gI; refine sI ?_) | (apply gE; refine sE ?_) | (apply gP; refine sP ?_) | (apply gC; refine sC ?_) | (apply gD; refine sD ?_) | fail)
    refine O_d (dy_call ArgsI.pf (by first | exact rfl | trivial | (intro a b; rfl)) (Valid_ct)) ?_; rintro _ _ ⟨_, ⟨rfl, hLL⟩, rfl⟩; replace hLL := hLL.symm; subst hLL; refine O_n ?_
    rw [e1]
    repeat' (first | refine go ?_ | intro _ | (apply cG; first | refine cT ?_ | refine cF ?_ | refine cS (fun _ => ?_) fun _ => ?_) | (apply gW; refine sW ?_) | (apply gI; refine sI ?_) | (apply gE; refine sE ?_) | (apply gP; refine sP ?_) | (apply gC; refine sC ?_) | (apply gD; refine sD ?_) | fail)
    refine O_d (dy_call ArgsI.pf (by first | exact rfl | trivial | (intro a b; rfl)) (Valid_ct)) ?_; rintro _ _ ⟨_, ⟨rfl, hLL⟩, rfl⟩; replace hLL := hLL.symm; subst hLL; refine O_n ?_
    rw [e2]
    repeat' (first | refine go ?_ | intro _ | (apply cG; first | refine cT ?_ | refine cF ?_ | refine cS (fun _ => ?_) fun _ => ?_) | (apply gW; refine sW ?_) | (apply gI; refine sI ?_) | (apply gE; refine sE ?_) | (apply gP; refine sP ?_) | (apply gC; refine sC ?_) | (apply gD; refine sD ?_) | fail)
    refine E_res1 (by rfl) (by rfl) ⟨rfl, rfl⟩ Sb
  · rw [if_neg (fun h => h4 h.2.2.2.2.2)]
    refine CT_enter Try.func28 rfl ?_; (simp only [Try.ntmps28, List.size_toArray, List.length_cons, List.length_nil, Nat.reduceAdd, Nat.reduceSub, Array.replicate_succ, Array.replicate_zero, List.push_toArray, List.append_toArray, List.nil_append, List.cons_append])
    repeat' (first | refine go ?_ | intro _ | (apply cG; first | refine cT ?_ | refine cF ?_ | refine cS (fun _ => ?_) fun _ => ?_) | (apply gW; refine sW ?_) | (apply gI; refine sI ?_) | (apply gE; refine sE ?_) | (apply gP; refine sP ?_) | (apply gC; refine sC ?_) | (apply gD; refine sD ?_) | fail)
    refine O_d (dy_call ArgsI.pf (by first | exact rfl | trivial | (intro a b; rfl)) (Valid_ct)) ?_; rintro _ _ ⟨_, ⟨rfl, hLL⟩, rfl⟩; replace hLL := hLL.symm; subst hLL; refine O_n ?_
    rw [e1]
    repeat' (first | refine go ?_ | intro _ | (apply cG; first | refine cT ?_ | refine cF ?_ | refine cS (fun _ => ?_) fun _ => ?_) | (apply gW; refine sW ?_) | (apply gI; refine sI ?_) | (apply gE; refine sE ?_) | (apply gP; refine sP ?_) | (apply gC; refine sC ?_) | (apply gD; refine sD ?_) | fail)
    refine O_d (dy_call ArgsI.pf (by first | exact rfl | trivial | (intro a b; rfl)) (Valid_ct)) ?_; rintro _ _ ⟨_, ⟨rfl, hLL⟩, rfl⟩; replace hLL := hLL.symm; subst hLL; refine O_n ?_
    rw [e2]
    repeat' (first | refine go ?_ | intro _ | (apply cG; first | refine cT ?_ | refine cF ?_ | refine cS (fun _ => ?_) fun _ => ?_) | (apply gW; refine sW ?_) | (apply gI; refine sI ?_) | (apply gE; refine sE ?_) | (apply gP; refine sP ?_) | (apply gC; refine sC ?_) | (apply gD; refine sD ?_) | fail)
    refine E_res1 (by rfl) (by rfl) ⟨rfl, rfl⟩ Sb
end
end Go.Proofs.Yteeapkfakehocaa
namespace Go.Proofs.Yteeapkfakehocaa
open Go Go.RowKit
set_option linter.unusedVariables false
set_option linter.unusedSimpArgs false
set_option maxRecDepth 20000
set_option synthInstance.maxSize 100000
set_option synthInstance.maxHeartbeats 400000
section
variable {W0 : World} {L : List HP}
theorem Good_ct {x y : Int} : CT Try.prog 59 #[.agg #[.int .i64 x, .int .i64 y]] W0 L fun r L' => r = .int .i64 (goodP x y) ∧ L' = L := by
  unfold goodP
  refine CT_enter Try.func59 rfl ?_; (simp only [Try.ntmps59, List.size_toArray, List.length_cons, List.length_nil, Nat.reduceAdd, Nat.reduceSub, Array.replicate_succ, Array.replicate_zero, List.push_toArray, List.append_toArray, List.nil_append, List.cons_append])
  repeat' (first | refine go ?_ | intro _ | (apply cG; first | refine cT ?_ | refine cF ?_ | refine cS (fun _ => ?_) fun _ => ?_) | (apply gW; refine sW ?_) | (apply gI; refine sI ?_) | (apply gE; refine sE ?_) | (apply gP; refine sP ?_) | (apply gC; refine sC ?_) | (apply gD; refine sD ?_) | fail)
  all_goals first
    | (rw [if_pos (by omega)]; refine E_res1 (by rfl) (by rfl) ⟨rfl, rfl⟩ Sb)
    | (rw [if_neg (by omega)]; refine E_res1 (by rfl) (by rfl) ⟨rfl, rfl⟩ Sb)
theorem GoodBox_ct {b : BX} : CT Try.prog 37 #[bxV b] W0 L fun r L' => r = .int .i64 (goodBF b) ∧ L' = L := by
  unfold goodBF
  by_cases h1 : inG b.x0 ∧ inG b.y0
  rotate_left
  · have e1 : goodP b.x0 b.y0 = 5 := if_neg h1
    rw [if_neg (fun h => h1 ⟨h.1, h.2.1⟩)]
    refine CT_enter Try.func37 rfl ?_; (simp only [Try.ntmps37, List.size_toArray, List.length_cons, List.length_nil, Nat.reduceAdd, Nat.reduceSub, Array.replicate_succ, Array.replicate_zero, List.push_toArray, List.append_toArray, List.nil_append, List.cons_append])
    repeat' (first | refine go ?_ | intro _ | (apply cG; first | refine cT ?_ | refine cF ?_ | refine cS (fun _ => ?_) fun _ => ?_) | (apply gW; refine sW ?_) | (apply gI; refine sI ?_) | (apply gE; refine sE ?_) | (apply gP; refine sP ?_) | (apply gC; refine sC ?_) | (apply gD; refine sD ?_) | fail)
    refine O_d (dy_call ArgsI.pf (by first | exact rfl | trivial | (intro a b; rfl)) (Good_ct)) ?_; rintro _ _ ⟨_, ⟨rfl, hLL⟩, rfl⟩; replace hLL := hLL.symm; subst hLL; refine O_n ?_
    rw [e1]
    repeat' (first | refine go ?_ | intro _ | (apply cG; first | refine cT ?_ | refine cF ?_ | refine cS (fun _ => ?_) fun _ => ?_) | (apply gW; refine sW ?_) | (apply gI; refine sI ?_) | (apply gE; refine sE ?_) | (apply gP; refine sP ?_) | (apply gC; refine sC ?_) | (apply gD; refine sD ?_) | fail)
    refine E_res1 (by rfl) (by rfl) ⟨rfl, rfl⟩ Sb
  have e1 : goodP b.x0 b.y0 = 0 := if_pos h1
  by_cases h2 : inG b.x1 ∧ inG b.y1
  rotate_left
  · have e2 : goodP b.x1 b.y1 = 5 := if_neg h2
    rw [if_neg (fun h => h2 ⟨h.2.2.1, h.2.2.2.1⟩)]
    refine CT_enter Try.func37 rfl ?_; (simp only [Try.ntmps37, List.size_toArray, List.length_cons, List.length_nil, Nat.reduceAdd, Nat.reduceSub, Array.replicate_succ, Array.replicate_zero, List.push_toArray, List.append_toArray, List.nil_append, List.cons_append])
    repeat' (first | refine go ?_ | intro _ | (apply cG; first | refine cT ?_ | refine cF ?_ | refine cS (fun _ => ?_) fun _ => ?_) | (apply gW; refine sW ?_) | (apply gI; refine sI ?_) | (apply gE; refine sE ?_) | (apply gP; refine sP ?_) | (apply gC; refine sC ?_) | (apply gD; refine sD ?_) | fail)
    refine O_d (dy_call ArgsI.pf (by first | exact rfl | trivial | (intro a b; rfl)) (Good_ct)) ?_; rintro _ _ ⟨_, ⟨rfl, hLL⟩, rfl⟩; replace hLL := hLL.symm; subst hLL; refine O_n ?_
    rw [e1]
    repeat' (first | refine go ?_ | intro _ | (apply cG; first | refine cT ?_ | refine cF ?_ | refine cS (fun _ => ?_) fun _ => ?_) | (apply gW; refine sW ?_) | (apply gI; refine sI ?_) | (apply gE; refine sE ?_) | (apply gP; refine sP ?_) | (apply gC; refine sC ?_) | (apply gD; refine sD ?_) | fail)
    refine O_d (dy_call ArgsI.pf (by first | exact rfl | trivial | (intro a b; rfl)) (Good_ct)) ?_; rintro _ _ ⟨_, ⟨rfl, hLL⟩, rfl⟩; replace hLL := hLL.symm; subst hLL; refine O_n ?_
    rw [e2]
    repeat' (first | refine go ?_ | intro _ | (apply cG; first | refine cT ?_ | refine cF ?_ | refine cS (fun _ => ?_) fun _ => ?_) | (apply gW; refine sW ?_) | (apply gI; refine sI ?_) | (apply gE; refine sE ?_) | (apply gP; refine sP ?_) | (apply gC; refine sC ?_) | (apply gD; refine sD ?_) | fail)
    refine E_res1 (by rfl) (by rfl) ⟨rfl, rfl⟩ Sb
  have e2 : goodP b.x1 b.y1 = 0 := if_pos h2
  refine CT_enter Try.func37 rfl ?_; (simp only [Try.ntmps37, List.size_toArray, List.length_cons, List.length_nil, Nat.reduceAdd, Nat.reduceSub, Array.replicate_succ, Array.replicate_zero, List.push_toArray, List.append_toArray, List.nil_append, List.cons_append])
  repeat' (first | refine go ?_ | intro _ | (apply cG; first | refine cT ?_ | refine cF ?_ | refine cS (fun _ => ?_) fun _ => ?_) | (apply gW; refine sW ?_) | (apply gI; refine sI ?_) | (apply gE; refine sE ?_) | (apply gP; refine sP ?_) | (apply gC; refine sC ?_) | (apply gD; refine sD ?_) | fail)
  refine O_d (dy_call ArgsI.pf (by first | exact rfl | trivial | (intro a b; rfl)) (Good_ct)) ?_; rintro _ _ ⟨_, ⟨rfl, hLL⟩, rfl⟩; replace hLL := hLL.symm; subst hLL; refine O_n ?_
  rw [e1]
  repeat' (first | refine go ?_ | intro _ | (apply cG; first | refine cT ?_ | refine cF ?_ | refine cS (fun _ => ?_) fun _ => ?_) | (apply gW; refine sW ?_) | (apply gI; refine sI ?_) | (apply gE; refine sE ?_) | (apply gP; refine sP ?_) | (apply gC; refine sC ?_) | (apply gD; refine sD ?_) | fail)
  refine O_d (dy_call ArgsI.pf (by first | exact rfl | trivial | (intro a b; rfl)) (Good_ct)) ?_; rintro _ _ ⟨_, ⟨rfl, hLL⟩, rfl⟩; replace hLL := hLL.symm; subst hLL; refine O_n ?_
  rw [e2]
  repeat' (first | refine go ?_ | intro _ | (apply cG; first | refine cT ?_ | refine cF ?_ | refine cS (fun _ => ?_) fun _ => ?_) | (apply gW; refine sW ?_) | (apply gI; refine sI ?_) | (apply gE; refine sE ?_) | (apply gP; refine sP ?_) | (apply gC; refine sC ?_) | (apply gD; refine sD ?_) | fail)
  all_goals first
    | (rw [if_pos (by dsimp only [BX.good]; omega)]; refine E_res1 (by rfl) (by rfl) ⟨rfl, rfl⟩ Sb)
    | (rw [if_neg (by dsimp only [BX.good]; omega)]; refine E_res1 (by rfl) (by rfl) ⟨rfl, rfl⟩ Sb)
abbrev akV (a : AK) : Value := .agg #[.int .i64 a.x, .int .i64 a.y, .int .i64 a.w, .int .i64 a.h, .int .i64 a.g]
theorem rgood_ct {a : AK} {q : Bool} (hq : decide a.good = q) : CT Try.prog 36 #[akV a] W0 L fun r L' => r = .bool q ∧ L' = L := by
  by_cases h1 : inG a.x ∧ inG a.y
  rotate_left
  · have e1 : goodP a.x a.y = 5 := if_neg h1
    obtain rfl : q = false := by rw [← hq]; exact decide_eq_false fun h => h1 ⟨h.1, h.2.1⟩
    refine CT_enter Try.func36 rfl ?_; (simp only [Try.ntmps36, List.size_toArray, List.length_cons, List.length_nil, Nat.reduceAdd, Nat.reduceSub, Array.replicate_succ, Array.replicate_zero, List.push_toArray, List.append_toArray, List.nil_append, List.cons_append])
    repeat' (first | refine go ?_ | intro _ | (apply cG; first | refine cT ?_ | refine cF ?_ | refine cS (fun _ => ?_) fun _ => ?_) | (apply gW; refine sW ?_) | (apply gI; refine sI ?_) | (apply gE; refine sE ?_) | (apply gP; refine sP ?_) | (apply gC; refine sC ?_) | (apply gD; refine sD ?_) | fail)
    refine O_d (dy_call ArgsI.pf (by first | exact rfl | trivial | (intro a b; rfl)) (Good_ct)) ?_; rintro _ _ ⟨_, ⟨rfl, hLL⟩, rfl⟩; replace hLL := hLL.symm; subst hLL; refine O_n ?_
    rw [e1]
    repeat' (first | refine go ?_ | intro _ | (apply cG; first | refine cT ?_ | refine cF ?_ | refine cS (fun _ => ?_) fun _ => ?_) | (apply gW; refine sW ?_) | (apply gI; refine sI ?_) | (apply gE; refine sE ?_) | (apply gP; refine sP ?_) | (apply gC; refine sC ?_) | (apply gD; refine sD ?_) | fail)
    refine E_res1 (by rfl) (by rfl) ⟨rfl, rfl⟩ Sb
  have e1 : goodP a.x a.y = 0 := if_pos h1
  dsimp only [AK.good] at hq
  cases q
  · have hn := of_decide_eq_false hq
    refine CT_enter Try.func36 rfl ?_; (simp only [Try.ntmps36, List.size_toArray, List.length_cons, List.length_nil, Nat.reduceAdd, Nat.reduceSub, Array.replicate_succ, Array.replicate_zero, List.push_toArray, List.append_toArray, List.nil_append, List.cons_append])
    repeat' (first | refine go ?_ | intro _ | (apply cG; first | refine cT ?_ | refine cF ?_ | refine cS (fun _ => ?_) fun _ => ?_) | (apply gW; refine sW ?_) | (apply gI; refine sI ?_) | (apply gE; refine sE ?_) | (apply gP; refine sP ?_) | (apply gC; refine sC ?_) | (apply gD; refine sD ?_) | fail)
    refine O_d (dy_call ArgsI.pf (by first | exact rfl | trivial | (intro a b; rfl)) (Good_ct)) ?_; rintro _ _ ⟨_, ⟨rfl, hLL⟩, rfl⟩; replace hLL := hLL.symm; subst hLL; refine O_n ?_
    rw [e1]
    repeat' (first | refine go ?_ | intro _ | (apply cG; first | refine cT ?_ | refine cF ?_ | refine cS (fun _ => ?_) fun _ => ?_) | (apply gW; refine sW ?_) | (apply gI; refine sI ?_) | (apply gE; refine sE ?_) | (apply gP; refine sP ?_) | (apply gC; refine sC ?_) | (apply gD; refine sD ?_) | fail)
    all_goals first
      | (refine E_res1 (by rfl) (by rfl) ⟨rfl, rfl⟩ Sb; done)
      | (exfalso; omega)
  · have hn := of_decide_eq_true hq
    obtain ⟨hx, hy, hw, hh, hg⟩ := hn
    refine CT_enter Try.func36 rfl ?_; (simp only [Try.ntmps36, List.size_toArray, List.length_cons, List.length_nil, Nat.reduceAdd, Nat.reduceSub, Array.replicate_succ, Array.replicate_zero, List.push_toArray, List.append_toArray, List.nil_append, List.cons_append])
    repeat' (first | refine go ?_ | intro _ | (apply cG; first | refine cT ?_ | refine cF ?_ | refine cS (fun _ => ?_) fun _ => ?_) | (apply gW; refine sW ?_) | (apply gI; refine sI ?_) | (apply gE; refine sE ?_) | (apply gP; refine sP ?_) | (apply gC; refine sC ?_) | (apply gD; refine sD ?_) | fail)
    refine O_d (dy_call ArgsI.pf (by first | exact rfl | trivial | (intro a b; rfl)) (Good_ct)) ?_; rintro _ _ ⟨_, ⟨rfl, hLL⟩, rfl⟩; replace hLL := hLL.symm; subst hLL; refine O_n ?_
    rw [e1]
    repeat' (first | refine go ?_ | intro _ | (apply cG; first | refine cT ?_ | refine cF ?_ | refine cS (fun _ => ?_) fun _ => ?_) | (apply gW; refine sW ?_) | (apply gI; refine sI ?_) | (apply gE; refine sE ?_) | (apply gP; refine sP ?_) | (apply gC; refine sC ?_) | (apply gD; refine sD ?_) | fail)
    refine E_res1 (by rfl) (by rfl) ⟨rfl, rfl⟩ Sb
end
end Go.Proofs.Yteeapkfakehocaa
