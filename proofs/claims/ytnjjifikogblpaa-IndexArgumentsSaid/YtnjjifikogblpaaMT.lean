/-
  The reference of the index: boxes, blocks.
-/
import Derived.Test.YtnjjifikogblpaaMS
import Derived.Test.YtnjjifikogblpaaMJ
import Derived.Test.YtnjjifikogblpaaMC
namespace Go.Proofs.Ytnjjifikogblpaa
open Go Go.RowKit
set_option linter.unusedVariables false
set_option linter.unusedSimpArgs false
set_option maxRecDepth 20000
set_option synthInstance.maxSize 100000
set_option synthInstance.maxHeartbeats 400000
section
variable {P : Program} {t : TypeId}
theorem eqF_consR {n : Nat} {xs ys : Array Value} {f : Field} {fs : List Field} {v v' : Value} {w : World} {b r : Bool} (hn : f.name ≠ "_") (ha : (part f.type xs f.offset).run P w = .ok v w) (hb : (part f.type ys f.offset).run P w = .ok v' w) (he : (Op.equalIn n f.type v v').run P w = .ok b w) (h : (Op.eqFields n xs ys fs).run P w = .ok r w) :
    (Op.eqFields n xs ys (f :: fs)).run P w = .ok (b && r) w := by
  cases b with
  | false => simp only [Op.eqFields, if_pos hn, Sem.run_bind, ha, hb, he, Result.andThen_ok, Bool.not_false, if_true, Bool.false_and]; rfl
  | true =>
    simp only [Op.eqFields, if_pos hn, Sem.run_bind, ha, hb, he, Result.andThen_ok, Bool.not_true, Bool.false_eq_true, if_false, Bool.true_and]
    exact h
theorem eqA_ofR {n : Nat} {xs ys : Array Value} {w : World} {fs : Array Field} {r : Bool} (hu : P.underlying t = some (.struct fs)) (hp : P.stoodInHeld t = false) (h : (Op.eqFields n xs ys fs.toList).run P w = .ok r w) : (Op.equalIn (n + 1) t (.agg xs) (.agg ys)).run P w = .ok r w := by
  have hf : P.fieldsOf t = fs := by unfold Program.fieldsOf; rw [hu]
  rw [run_equalIn_agg w n t xs ys (by rw [hf]; exact hu) hp, hf]
  exact h
end
/-- a block as a value -/
abbrev blV (x : Blk) : Value := bkV x.1 x.2.1 x.2.2
theorem eq_bk (x y : Blk) (w : World) : (Op.equalIn 10000 88 (blV x) (blV y)).run Try.prog w = .ok (decide (x = y)) w := by
  have h : (Op.equalIn 10000 88 (blV x) (blV y)).run Try.prog w = .ok (((x.1 : Int) == (y.1 : Int)) && (((x.2.1 : Int) == (y.2.1 : Int)) && (((x.2.2 : Int) == (y.2.2 : Int)) && true))) w :=
    eqA_ofR Try.underlying88 (by kernel_rfl) (eqF_consR (v := .int .i64 (x.1 : Int)) (v' := .int .i64 (y.1 : Int)) (by decide) (by kernel_rfl) (by kernel_rfl) (run_equalIn_int w 9998 _ _ _ _ _ Try.underlying3) (eqF_consR (v := .int .i64 (x.2.1 : Int)) (v' := .int .i64 (y.2.1 : Int)) (by decide) (by kernel_rfl) (by kernel_rfl) (run_equalIn_int w 9998 _ _ _ _ _ Try.underlying3) (eqF_consR (v := .int .i64 (x.2.2 : Int)) (v' := .int .i64 (y.2.2 : Int)) (by decide) (by kernel_rfl) (by kernel_rfl) (run_equalIn_int w 9998 _ _ _ _ _ Try.underlying3) eqF_nil)))
  rw [h]
  congr 1
  obtain ⟨a, b, c⟩ := x
  obtain ⟨a', b', c'⟩ := y
  by_cases h1 : a = a' <;> by_cases h2 : b = b' <;> by_cases h3 : c = c' <;> simp [h1, h2, h3] <;> omega
def inF (n lo hi : Int) : Bool := decide (lo ≤ n ∧ n ≤ hi)
section
variable {W0 : World} {L : List HP}
theorem rwithin_ct {n lo hi : Int} : CT Try.prog 38 #[.int .i64 n, .int .i64 lo, .int .i64 hi] W0 L fun r L' => r = .bool (inF n lo hi) ∧ L' = L := by
  unfold inF
  by_cases h1 : lo ≤ n
  rotate_left
  · rw [decide_eq_false (fun h => h1 h.1)]
    refine CT_enter Try.func38 rfl ?_; (simp only [Try.ntmps38, List.size_toArray, List.length_cons, List.length_nil, Nat.reduceAdd, Nat.reduceSub, Array.replicate_succ, Array.replicate_zero, List.push_toArray, List.append_toArray, List.nil_append, List.cons_append])
    repeat' (first | refine go ?_ | intro _ | (apply cG; first | refine cT ?_ | refine cF ?_ | refine cS (fun _ => ?_) fun _ => ?_) | (apply gW; refine sW ?_) | (apply gI; refine sI ?_) | (apply gE; refine sE ?_) | (apply gP; refine sP ?_) | (apply gC; refine sC ?_) | (apply gD; refine sD ?_) | fail)
    refine E_res1 (by rfl) (by rfl) ⟨rfl, rfl⟩ Sb
  by_cases h2 : n ≤ hi
  · rw [decide_eq_true ⟨h1, h2⟩]
    refine CT_enter Try.func38 rfl ?_; (simp only [Try.ntmps38, List.size_toArray, List.length_cons, List.length_nil, Nat.reduceAdd, Nat.reduceSub, Array.replicate_succ, Array.replicate_zero, List.push_toArray, List.append_toArray, List.nil_append, List.cons_append])
    repeat' (first | refine go ?_ | intro _ | (apply cG; first | refine cT ?_ | refine cF ?_ | refine cS (fun _ => ?_) fun _ => ?_) | (apply gW; refine sW ?_) | (apply gI; refine sI ?_) | (apply gE; refine sE ?_) | (apply gP; refine sP ?_) | (apply gC; refine sC ?_) | (apply gD; refine sD ?_) | fail)
    refine E_res1 (by rfl) (by rfl) ⟨rfl, rfl⟩ Sb
  · rw [decide_eq_false (fun h => h2 h.2)]
    refine CT_enter Try.func38 rfl ?_; (simp only [Try.ntmps38, List.size_toArray, List.length_cons, List.length_nil, Nat.reduceAdd, Nat.reduceSub, Array.replicate_succ, Array.replicate_zero, List.push_toArray, List.append_toArray, List.nil_append, List.cons_append])
    repeat' (first | refine go ?_ | intro _ | (apply cG; first | refine cT ?_ | refine cF ?_ | refine cS (fun _ => ?_) fun _ => ?_) | (apply gW; refine sW ?_) | (apply gI; refine sI ?_) | (apply gE; refine sE ?_) | (apply gP; refine sP ?_) | (apply gC; refine sC ?_) | (apply gD; refine sD ?_) | fail)
    refine E_res1 (by rfl) (by rfl) ⟨rfl, rfl⟩ Sb
theorem rValid_ct {b : BX} : CT Try.prog 37 #[bxV b] W0 L fun r L' => r = .bool (decide b.good) ∧ L' = L := by
  cases h1 : inF b.x0 (-1073741824) 1073741824 with
  | false =>
    rw [decide_eq_false (fun h => of_decide_eq_false h1 h.1)]
    refine CT_enter Try.func37 rfl ?_; (simp only [Try.ntmps37, List.size_toArray, List.length_cons, List.length_nil, Nat.reduceAdd, Nat.reduceSub, Array.replicate_succ, Array.replicate_zero, List.push_toArray, List.append_toArray, List.nil_append, List.cons_append])
    repeat' (first | refine go ?_ | intro _ | (apply cG; first | refine cT ?_ | refine cF ?_ | refine cS (fun _ => ?_) fun _ => ?_) | (apply gW; refine sW ?_) | (apply gI; refine sI ?_) | (apply gE; refine sE ?_) | (apply gP; refine sP ?_) | (apply gC; refine sC ?_) | (apply gD; refine sD ?_) | fail)
    refine O_d (dy_call ArgsI.pf (by first | exact rfl | trivial | (intro a b; rfl)) (rwithin_ct)) ?_; rintro _ _ ⟨_, ⟨rfl, hLL⟩, rfl⟩; replace hLL := hLL.symm; subst hLL; refine O_n ?_
    rw [h1]
    repeat' (first | refine go ?_ | intro _ | (apply cG; first | refine cT ?_ | refine cF ?_ | refine cS (fun _ => ?_) fun _ => ?_) | (apply gW; refine sW ?_) | (apply gI; refine sI ?_) | (apply gE; refine sE ?_) | (apply gP; refine sP ?_) | (apply gC; refine sC ?_) | (apply gD; refine sD ?_) | fail)
    refine E_res1 (by rfl) (by rfl) ⟨rfl, rfl⟩ Sb
  | true =>
  cases h2 : inF b.y0 (-1073741824) 1073741824 with
  | false =>
    rw [decide_eq_false (fun h => of_decide_eq_false h2 h.2.1)]
    refine CT_enter Try.func37 rfl ?_; (simp only [Try.ntmps37, List.size_toArray, List.length_cons, List.length_nil, Nat.reduceAdd, Nat.reduceSub, Array.replicate_succ, Array.replicate_zero, List.push_toArray, List.append_toArray, List.nil_append, List.cons_append])
    repeat' (first | refine go ?_ | intro _ | (apply cG; first | refine cT ?_ | refine cF ?_ | refine cS (fun _ => ?_) fun _ => ?_) | (apply gW; refine sW ?_) | (apply gI; refine sI ?_) | (apply gE; refine sE ?_) | (apply gP; refine sP ?_) | (apply gC; refine sC ?_) | (apply gD; refine sD ?_) | fail)
    refine O_d (dy_call ArgsI.pf (by first | exact rfl | trivial | (intro a b; rfl)) (rwithin_ct)) ?_; rintro _ _ ⟨_, ⟨rfl, hLL⟩, rfl⟩; replace hLL := hLL.symm; subst hLL; refine O_n ?_
    rw [h1]
    repeat' (first | refine go ?_ | intro _ | (apply cG; first | refine cT ?_ | refine cF ?_ | refine cS (fun _ => ?_) fun _ => ?_) | (apply gW; refine sW ?_) | (apply gI; refine sI ?_) | (apply gE; refine sE ?_) | (apply gP; refine sP ?_) | (apply gC; refine sC ?_) | (apply gD; refine sD ?_) | fail)
    refine O_d (dy_call ArgsI.pf (by first | exact rfl | trivial | (intro a b; rfl)) (rwithin_ct)) ?_; rintro _ _ ⟨_, ⟨rfl, hLL⟩, rfl⟩; replace hLL := hLL.symm; subst hLL; refine O_n ?_
    rw [h2]
    repeat' (first | refine go ?_ | intro _ | (apply cG; first | refine cT ?_ | refine cF ?_ | refine cS (fun _ => ?_) fun _ => ?_) | (apply gW; refine sW ?_) | (apply gI; refine sI ?_) | (apply gE; refine sE ?_) | (apply gP; refine sP ?_) | (apply gC; refine sC ?_) | (apply gD; refine sD ?_) | fail)
    refine E_res1 (by rfl) (by rfl) ⟨rfl, rfl⟩ Sb
  | true =>
  cases h3 : inF b.x1 b.x0 1073741824 with
  | false =>
    rw [decide_eq_false (fun h => of_decide_eq_false h3 ⟨h.2.2.2.2.1, h.2.2.1.2⟩)]
    refine CT_enter Try.func37 rfl ?_; (simp only [Try.ntmps37, List.size_toArray, List.length_cons, List.length_nil, Nat.reduceAdd, Nat.reduceSub, Array.replicate_succ, Array.replicate_zero, List.push_toArray, List.append_toArray, List.nil_append, List.cons_append])
    repeat' (first | refine go ?_ | intro _ | (apply cG; first | refine cT ?_ | refine cF ?_ | refine cS (fun _ => ?_) fun _ => ?_) | (apply gW; refine sW ?_) | (apply gI; refine sI ?_) | (apply gE; refine sE ?_) | (apply gP; refine sP ?_) | (apply gC; refine sC ?_) | (apply gD; refine sD ?_) | fail)
    refine O_d (dy_call ArgsI.pf (by first | exact rfl | trivial | (intro a b; rfl)) (rwithin_ct)) ?_; rintro _ _ ⟨_, ⟨rfl, hLL⟩, rfl⟩; replace hLL := hLL.symm; subst hLL; refine O_n ?_
    rw [h1]
    repeat' (first | refine go ?_ | intro _ | (apply cG; first | refine cT ?_ | refine cF ?_ | refine cS (fun _ => ?_) fun _ => ?_) | (apply gW; refine sW ?_) | (apply gI; refine sI ?_) | (apply gE; refine sE ?_) | (apply gP; refine sP ?_) | (apply gC; refine sC ?_) | (apply gD; refine sD ?_) | fail)
    refine O_d (dy_call ArgsI.pf (by first | exact rfl | trivial | (intro a b; rfl)) (rwithin_ct)) ?_; rintro _ _ ⟨_, ⟨rfl, hLL⟩, rfl⟩; replace hLL := hLL.symm; subst hLL; refine O_n ?_
    rw [h2]
    repeat' (first | refine go ?_ | intro _ | (apply cG; first | refine cT ?_ | refine cF ?_ | refine cS (fun _ => ?_) fun _ => ?_) | (apply gW; refine sW ?_) | (apply gI; refine sI ?_) | (apply gE; refine sE ?_) | (apply gP; refine sP ?_) | (apply gC; refine sC ?_) | (apply gD; refine sD ?_) | fail)
    refine O_d (dy_call ArgsI.pf (by first | exact rfl | trivial | (intro a b; rfl)) (rwithin_ct)) ?_; rintro _ _ ⟨_, ⟨rfl, hLL⟩, rfl⟩; replace hLL := hLL.symm; subst hLL; refine O_n ?_
    rw [h3]
    repeat' (first | refine go ?_ | intro _ | (apply cG; first | refine cT ?_ | refine cF ?_ | refine cS (fun _ => ?_) fun _ => ?_) | (apply gW; refine sW ?_) | (apply gI; refine sI ?_) | (apply gE; refine sE ?_) | (apply gP; refine sP ?_) | (apply gC; refine sC ?_) | (apply gD; refine sD ?_) | fail)
    refine E_res1 (by rfl) (by rfl) ⟨rfl, rfl⟩ Sb
  | true =>
  cases h4 : inF b.y1 b.y0 1073741824 with
  | false =>
    rw [decide_eq_false (fun h => of_decide_eq_false h4 ⟨h.2.2.2.2.2, h.2.2.2.1.2⟩)]
    refine CT_enter Try.func37 rfl ?_; (simp only [Try.ntmps37, List.size_toArray, List.length_cons, List.length_nil, Nat.reduceAdd, Nat.reduceSub, Array.replicate_succ, Array.replicate_zero, List.push_toArray, List.append_toArray, List.nil_append, List.cons_append])
    repeat' (first | refine go ?_ | intro _ | (apply cG; first | refine cT ?_ | refine cF ?_ | refine cS (fun _ => ?_) fun _ => ?_) | (apply gW; refine sW ?_) | (apply gI; refine sI ?_) | (apply gE; refine sE ?_) | (apply gP; refine sP ?_) | (apply gC; refine sC ?_) | (apply gD; refine sD ?_) | fail)
    refine O_d (dy_call ArgsI.pf (by first | exact rfl | trivial | (intro a b; rfl)) (rwithin_ct)) ?_; rintro _ _ ⟨_, ⟨rfl, hLL⟩, rfl⟩; replace hLL := hLL.symm; subst hLL; refine O_n ?_
    rw [h1]
    repeat' (first | refine go ?_ | intro _ | (apply cG; first | refine cT ?_ | refine cF ?_ | refine cS (fun _ => ?_) fun _ => ?_) | (apply gW; refine sW ?_) | (apply gI; refine sI ?_) | (apply gE; refine sE ?_) | (apply gP; refine sP ?_) | (apply gC; refine sC ?_) | (apply gD; refine sD ?_) | fail)
    refine O_d (dy_call ArgsI.pf (by first | exact rfl | trivial | (intro a b; rfl)) (rwithin_ct)) ?_; rintro _ _ ⟨_, ⟨rfl, hLL⟩, rfl⟩; replace hLL := hLL.symm; subst hLL; refine O_n ?_
    rw [h2]
    repeat' (first | refine go ?_ | intro _ | (apply cG; first | refine cT ?_ | refine cF ?_ | refine cS (fun _ => ?_) fun _ => ?_) | (apply gW; refine sW ?_) | (apply gI; refine sI ?_) | (apply gE; refine sE ?_) | (apply gP; refine sP ?_) | (apply gC; refine sC ?_) | (apply gD; refine sD ?_) | fail)
    refine O_d (dy_call ArgsI.pf (by first | exact rfl | trivial | (intro a b; rfl)) (rwithin_ct)) ?_; rintro _ _ ⟨_, ⟨rfl, hLL⟩, rfl⟩; replace hLL := hLL.symm; subst hLL; refine O_n ?_
    rw [h3]
    repeat' (first | refine go ?_ | intro _ | (apply cG; first | refine cT ?_ | refine cF ?_ | refine cS (fun _ => ?_) fun _ => ?_) | (apply gW; refine sW ?_) | (apply gI; refine sI ?_) | (apply gE; refine sE ?_) | (apply gP; refine sP ?_) | (apply gC; refine sC ?_) | (apply gD; refine sD ?_) | fail)
    refine O_d (dy_call ArgsI.pf (by first | exact rfl | trivial | (intro a b; rfl)) (rwithin_ct)) ?_; rintro _ _ ⟨_, ⟨rfl, hLL⟩, rfl⟩; replace hLL := hLL.symm; subst hLL; refine O_n ?_
    rw [h4]
    repeat' (first | refine go ?_ | intro _ | (apply cG; first | refine cT ?_ | refine cF ?_ | refine cS (fun _ => ?_) fun _ => ?_) | (apply gW; refine sW ?_) | (apply gI; refine sI ?_) | (apply gE; refine sE ?_) | (apply gP; refine sP ?_) | (apply gC; refine sC ?_) | (apply gD; refine sD ?_) | fail)
    refine E_res1 (by rfl) (by rfl) ⟨rfl, rfl⟩ Sb
  | true =>
  have hg : b.good := by
    have g1 := of_decide_eq_true h1
    have g2 := of_decide_eq_true h2
    have g3 := of_decide_eq_true h3
    have g4 := of_decide_eq_true h4
    exact ⟨g1, g2, ⟨by omega, g3.2⟩, ⟨by omega, g4.2⟩, g3.1, g4.1⟩
  rw [decide_eq_true hg]
  refine CT_enter Try.func37 rfl ?_; (simp only [Try.ntmps37, List.size_toArray, List.length_cons, List.length_nil, Nat.reduceAdd, Nat.reduceSub, Array.replicate_succ, Array.replicate_zero, List.push_toArray, List.append_toArray, List.nil_append, List.cons_append])
  repeat' (first | refine go ?_ | intro _ | (apply cG; first | refine cT ?_ | refine cF ?_ | refine cS (fun _ => ?_) fun _ => ?_) | (apply gW; refine sW ?_) | (apply gI; refine sI ?_) | (apply gE; refine sE ?_) | (apply gP; refine sP ?_) | (apply gC; refine sC ?_) | (apply gD; refine sD ?_) | fail)
  refine O_d (dy_call ArgsI.pf (by first | exact rfl | trivial | (intro a b; rfl)) (rwithin_ct)) ?_; rintro _ _ ⟨_, ⟨rfl, hLL⟩, rfl⟩; replace hLL := hLL.symm; subst hLL; refine O_n ?_
  rw [h1]
  repeat' (first | refine go ?_ | intro _ | (apply cG; first | refine cT ?_ | refine cF ?_ | refine cS (fun _ => ?_) fun _ => ?_) | (apply gW; refine sW ?_) | (apply gI; refine sI ?_) | (apply gE; refine sE ?_) | (apply gP; refine sP ?_) | (apply gC; refine sC ?_) | (apply gD; refine sD ?_) | fail)
  refine O_d (dy_call ArgsI.pf (by first | exact rfl | trivial | (intro a b; rfl)) (rwithin_ct)) ?_; rintro _ _ ⟨_, ⟨rfl, hLL⟩, rfl⟩; replace hLL := hLL.symm; subst hLL; refine O_n ?_
  rw [h2]
  repeat' (first | refine go ?_ | intro _ | (apply cG; first | refine cT ?_ | refine cF ?_ | refine cS (fun _ => ?_) fun _ => ?_) | (apply gW; refine sW ?_) | (apply gI; refine sI ?_) | (apply gE; refine sE ?_) | (apply gP; refine sP ?_) | (apply gC; refine sC ?_) | (apply gD; refine sD ?_) | fail)
  refine O_d (dy_call ArgsI.pf (by first | exact rfl | trivial | (intro a b; rfl)) (rwithin_ct)) ?_; rintro _ _ ⟨_, ⟨rfl, hLL⟩, rfl⟩; replace hLL := hLL.symm; subst hLL; refine O_n ?_
  rw [h3]
  repeat' (first | refine go ?_ | intro _ | (apply cG; first | refine cT ?_ | refine cF ?_ | refine cS (fun _ => ?_) fun _ => ?_) | (apply gW; refine sW ?_) | (apply gI; refine sI ?_) | (apply gE; refine sE ?_) | (apply gP; refine sP ?_) | (apply gC; refine sC ?_) | (apply gD; refine sD ?_) | fail)
  refine O_d (dy_call ArgsI.pf (by first | exact rfl | trivial | (intro a b; rfl)) (rwithin_ct)) ?_; rintro _ _ ⟨_, ⟨rfl, hLL⟩, rfl⟩; replace hLL := hLL.symm; subst hLL; refine O_n ?_
  rw [h4]
  repeat' (first | refine go ?_ | intro _ | (apply cG; first | refine cT ?_ | refine cF ?_ | refine cS (fun _ => ?_) fun _ => ?_) | (apply gW; refine sW ?_) | (apply gI; refine sI ?_) | (apply gE; refine sE ?_) | (apply gP; refine sP ?_) | (apply gC; refine sC ?_) | (apply gD; refine sD ?_) | fail)
  refine E_res1 (by rfl) (by rfl) ⟨rfl, rfl⟩ Sb
theorem rMeets_ct {a c : BX} : CT Try.prog 39 #[bxV a, bxV c] W0 L fun r L' => r = .bool (meetF a c) ∧ L' = L := by
  unfold meetF
  by_cases h1 : a.x0 ≤ c.x1
  rotate_left
  · rw [decide_eq_false (fun h => h1 h.1)]
    refine CT_enter Try.func39 rfl ?_; (simp only [Try.ntmps39, List.size_toArray, List.length_cons, List.length_nil, Nat.reduceAdd, Nat.reduceSub, Array.replicate_succ, Array.replicate_zero, List.push_toArray, List.append_toArray, List.nil_append, List.cons_append])
    repeat' (first | refine go ?_ | intro _ | (apply cG; first | refine cT ?_ | refine cF ?_ | refine cS (fun _ => ?_) fun _ => ?_) | (apply gW; refine sW ?_) | (apply gI; refine sI ?_) | (apply gE; refine sE ?_) | (apply gP; refine sP ?_) | (apply gC; refine sC ?_) | (apply gD; refine sD ?_) | fail)
    refine E_res1 (by rfl) (by rfl) ⟨rfl, rfl⟩ Sb
  by_cases h2 : c.x0 ≤ a.x1
  rotate_left
  · rw [decide_eq_false (fun h => h2 h.2.1)]
    refine CT_enter Try.func39 rfl ?_; (simp only [Try.ntmps39, List.size_toArray, List.length_cons, List.length_nil, Nat.reduceAdd, Nat.reduceSub, Array.replicate_succ, Array.replicate_zero, List.push_toArray, List.append_toArray, List.nil_append, List.cons_append])
    repeat' (first | refine go ?_ | intro _ | (apply cG; first | refine cT ?_ | refine cF ?_ | refine cS (fun _ => ?_) fun _ => ?_) | (apply gW; refine sW ?_) | (apply gI; refine sI ?_) | (apply gE; refine sE ?_) | (apply gP; refine sP ?_) | (apply gC; refine sC ?_) | (apply gD; refine sD ?_) | fail)
    refine E_res1 (by rfl) (by rfl) ⟨rfl, rfl⟩ Sb
  by_cases h3 : a.y0 ≤ c.y1
  rotate_left
  · rw [decide_eq_false (fun h => h3 h.2.2.1)]
    refine CT_enter Try.func39 rfl ?_; (simp only [Try.ntmps39, List.size_toArray, List.length_cons, List.length_nil, Nat.reduceAdd, Nat.reduceSub, Array.replicate_succ, Array.replicate_zero, List.push_toArray, List.append_toArray, List.nil_append, List.cons_append])
    repeat' (first | refine go ?_ | intro _ | (apply cG; first | refine cT ?_ | refine cF ?_ | refine cS (fun _ => ?_) fun _ => ?_) | (apply gW; refine sW ?_) | (apply gI; refine sI ?_) | (apply gE; refine sE ?_) | (apply gP; refine sP ?_) | (apply gC; refine sC ?_) | (apply gD; refine sD ?_) | fail)
    refine E_res1 (by rfl) (by rfl) ⟨rfl, rfl⟩ Sb
  by_cases h4 : c.y0 ≤ a.y1
  rotate_left
  · rw [decide_eq_false (fun h => h4 h.2.2.2)]
    refine CT_enter Try.func39 rfl ?_; (simp only [Try.ntmps39, List.size_toArray, List.length_cons, List.length_nil, Nat.reduceAdd, Nat.reduceSub, Array.replicate_succ, Array.replicate_zero, List.push_toArray, List.append_toArray, List.nil_append, List.cons_append])
    repeat' (first | refine go ?_ | intro _ | (apply cG; first | refine cT ?_ | refine cF ?_ | refine cS (fun _ => ?_) fun _ => ?_) | (apply gW; refine sW ?_) | (apply gI; refine sI ?_) | (apply gE; refine sE ?_) | (apply gP; refine sP ?_) | (apply gC; refine sC ?_) | (apply gD; refine sD ?_) | fail)
    refine E_res1 (by rfl) (by rfl) ⟨rfl, rfl⟩ Sb
  rw [decide_eq_true ⟨h1, h2, h3, h4⟩]
  refine CT_enter Try.func39 rfl ?_; (simp only [Try.ntmps39, List.size_toArray, List.length_cons, List.length_nil, Nat.reduceAdd, Nat.reduceSub, Array.replicate_succ, Array.replicate_zero, List.push_toArray, List.append_toArray, List.nil_append, List.cons_append])
  repeat' (first | refine go ?_ | intro _ | (apply cG; first | refine cT ?_ | refine cF ?_ | refine cS (fun _ => ?_) fun _ => ?_) | (apply gW; refine sW ?_) | (apply gI; refine sI ?_) | (apply gE; refine sE ?_) | (apply gP; refine sP ?_) | (apply gC; refine sC ?_) | (apply gD; refine sD ?_) | fail)
  refine E_res1 (by rfl) (by rfl) ⟨rfl, rfl⟩ Sb
theorem rAt_ct {x y : Int} {n : Nat} (hx : inG x) (hy : inG y) (hn : n ≤ 32) : CT Try.prog 52 #[.agg #[.int .i64 x, .int .i64 y], .int .i64 (n : Int)] W0 L fun r L' => r = bkV n ((x + 1073741824).toNat / 2 ^ n) ((y + 1073741824).toNat / 2 ^ n) ∧ L' = L := by
  have h32 : 2 ^ n ≤ 4294967296 := Nat.pow_le_pow_right (by decide) hn
  have hp : 0 < 2 ^ n := Nat.pow_pos (by decide)
  have h1 := shl_n (x := 1) (k := n) (by omega)
  obtain ⟨X, hX⟩ : ∃ X : Nat, (x + 1073741824).toNat = X := ⟨_, rfl⟩
  obtain ⟨Y, hY⟩ : ∃ X : Nat, (y + 1073741824).toNat = X := ⟨_, rfl⟩
  rw [Nat.one_mul] at h1
  have hxe : x = (X : Int) - 1073741824 := by omega
  have hye : y = (Y : Int) - 1073741824 := by omega
  have hd1 := Int.natCast_ediv X (2 ^ n)
  have hd2 := Int.natCast_ediv Y (2 ^ n)
  have hX2 : X ≤ 2147483648 := by omega
  have hY2 : Y ≤ 2147483648 := by omega
  obtain ⟨s, hs⟩ : ∃ s, 2 ^ n = s := ⟨_, rfl⟩
  rw [hs] at h1 hd1 hd2 hp h32
  rw [hX, hY, hs]
  have hq1 := Nat.div_le_self X s
  have hq2 := Nat.div_le_self Y s
  refine CT_enter Try.func52 rfl ?_; (simp only [Try.ntmps52, List.size_toArray, List.length_cons, List.length_nil, Nat.reduceAdd, Nat.reduceSub, Array.replicate_succ, Array.replicate_zero, List.push_toArray, List.append_toArray, List.nil_append, List.cons_append])
  repeat' (first | refine go ?_ | intro _ | (apply cG; first | refine cT ?_ | refine cF ?_ | refine cS (fun _ => ?_) fun _ => ?_) | (apply gW; refine sW ?_) | (apply gI; refine sI ?_) | (apply gE; refine sE ?_) | (apply gP; refine sP ?_) | (apply gC; refine sC ?_) | (apply gD; refine sD ?_) | fail)
  refine O_s (sv_shl (hr := h1)) ?_
  repeat' (first | refine go ?_ | intro _ | (apply cG; first | refine cT ?_ | refine cF ?_ | refine cS (fun _ => ?_) fun _ => ?_) | (apply gW; refine sW ?_) | (apply gI; refine sI ?_) | (apply gE; refine sE ?_) | (apply gP; refine sP ?_) | (apply gC; refine sC ?_) | (apply gD; refine sD ?_) | fail)
  rename_i p r
  refine C_draw (n := 12) [cel p [.int .i64 x, .int .i64 y] _] [(0, 1), (1, 1), (2, 1), (3, 1), (4, 1), (5, 1), (6, 1), (7, 1), (8, 1), (9, 1), (10, 1), (11, 1), (12, 0)] (by kernel_rfl) (by kernel_rfl) Sb ?_
  repeat' (first | refine go ?_ | intro _ | (apply cG; first | refine cT ?_ | refine cF ?_ | refine cS (fun _ => ?_) fun _ => ?_) | (apply gW; refine sW ?_) | (apply gI; refine sI ?_) | (apply gE; refine sE ?_) | (apply gP; refine sP ?_) | (apply gC; refine sC ?_) | (apply gD; refine sD ?_) | fail)
  rw [show x + 1073741824 = (X : Int) from by omega, show y + 1073741824 = (Y : Int) from by omega, ← hd1, ← hd2]
  refine E_res1 (by rfl) (by rfl) ⟨rfl, rfl⟩ Sb
theorem rOf_ct {b : BX} (hb : b.good) : CT Try.prog 51 #[bxV b] W0 L fun r L' => r = bkV (lvB b) (X0 b / 2 ^ lvB b) (Y0 b / 2 ^ lvB b) ∧ L' = L := by
  have hls := lv_same hb
  have hlm := fun m => lv_min (b := b) (m := m)
  have hll := lv_le b
  obtain ⟨g1, g2, g3, g4, _⟩ := id hb
  have e1 : (b.x0 + 1073741824).toNat = X0 b := rfl
  have e2 : (b.y0 + 1073741824).toNat = Y0 b := rfl
  have e3 : (b.x1 + 1073741824).toNat = X1 b := rfl
  have e4 : (b.y1 + 1073741824).toNat = Y1 b := rfl
  refine CT_enter Try.func51 rfl ?_; (simp only [Try.ntmps51, List.size_toArray, List.length_cons, List.length_nil, Nat.reduceAdd, Nat.reduceSub, Array.replicate_succ, Array.replicate_zero, List.push_toArray, List.append_toArray, List.nil_append, List.cons_append])
  repeat' (first | refine go ?_ | intro _ | (apply cG; first | refine cT ?_ | refine cF ?_ | refine cS (fun _ => ?_) fun _ => ?_) | (apply gW; refine sW ?_) | (apply gI; refine sI ?_) | (apply gE; refine sE ?_) | (apply gP; refine sP ?_) | (apply gC; refine sC ?_) | (apply gD; refine sD ?_) | fail)
  rename_i p r
  refine C_loopS (κ := Nat) [false, false, false, true, true, true, true, true, true, true, true, true, true, true, true, false, false, false, false] (fun k => [(3, .int .i64 (k : Int))]) (fun k => []) (fun k => k ≤ lvB b) (fun k => lvB b - k) 0 (Nat.zero_le _) ⟨rfl, trivial⟩ ?_
  rintro k u hk
  ((try dsimp only); refine C_n ?_; (try simp only [Nat.reduceAdd, Nat.zero_add]))
  repeat' (first | refine go ?_ | intro _ | (apply cG; first | refine cT ?_ | refine cF ?_ | refine cS (fun _ => ?_) fun _ => ?_) | (apply gW; refine sW ?_) | (apply gI; refine sI ?_) | (apply gE; refine sE ?_) | (apply gP; refine sP ?_) | (apply gC; refine sC ?_) | (apply gD; refine sD ?_) | fail)
  refine C_draw (n := 99) [cel p [.int .i64 b.x0, .int .i64 b.y0, .int .i64 b.x1, .int .i64 b.y1] _] [(0, 1), (1, 1), (2, 1), (4, 1), (5, 1), (6, 1), (3, 0), (7, 0), (8, 1)] (by kernel_rfl) (by kernel_rfl) Sb ?_
  repeat' (first | refine go ?_ | intro _ | (apply cG; first | refine cT ?_ | refine cF ?_ | refine cS (fun _ => ?_) fun _ => ?_) | (apply gW; refine sW ?_) | (apply gI; refine sI ?_) | (apply gE; refine sE ?_) | (apply gP; refine sP ?_) | (apply gC; refine sC ?_) | (apply gD; refine sD ?_) | fail)
  refine D_op rfl ?_; refine X_d (dy_call ArgsI.pf (by first | exact rfl | trivial | (intro a b; rfl)) (rAt_ct (n := k) g1 g2 (by omega))) ?_; rintro _ _ ⟨_, ⟨rfl, hLL⟩, rfl⟩; replace hLL := hLL.symm; subst hLL; refine ⟨(by first | exact .inl rfl | exact .inr Sb), D_n ?_⟩
  repeat' (first | refine go ?_ | intro _ | (apply cG; first | refine cT ?_ | refine cF ?_ | refine cS (fun _ => ?_) fun _ => ?_) | (apply gW; refine sW ?_) | (apply gI; refine sI ?_) | (apply gE; refine sE ?_) | (apply gP; refine sP ?_) | (apply gC; refine sC ?_) | (apply gD; refine sD ?_) | fail)
  refine D_op rfl ?_; refine X_d (dy_call ArgsI.pf (by first | exact rfl | trivial | (intro a b; rfl)) (rAt_ct (n := k) g3 g4 (by omega))) ?_; rintro _ _ ⟨_, ⟨rfl, hLL⟩, rfl⟩; replace hLL := hLL.symm; subst hLL; refine ⟨(by first | exact .inl rfl | exact .inr Sb), D_n ?_⟩
  rw [e1, e2, e3, e4]
  refine D_op rfl ?_; refine X_s (sv_neR (h := fun w => eq_bk (k, X0 b / 2 ^ k, Y0 b / 2 ^ k) (k, X1 b / 2 ^ k, Y1 b / 2 ^ k) w)) ?_
  by_cases hkl : k = lvB b
  · have hs := of_decide_eq_true (hkl ▸ hls)
    rw [decide_eq_true (by rw [hs.1, hs.2]), Bool.not_true]
    subst hkl
    repeat' (first | refine go ?_ | intro _ | (apply cG; first | refine cT ?_ | refine cF ?_ | refine cS (fun _ => ?_) fun _ => ?_) | (apply gW; refine sW ?_) | (apply gI; refine sI ?_) | (apply gE; refine sE ?_) | (apply gP; refine sP ?_) | (apply gC; refine sC ?_) | (apply gD; refine sD ?_) | fail)
    refine O_d (dy_call ArgsI.pf (by first | exact rfl | trivial | (intro a b; rfl)) (rAt_ct (n := lvB b) g1 g2 hll)) ?_; rintro _ _ ⟨_, ⟨rfl, hLL⟩, rfl⟩; replace hLL := hLL.symm; subst hLL; refine O_n ?_
    rw [e1, e2]
    repeat' (first | refine go ?_ | intro _ | (apply cG; first | refine cT ?_ | refine cF ?_ | refine cS (fun _ => ?_) fun _ => ?_) | (apply gW; refine sW ?_) | (apply gI; refine sI ?_) | (apply gE; refine sE ?_) | (apply gP; refine sP ?_) | (apply gC; refine sC ?_) | (apply gD; refine sD ?_) | fail)
    refine E_res1 (by rfl) (by rfl) ⟨rfl, rfl⟩ Sb
  · have hns := of_decide_eq_false (hlm k (by omega))
    rw [decide_eq_false (fun h => hns ⟨congrArg (fun z : Blk => z.2.1) h, congrArg (fun z : Blk => z.2.2) h⟩), Bool.not_false]
    repeat' (first | refine go ?_ | intro _ | (apply cG; first | refine cT ?_ | refine cF ?_ | refine cS (fun _ => ?_) fun _ => ?_) | (apply gW; refine sW ?_) | (apply gI; refine sI ?_) | (apply gE; refine sE ?_) | (apply gP; refine sP ?_) | (apply gC; refine sC ?_) | (apply gD; refine sD ?_) | fail)
    exact E_round (k + 1) (by omega) (by omega) ⟨rfl, trivial⟩ Sb
theorem rCovers_ct {n i j : Nat} {b : BX} (hb : b.good) (hn : n ≤ 32) (hi : (i + 1) * 2 ^ n ≤ 8589934592) (hj : (j + 1) * 2 ^ n ≤ 8589934592) : CT Try.prog 41 #[bkV n i j, bxV b] W0 L fun r L' => r = .bool (covB b (n, i, j)) ∧ L' = L := by
  have h32 : 2 ^ n ≤ 4294967296 := Nat.pow_le_pow_right (by decide) hn
  have h1 := shl_n (x := 1) (k := n) (by omega)
  rw [Nat.one_mul] at h1
  obtain ⟨fi, e1⟩ : ∃ z, ((i * 2 ^ n : Nat) : Int) - 1073741824 = z := ⟨_, rfl⟩
  obtain ⟨li, e2⟩ : ∃ z, (((i + 1) * 2 ^ n : Nat) : Int) - 1 - 1073741824 = z := ⟨_, rfl⟩
  obtain ⟨fj, e3⟩ : ∃ z, ((j * 2 ^ n : Nat) : Int) - 1073741824 = z := ⟨_, rfl⟩
  obtain ⟨lj, e4⟩ : ∃ z, (((j + 1) * 2 ^ n : Nat) : Int) - 1 - 1073741824 = z := ⟨_, rfl⟩
  have hm : meetF ⟨fi, fj, li, lj⟩ b = covB b (n, i, j) := by
    rw [cov_iff hb e1 e2 e3 e4]
    unfold meetF
    exact decide_eq_decide.2 Iff.rfl
  rw [← hm]
  rw [Nat.succ_mul] at e2 e4 hi hj
  obtain ⟨s, hs⟩ : ∃ s, 2 ^ n = s := ⟨_, rfl⟩
  rw [hs] at h1 h32 e1 e2 e3 e4 hi hj
  have m1 : (i : Int) * (s : Int) = ((i * s : Nat) : Int) := (Int.natCast_mul i s).symm
  have m2 : (j : Int) * (s : Int) = ((j * s : Nat) : Int) := (Int.natCast_mul j s).symm
  obtain ⟨y1, hy1⟩ : ∃ y, i * s = y := ⟨_, rfl⟩
  obtain ⟨y2, hy2⟩ : ∃ y, j * s = y := ⟨_, rfl⟩
  rw [hy1] at m1 e1 e2 hi
  rw [hy2] at m2 e3 e4 hj
  obtain rfl : (y1 : Int) - 1073741824 = fi := e1
  obtain rfl : (y2 : Int) - 1073741824 = fj := e3
  have e2' : (y1 : Int) + (s : Int) - 1 - 1073741824 = li := by omega
  have e4' : (y2 : Int) + (s : Int) - 1 - 1073741824 = lj := by omega
  subst e2' e4'
  refine CT_enter Try.func41 rfl ?_; (simp only [Try.ntmps41, List.size_toArray, List.length_cons, List.length_nil, Nat.reduceAdd, Nat.reduceSub, Array.replicate_succ, Array.replicate_zero, List.push_toArray, List.append_toArray, List.nil_append, List.cons_append])
  repeat' (first | refine go ?_ | intro _ | (apply cG; first | refine cT ?_ | refine cF ?_ | refine cS (fun _ => ?_) fun _ => ?_) | (apply gW; refine sW ?_) | (apply gI; refine sI ?_) | (apply gE; refine sE ?_) | (apply gP; refine sP ?_) | (apply gC; refine sC ?_) | (apply gD; refine sD ?_) | fail)
  refine O_s (sv_shl (hr := h1)) ?_
  repeat' (first | refine go ?_ | intro _ | (apply cG; first | refine cT ?_ | refine cF ?_ | refine cS (fun _ => ?_) fun _ => ?_) | (apply gW; refine sW ?_) | (apply gI; refine sI ?_) | (apply gE; refine sE ?_) | (apply gP; refine sP ?_) | (apply gC; refine sC ?_) | (apply gD; refine sD ?_) | fail)
  rw [m1, m2]
  refine O_d (dy_call ArgsI.pf (by first | exact rfl | trivial | (intro a b; rfl)) (rMeets_ct (a := ⟨(y1 : Int) - 1073741824, (y2 : Int) - 1073741824, (y1 : Int) + (s : Int) - 1 - 1073741824, (y2 : Int) + (s : Int) - 1 - 1073741824⟩) (c := b))) ?_; rintro _ _ ⟨_, ⟨rfl, hLL⟩, rfl⟩; replace hLL := hLL.symm; subst hLL; refine O_n ?_
  repeat' (first | refine go ?_ | intro _ | (apply cG; first | refine cT ?_ | refine cF ?_ | refine cS (fun _ => ?_) fun _ => ?_) | (apply gW; refine sW ?_) | (apply gI; refine sI ?_) | (apply gE; refine sE ?_) | (apply gP; refine sP ?_) | (apply gC; refine sC ?_) | (apply gD; refine sD ?_) | fail)
  refine E_res1 (by rfl) (by rfl) ⟨rfl, rfl⟩ Sb
end
end Go.Proofs.Ytnjjifikogblpaa
namespace Go.Proofs.Ytnjjifikogblpaa
open Go Go.RowKit
set_option linter.unusedVariables false
set_option linter.unusedSimpArgs false
section
variable {P : Program} {ops : Array Oper} {Q : Exit → Act → World → Prop} {rest : List Oper} {o : Oper} {a : Act} {W0 w : World} {L : List HP}
/-- An iterator's promise: it hands over ys one by one, each at some k, with what then holds. E: what it needs, and leaves. -/
def GivesR {β κ : Type} (P : Program) (gf : FuncId) (lb : Array Value) (arg : β → κ → Array Value) (hs : β → κ → List HP) (ys : List β) (E : List HP) : Prop :=
  ∀ (l : Nat) (W0 : World) (J : List β → HP),
    (∀ pre y post k W, ys = pre ++ y :: post → St W0 W (hs y k ++ (J pre :: E)) → Yields P l (arg y k) W fun e W' => e = .returned (.bool true) ∧ St W0 W' (J (pre ++ [y]) :: E)) →
    CT P gf (#[.func (.yield l) #[] #[]] ++ lb) W0 (J [] :: E) fun r L' => L' = J ys :: E
theorem C_rangeR {β κ : Type} {g : Operand} {ps : Array Tmp} {assign body : Code} {gf : FuncId} {lb : Array Value} (hg : a.eval g = .func (.func gf) #[] lb) (eg : Enters P gf)
    {arg : β → κ → Array Value} {hs : β → κ → List HP} {ys : List β} {E : List HP} (hit : GivesR P gf lb arg hs ys E) (hps : ∀ y k, (arg y k).size = ps.size) (I : List β → List HP) (hL : Sub L (I [] ++ E))
    (hbody : ∀ (l D : Nat) (rec : Obj) (pre : List β) (y : β) (post : List β) (k : κ), ys = pre ++ y :: post →
      ∃ a₁, (∀ W K, K a₁ W → assign.wpIn (Fr (some l)) 0 P (Exit.then K (fun _ _ _ => False)) { tmps := (ps.zip (arg y k)).foldl (fun t (p, v) => t.setIfInBounds p v) a.tmps, defers := [] } W) ∧
      ∀ W, St W0 W (blk l rec :: blk D (.deferred (some [])) :: (I pre ++ (hs y k ++ E))) → body.wpIn (Fr (some l)) 0 P (fun e _ W' => e = .normal ∧ St W0 W' (blk l rec :: blk D (.deferred (some [])) :: (I (pre ++ [y]) ++ E))) a₁ W)
    (hdone : ∀ D : Nat, EL W0 (blk D (.deferred (some [])) :: (I ys ++ E)) Q .normal { a with defers := { target := .collected D, args := #[] } :: a.defers }) :
    CL P W0 L (Code.rangeFunc g ps assign body) Q a := by
  refine ⟨fun w hS0 => ?_⟩
  have hS := hL.st hS0
  clear hS0
  refine (wpIn_wide (n := 0)).1 (wpIn_rangeFunc ?_)
  intro fn _
  obtain ⟨rec, hrec⟩ : ∃ rec : LoopState → Option Code → Loop, rec = fun st pe => { state := st, pending := pe, fn, tmps := a.tmps, params := ps, assign, body, defers := w.heap.size } := ⟨_, rfl⟩
  have hS1 := (hS.alloc (.deferred (some []))).alloc (.loop (rec .ready none))
  rw [World.size_alloc] at hS1
  generalize hl : w.heap.size + 1 = l at hS1
  generalize hD : w.heap.size = D at hS1 hl hrec
  have henter := run_enterLoop_outer (P := P) (w := w) fn a.tmps ps assign body
  rw [hD] at henter
  rw [hl] at henter
  have hr1 : (rec .ready none) = { state := .ready, pending := none, fn, tmps := a.tmps, params := ps, assign, body, defers := D } := by rw [hrec]
  rw [← hr1] at henter
  generalize hw1 : (w.alloc (.deferred (some []))).alloc (.loop (rec .ready none)) = w1 at henter hS1
  refine ⟨l, [{ target := .collected D, args := #[] }], w1, { target := .fn (.func gf) lb, args := #[.func (.yield l) #[] #[]] }, w1, gf,
    #[.func (.yield l) #[] #[]] ++ lb, w1, henter, ?_, fun _ _ => trivial, ?_, (fun hn => (by cases hn)), ?_⟩
  · simp only [resolve, hg]
    simp [go_sem]
  · exact eg _ _
  · have hJ : St W0 w1 (sp (blk l (.loop (rec .ready none)) :: blk D (.deferred (some [])) :: I []) :: E) := St.close_ (L := blk l (.loop (rec .ready none)) :: blk D (.deferred (some [])) :: I []) hS1
    refine callsIn_wide.2 (Calls.mono ((hit l W0 (fun pre => sp (blk l (.loop (rec .ready none)) :: blk D (.deferred (some [])) :: I pre)) ?_).run w1 hJ) ?_)
    · intro pre y post k W hx hW0
      have hW : St W0 W (blk l (.loop (rec .ready none)) :: blk D (.deferred (some [])) :: (I pre ++ (hs y k ++ E))) := (hW0.perm List.perm_middle).open_
      clear hW0
      have hblk : W.heap[l]? = some (.loop (rec .ready none)) := St.blk_ hW
      have hrp : (rec .ready none).params = ps := by rw [hrec]
      refine ⟨fn, (ps.zip (arg y k)).foldl (fun t (p, v) => t.setIfInBounds p v) a.tmps, assign, body, ?_, ?_⟩
      · have := run_yield (P := P) (args := arg y k) hblk (by rw [hrp]; exact hps y k)
        rw [this, hrec]
      · refine roundIn_of_wpIn trivial ?_
        obtain ⟨a₁, has, hb⟩ := hbody l D (.loop (rec .busy none)) pre y post k hx
        refine has W _ ?_
        refine ⟨W.putObj l (.loop (rec .busy none)), ?_, ?_⟩
        · have := run_beginRound (P := P) hblk (by rw [hrec])
          rw [this, hrec]
        · refine wpIn_mono (hb _ (St.putObj hW)) ?_
          rintro e a' W' ⟨rfl, hW'⟩
          have hblk' : W'.heap[l]? = some (.loop (rec .busy none)) := St.blk_ hW'
          refine ⟨_, _, run_endRound (P := P) none hblk', rfl, ?_⟩
          have h2 := St.putObj (o' := .loop (rec .ready none)) hW'
          have h3 : St W0 (W'.putObj l (.loop (rec .ready none))) (sp (blk l (.loop (rec .ready none)) :: blk D (.deferred (some [])) :: I (pre ++ [y])) :: E) := St.close_ (L := blk l (.loop (rec .ready none)) :: blk D (.deferred (some [])) :: I (pre ++ [y])) h2
          rw [hrec] at h3 ⊢
          exact h3
    · rintro e W' ⟨v, L', rfl, rfl, hW0⟩
      have hW' : St W0 W' (blk l (.loop (rec .ready none)) :: blk D (.deferred (some [])) :: (I ys ++ E)) := hW0.open_
      have hblk' : W'.heap[l]? = some (.loop (rec .ready none)) := St.blk_ hW'
      refine ⟨none, W'.putObj l (.loop { rec .ready none with state := .exhausted }), ?_, ?_⟩
      · rw [run_endLoop (P := P) hblk' (by rw [hrec]; simp), hrec]
      · exact (hdone D).run _ (St.drop (St.putObj hW'))
/-- 'if !yield(x, y)': the region of the call -/
theorem C_yield2 {id : Nat} {d1 d2 d3 d4 d5 : Tmp} {f x y : Operand} {t1 t2 t3 t4 t5 u5 : TypeId} {p1 p2 p3 p4 p5 : String} {q1 q2 q3 q4 q5 : Array Edge} {ats : Array TypeId} {l : Nat} {v1 v2 w1 w2 w3 : Value} {L' : List HP} {a1 a2 a3 a4 a5 : Act}
    (e1 : a.eval f = w1) (h1 : a.put (some d1) w1 = a1) (e2 : a1.eval x = w2) (h2 : a1.put (some d2) w2 = a2) (e3 : a2.eval y = w3) (h3 : a2.put (some d3) w3 = a3) (h4 : a3.put (some d4) (.bool true) = a4) (h5 : a4.put (some d5) (.bool false) = a5)
    (hF : a3.eval (.tmp d1) = .func (.yield l) #[] #[]) (hX : a3.eval (.tmp d2) = v1) (hY : a3.eval (.tmp d3) = v2) (hB : a4.eval (.tmp d4) = .bool true)
    (hy : ∀ w, St W0 w L → Yields P l #[v1, v2] w fun e w' => e = .returned (.bool true) ∧ St W0 w' L')
    (k : EL W0 L' Q .normal a5) :
    CL P W0 L (Code.region id #[⟨some d1, .move f, t1, p1, q1, none⟩, ⟨some d2, .move x, t2, p2, q2, none⟩, ⟨some d3, .move y, t3, p3, q3, none⟩, ⟨some d4, .call { callee := .value (.tmp d1), args := #[.tmp d2, .tmp d3], argTypes := ats }, t4, p4, q4, none⟩, ⟨some d5, .unOp .not u5 (.tmp d4), t5, p5, q5, none⟩] false) Q a := by
  refine ⟨fun w hS => ?_⟩
  subst h1 h2 h3 h4 h5
  subst e1 e2 e3
  refine (wpIn_wide (n := 0)).1 (wpIn_region_lit ?_)
  refine wlIn_move (wlIn_move (wlIn_move (wlIn_yield (l := l) (args := #[v1, v2]) (R := fun e w' => e = .returned (.bool true) ∧ St W0 w' L') rfl rfl hF (by rw [← hX, ← hY]; simp only [List.map_toArray, List.map_cons, List.map_nil]) (hy w hS) (fun e w' h => ⟨_, h.1⟩) ?_)))
  rintro v' w' ⟨hv, h⟩
  injection hv with hv
  subst hv
  exact wlIn_not (b := true) hB (wpListIn_nil (k.run w' h))
/-- the body of a range over a function, at round l -/
structure CI (l : Nat) (P : Program) (W0 : World) (L : List HP) (c : Code) (Q : Exit → Act → World → Prop) (a : Act) : Prop where
  run : ∀ w, St W0 w L → c.wpIn (Fr (some l)) 0 P Q a w
theorem CI_block {l id : Nat} {c : Code} (h : CI l P W0 L c (Exit.inBlock id Q) a) : CI l P W0 L (.block id c) Q a := ⟨fun w s => wpIn_block (h.run w s)⟩
theorem CI_seq {l : Nat} {x y : Code} (h : CI l P W0 L x (Exit.then (y.wpIn (Fr (some l)) 0 P Q) Q) a) : CI l P W0 L (.seq x y) Q a := ⟨fun w s => wpIn_seq (h.run w s)⟩
theorem CI_region {l id : Nat} {ls : List Oper} (hout : ∀ a w, ¬ Q .outgrown a w) (hd : (ls.all fun o => match o.op with | .defer _ => false | _ => true) = true) (h : OL P W0 L ls.toArray Q ls a) : CI l P W0 L (.region id ls.toArray false) Q a :=
  ⟨fun w s => wpIn_region_frl hout (noDefer hd) (h.run w s)⟩
theorem EI_then {l : Nat} {y : Code} {Q' : Exit → Act → World → Prop} (h : CI l P W0 L y Q a) : EL W0 L (Exit.then (y.wpIn (Fr (some l)) 0 P Q) Q') .normal a := ⟨h.run⟩
theorem wpIn_assignG {r : Option Nat} {n id : Nat} {d : Tmp} {x : Operand} {v : Value} {a' : Act} {ty : TypeId} {pos : String} {aft : Array Edge} {W : World} (hx : a.eval x = v) (hp : a.put (some d) v = a') (hout : ∀ a w, ¬ Q .outgrown a w) (h : Q .normal a' W) :
    (Code.region id #[⟨some d, .assign x, ty, pos, aft, none⟩] false).wpIn (Fr r) n P Q a W := by
  subst hx hp
  refine wpIn_region_fr hout (fun o ho c => ?_) ?_
  · simp at ho; subst ho; simp
  · show wpList P _ _ [_] a W
    refine step_val (v := a.eval x) (w' := W) (by rfl) (by unfold execOp; simp) ?_
    exact h
theorem zip2 {p q : Tmp} {v u : Value} {t : Array Value} : (#[p, q].zip #[v, u]).foldl (fun t (p, v) => t.setIfInBounds p v) t = (t.setIfInBounds p v).setIfInBounds q u := by simp
theorem CT_enterM {f : FuncId} {fn : Func} {c : Code} {args : Array Value} {R : Value → List HP → Prop} (hf : P.funcs[f]? = some fn) (hb : fn.body = some c)
    (h : CL P W0 L c (bodyPostM Fence.wide 0 P fn (RR W0 R)) { tmps := args ++ Array.replicate (fn.ntmps - args.size) undef, defers := [] }) : CT P f args W0 L R :=
  ⟨fun w s => callsIn_wide.1 (callsIn_of_wp_marks (n := 0) hf hb trivial (wpIn_wide.2 (h.run w s)))⟩
theorem E_res1d {fn : Func} {R : Value → List HP → Prop} {t : Tmp} {v : Value} {D : Nat} {L2 : List HP} (hd : a.defers = [{ target := .collected D, args := #[] }]) (hr : fn.results = #[.tmp t]) (hv : a.eval (.tmp t) = v) (hR : R v L2) (hS : Sub L (blk D (.deferred (some [])) :: L2)) : EL W0 L (bodyPostM Fence.wide 0 P fn (RR W0 R)) .ret a := by
  refine ⟨fun w s => ?_⟩
  subst hv
  exact post_marks hd (hS.st s) (results_tmp hr _ _) (fun w' h => ⟨_, _, rfl, hR, h⟩)
theorem E_res2d {fn : Func} {R : Value → List HP → Prop} {t u : Tmp} {v v' : Value} {D : Nat} {L2 : List HP} (hd : a.defers = [{ target := .collected D, args := #[] }]) (hr : fn.results = #[.tmp t, .tmp u]) (hv : a.eval (.tmp t) = v) (hv' : a.eval (.tmp u) = v') (hR : R (.tuple #[v, v']) L2) (hS : Sub L (blk D (.deferred (some [])) :: L2)) : EL W0 L (bodyPostM Fence.wide 0 P fn (RR W0 R)) .ret a := by
  refine ⟨fun w s => ?_⟩
  subst hv hv'
  exact post_marks hd (hS.st s) (results_tmp2 hr _ _) (fun w' h => ⟨_, _, rfl, hR, h⟩)
end
end Go.Proofs.Ytnjjifikogblpaa
