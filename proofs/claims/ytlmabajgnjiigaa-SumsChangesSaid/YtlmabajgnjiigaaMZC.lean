/-
  Sums: the reference's Some, first loop (atoms and faces).
-/
import Derived.Test.YtlmabajgnjiigaaMZB
import Derived.Test.YtlmabajgnjiigaaMS
namespace Go.Proofs.Ytlmabajgnjiigaa
open Go Go.RowKit
set_option linter.unusedVariables false
set_option linter.unusedSimpArgs false
set_option maxRecDepth 20000
set_option synthInstance.maxSize 100000
set_option synthInstance.maxHeartbeats 400000
section
variable {W0 : World} {L : List HP}
theorem PickN_ct {A : Option Addr} {c : Nat} {l : List Int} {j m : Nat} (hv : rd eI (.slice A l.length c) l ∈ L) (hr : ∀ n ∈ l, -9223372036854775808 ≤ n ∧ n ≤ 9223372036854775807) (hl : l.length ≤ 9223372036854775807) (hj : j ≤ 1000) (hm : 1 ≤ m) (hm2 : m ≤ 1000000000) : CT Try.prog 12 #[.slice A l.length c, .int .i64 (j : Int), .int .i64 (m : Int)] W0 L fun r L' => ∃ x : Nat, r = .int .i64 (x : Int) ∧ x < m ∧ L' = L := by
  refine CT.sub ?_ (sub_dup hv)
  refine CT_enter Try.func12 rfl ?_; (simp only [Try.ntmps12, List.size_toArray, List.length_cons, List.length_nil, Nat.reduceAdd, Nat.reduceSub, Array.replicate_succ, Array.replicate_zero, List.push_toArray, List.append_toArray, List.nil_append, List.cons_append])
  by_cases hjl : j < l.length
  · obtain ⟨x, hx⟩ : ∃ x, l[j]? = some x := ⟨_, List.getElem?_eq_getElem hjl⟩
    have hax : At l j x := ⟨hx⟩
    have hxr := hr x (List.mem_of_getElem? hx)
    have ha := around_in (n := x) (most := (m : Int)) (by omega)
    obtain ⟨N, hN⟩ : ∃ N : Nat, around x (m : Int) = (N : Int) := ⟨(around x (m : Int)).toNat, by omega⟩
    rw [hN] at ha
    repeat' (first | refine go ?_ | intro _ | (apply cG; first | refine cT ?_ | refine cF ?_ | refine cS (fun _ => ?_) fun _ => ?_) | (apply gW; refine sW ?_) | (apply gI; refine sI ?_) | (apply gE; refine sE ?_) | (apply gP; refine sP ?_) | (apply gC; refine sC ?_) | (apply gD; refine sD ?_) | fail)
    refine O_d (dy_call ArgsI.pf (by first | exact rfl | trivial | (intro a b; rfl)) (Around_ct (most := (m : Int)) hxr.1 hxr.2 (by omega) (by omega))) ?_; rintro _ _ ⟨_, ⟨rfl, hLL⟩, rfl⟩; replace hLL := hLL.symm; subst hLL; refine O_n ?_
    rw [hN]
    repeat' (first | refine go ?_ | intro _ | (apply cG; first | refine cT ?_ | refine cF ?_ | refine cS (fun _ => ?_) fun _ => ?_) | (apply gW; refine sW ?_) | (apply gI; refine sI ?_) | (apply gE; refine sE ?_) | (apply gP; refine sP ?_) | (apply gC; refine sC ?_) | (apply gD; refine sD ?_) | fail)
    refine E_res1 (by rfl) (by rfl) ⟨N, rfl, by omega, rfl⟩ Sb
  · repeat' (first | refine go ?_ | intro _ | (apply cG; first | refine cT ?_ | refine cF ?_ | refine cS (fun _ => ?_) fun _ => ?_) | (apply gW; refine sW ?_) | (apply gI; refine sI ?_) | (apply gE; refine sE ?_) | (apply gP; refine sP ?_) | (apply gC; refine sC ?_) | (apply gD; refine sD ?_) | fail)
    refine E_res1 (by rfl) (by rfl) ⟨0, rfl, by omega, rfl⟩ Sb
theorem numF_snoc {F : List Int} {n f m : Nat} (h : numF F m = some n) (hf : f ≤ n) : numF (F ++ [(f : Int)]) m = some (max n (f + 1)) := by
  rw [numF_append, h]
  show numF [(f : Int)] n = _
  have e2 : numF [(f : Int)] n = if (f : Int) < 0 ∨ (n : Int) < (f : Int) then none else numF [] (if (f : Int) = (n : Int) then n + 1 else n) := rfl
  rw [e2, if_neg (by omega)]
  by_cases h1 : f = n
  · rw [if_pos (by omega), h1]
    show some (n + 1) = _
    rw [Nat.max_eq_right (by omega)]
  · rw [if_neg (by omega)]
    show some n = _
    rw [Nat.max_eq_left (by omega)]
end
end Go.Proofs.Ytlmabajgnjiigaa
