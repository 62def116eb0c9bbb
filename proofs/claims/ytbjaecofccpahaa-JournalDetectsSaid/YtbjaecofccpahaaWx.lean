/-
  Plain: readings that fail, lists read. No program.
-/
import Derived.Test.YtbjaecofccpahaaWz
namespace Go.Proofs.Ytbjaecofccpahaa
open Go Go.RowKit
set_option linter.unusedVariables false
set_option linter.unusedSimpArgs false
/-- errors stay -/
theorem rI_err {s : Rs} (h : s.2 ≠ 0) : rI s = (0, s) := by unfold rI; rw [rU_err h]; simp [unzig]
theorem rNext_err {s : Rs} (h : s.2 ≠ 0) : rNext s = (0, s) := by unfold rNext; rw [if_neg h]
theorem rB_err {s : Rs} (h : s.2 ≠ 0) : rB s = (false, s) := by unfold rB; rw [rNext_err h]; rfl
theorem rList_eq {α : Type} (f : Rs → α × Rs) (s : Rs) : rList f s = (if (rMany f (rU s).1 (if (rU s).2.1.length < (rU s).1 then rFail (rU s).2 3 else (rU s).2)).2.2 = 0 then (rMany f (rU s).1 (if (rU s).2.1.length < (rU s).1 then rFail (rU s).2 3 else (rU s).2)).1 else [], (rMany f (rU s).1 (if (rU s).2.1.length < (rU s).1 then rFail (rU s).2 3 else (rU s).2)).2) := rfl
theorem rList_err {α : Type} {f : Rs → α × Rs} {s : Rs} (h : s.2 ≠ 0) : rList f s = ([], s) := by
  rw [rList_eq, rU_err h]
  simp only [Nat.not_lt_zero, if_false, rMany, if_neg h]
theorem rFail_3 {b : List UInt8} : rFail (b, 0) 3 = (b, 3) := rfl
theorem rList_more {α : Type} {f : Rs → α × Rs} {s : Rs} {n : Nat} {b : List UInt8} (h1 : rU s = (n, (b, 0))) (h2 : b.length < n) : (rList f s).2.2 = 3 := by
  rw [rList_eq, h1]
  dsimp only
  rw [if_pos h2, rFail_3]
  rcases n with _ | n
  · omega
  · rfl
theorem rList_many {α : Type} {f : Rs → α × Rs} {s : Rs} {n : Nat} {b : List UInt8} (h1 : rU s = (n, (b, 0))) (h2 : n ≤ b.length) : (rList f s).2 = (rMany f n (b, 0)).2 := by
  rw [rList_eq, h1]
  dsimp only
  rw [if_neg (Nat.not_lt.2 h2)]
theorem rMany_err {α : Type} {f : Rs → α × Rs} : ∀ {n : Nat} {s : Rs}, s.2 ≠ 0 → rMany f n s = ([], s)
  | 0, _, _ => rfl
  | n + 1, s, h => by rw [rMany, if_neg h]
theorem rMany_len {α : Type} {f : Rs → α × Rs} (hf : ∀ s, (f s).2.1.length ≤ s.1.length) : ∀ (n : Nat) (s : Rs), (rMany f n s).2.1.length ≤ s.1.length
  | 0, s => Nat.le_refl _
  | n + 1, s => by
    rw [rMany]
    split
    · exact Nat.le_trans (rMany_len hf n (f s).2) (hf s)
    · exact Nat.le_refl _
theorem rList_len {α : Type} {f : Rs → α × Rs} (hf : ∀ s, (f s).2.1.length ≤ s.1.length) (s : Rs) : (rList f s).2.1.length ≤ s.1.length := by
  rw [rList_eq]
  refine Nat.le_trans (rMany_len hf _ _) ?_
  refine Nat.le_trans ?_ (rU_len s)
  split
  · unfold rFail; split <;> exact Nat.le_refl _
  · exact Nat.le_refl _
theorem rB_len (s : Rs) : (rB s).2.1.length ≤ s.1.length := by
  unfold rB
  refine Nat.le_trans ?_ (rNext_len s)
  dsimp only
  split
  · unfold rFail; split <;> exact Nat.le_refl _
  · exact Nat.le_refl _
theorem rList_cases {α : Type} {f : Rs → α × Rs} {bs b1 bs' : List UInt8} {e e1 e' : Int} {m : Nat} {l : List α} (hu : rU (bs, e) = (m, (b1, e1))) (h : rList f (bs, e) = (l, (bs', e'))) :
    (e1 ≠ 0 ∧ l = [] ∧ e' = e1) ∨ (e1 = 0 ∧ b1.length < m ∧ l = [] ∧ e' = 3) ∨ (e1 = 0 ∧ m ≤ b1.length ∧ (rMany f m (b1, 0)).2 = (bs', e') ∧ l = if e' = 0 then (rMany f m (b1, 0)).1 else []) := by
  rw [rList_eq, hu] at h
  dsimp only at h
  by_cases he : e1 = 0
  · subst he
    by_cases hl : b1.length < m
    · rw [if_pos hl, rFail_3, rMany_err (by show (3 : Int) ≠ 0; decide)] at h
      simp only [Prod.mk.injEq] at h
      exact .inr (.inl ⟨rfl, hl, by rw [← h.1]; simp, h.2.2.symm⟩)
    · rw [if_neg hl] at h
      simp only [Prod.mk.injEq] at h
      exact .inr (.inr ⟨rfl, by omega, h.2, by rw [← h.1, h.2]⟩)
  · have h5 : (if b1.length < m then rFail (b1, e1) 3 else (b1, e1)) = (b1, e1) := by
      split
      · simp only [rFail, if_neg he]
      · rfl
    rw [h5, rMany_err he] at h
    simp only [Prod.mk.injEq] at h
    exact .inl ⟨he, by rw [← h.1]; simp, h.2.2.symm⟩
theorem rMany_take : ∀ (n : Nat) (b : List UInt8), n ≤ b.length → rMany rNext n (b, 0) = (b.take n, (b.drop n, 0))
  | 0, b, _ => rfl
  | n + 1, [], h => by simp at h
  | n + 1, c :: r, h => by
    rw [rMany, if_pos rfl]
    have e : rNext (c :: r, 0) = (c, (r, 0)) := rfl
    rw [e]
    dsimp only
    rw [rMany_take n r (by simpa using h)]
    rfl
theorem rUi_step {i n : Nat} {c : UInt8} {r : List UInt8} (h1 : ¬ ((i = 9 ∧ 1 < c.toNat) ∨ (0 < i ∧ c.toNat = 0))) (h2 : ¬ c.toNat < 128) : rUi i n (c :: r) = rUi (i + 1) (n + c.toNat % 128 * 128 ^ i) r := by
  rw [rUi, if_neg h1, if_neg h2]
  have : c.toNat - 128 = c.toNat % 128 := by have := c.toNat_lt; omega
  rw [this]
theorem drop_get {α : Type} {l : List α} {i : Nat} {x : α} (h : l[i]? = some x) : l.drop i = x :: l.drop (i + 1) := by
  obtain ⟨hlt, rfl⟩ := List.getElem?_eq_some_iff.1 h
  exact List.drop_eq_getElem_cons hlt
end Go.Proofs.Ytbjaecofccpahaa
