/-
  Plain: what changes a hash. No program.
-/
import Derived.Test.YtbjaecofccpahaaHp
namespace Go.Proofs.Ytbjaecofccpahaa
open Go Go.RowKit
set_option linter.unusedVariables false
set_option linter.unusedSimpArgs false
def fold32 (y : UInt64) : UInt64 := y ^^^ (y >>> 32)
theorem fold32_twice (y : UInt64) : fold32 (fold32 y) = y := by
  apply UInt64.eq_of_toBitVec_eq
  simp only [fold32, UInt64.toBitVec_xor, UInt64.toBitVec_shiftRight]
  have e : ((32 : UInt64).toBitVec % 64) = (32 : BitVec 64) := by decide
  rw [e]
  apply BitVec.eq_of_getLsbD_eq
  intro i hi
  have e2 : (32 : BitVec 64).toNat = 32 := by decide
  simp only [BitVec.getLsbD_xor, BitVec.ushiftRight_eq', e2, BitVec.getLsbD_ushiftRight]
  have e3 : y.toBitVec.getLsbD (32 + (32 + i)) = false := BitVec.getLsbD_of_ge _ _ (by omega)
  rw [e3]
  cases y.toBitVec.getLsbD i <;> cases y.toBitVec.getLsbD (32 + i) <;> rfl
theorem mul_inj {x y : UInt64} (h : x * hC = y * hC) : x = y := by
  have hi : hC * 17428512612931826493 = 1 := by decide
  have h2 : (x * hC) * 17428512612931826493 = (y * hC) * 17428512612931826493 := by rw [h]
  rw [UInt64.mul_assoc, UInt64.mul_assoc, hi, UInt64.mul_one, UInt64.mul_one] at h2
  exact h2
theorem mix_fold (s w : UInt64) : mix s w = fold32 ((s ^^^ w) * hC) := rfl
theorem mix_x {a b : UInt64} {s w s' w' : UInt64} (h : mix s w = mix s' w') : s ^^^ w = s' ^^^ w' := by
  rw [mix_fold, mix_fold] at h
  have h2 := congrArg fold32 h
  rw [fold32_twice, fold32_twice] at h2
  exact mul_inj h2
theorem xor_l {s s' w : UInt64} (h : s ^^^ w = s' ^^^ w) : s = s' := by
  have h2 := congrArg (· ^^^ w) h
  simp only [UInt64.xor_assoc, UInt64.xor_self, UInt64.xor_zero] at h2
  exact h2
theorem mix_l {s s' w : UInt64} (h : mix s w = mix s' w) : s = s' := xor_l (mix_x (a := 0) (b := 0) h)
theorem mix_r {s w w' : UInt64} (h : mix s w = mix s w') : w = w' := by
  have := mix_x (a := 0) (b := 0) h
  rw [UInt64.xor_comm s w, UInt64.xor_comm s w'] at this
  exact xor_l this
theorem fold_inj {α : Type} {f : UInt64 → α → UInt64} (hf : ∀ s s' x, f s x = f s' x → s = s') : ∀ (l : List α) {s s' : UInt64}, l.foldl f s = l.foldl f s' → s = s'
  | [], _, _, h => h
  | x :: l, _, _, h => hf _ _ x (fold_inj hf l h)
theorem mixI_l {s s' : UInt64} {n : Int} (h : mixI s n = mixI s' n) : s = s' := mix_l h
theorem ofInt_toI (x : UInt64) : UInt64.ofInt (toI x) = x := by
  have h := u64_lt x
  apply UInt64.toNat_inj.1
  have h2 := ofIntI (toI x)
  have h3 : IntKind.u64.wrap (toI x) = (x.toNat : Int) := by
    rw [IntKind.wrap_u64]
    unfold toI wrap64
    omega
  omega
theorem mixI_toI (s x : UInt64) : mixI s (toI x) = mix s x := by unfold mixI; rw [ofInt_toI]
/-- the start of a sum -/
def start (label : List UInt8) (n : Nat) : UInt64 := mix (mix ((wordsOf label).foldl mix 0) (UInt64.ofNat label.length)) (UInt64.ofNat n)
theorem sumW_eq (label : List UInt8) (l : List Int) : sumW label l = mix (l.foldl mixI (start label l.length)) 0 := rfl
theorem pair_l {a b c : UInt64} (h : pairW a c = pairW b c) : a = b := by
  unfold pairW at h
  rw [sumW_eq, sumW_eq] at h
  have h2 := mixI_l (mix_l h)
  simp only [List.foldl_cons, List.foldl_nil, List.length_cons, List.length_nil] at h2
  rw [mixI_toI, mixI_toI] at h2
  exact mix_r h2
theorem pair_r {a b c : UInt64} (h : pairW c a = pairW c b) : a = b := by
  unfold pairW at h
  rw [sumW_eq, sumW_eq] at h
  have h2 := mix_l h
  simp only [List.foldl_cons, List.foldl_nil, List.length_cons, List.length_nil] at h2
  rw [mixI_toI, mixI_toI, mixI_toI] at h2
  exact mix_r h2
theorem wf_u64 {n : Int} (h : (Lit.int .u64 n).wf = true) : ∃ x : UInt64, n = (x.toNat : Int) := by
  refine ⟨UInt64.ofNat n.toNat, ?_⟩
  simp [Lit.wf, IntKind.min, IntKind.max, IntKind.signed, IntKind.bits] at h
  simp
  omega
theorem wf_i64 {n : Int} (h : (Lit.int .i64 n).wf = true) : -9223372036854775808 ≤ n ∧ n ≤ 9223372036854775807 := by
  simpa [Lit.wf, IntKind.min, IntKind.max, IntKind.signed, IntKind.bits] using h
theorem wf_u8 {n : Int} (h : (Lit.int .u8 n).wf = true) : ∃ x : UInt8, n = (x.toNat : Int) := by
  refine ⟨UInt8.ofNat n.toNat, ?_⟩
  simp [Lit.wf, IntKind.min, IntKind.max, IntKind.signed, IntKind.bits] at h
  simp
  omega
theorem beq_f {x y : UInt64} (h : x ≠ y) : ((x.toNat : Int) == (y.toNat : Int)) = false := by
  simp only [beq_eq_false_iff_ne, ne_eq]
  intro e
  exact h (UInt64.toNat_inj.1 (by omega))
theorem leW_zero : ∀ d : List UInt8, leW (d ++ [0]) = leW d
  | [] => by decide
  | b :: r => by
    have ih := leW_zero r
    simp only [List.cons_append, leW, ih]
theorem words_zero {c : List UInt8} (h : c.length % 8 ≠ 0) : wordsOf (c ++ [0]) = wordsOf c := by
  unfold wordsOf
  have e : ((c ++ [0]).length + 7) / 8 = (c.length + 7) / 8 := by simp; omega
  rw [e]
  refine List.map_congr_left fun j hj => ?_
  rw [List.mem_range] at hj
  have h8 : 8 * j ≤ c.length := by omega
  unfold wordAt
  rw [List.drop_append_of_le_length h8]
  by_cases hd : 8 ≤ (c.drop (8 * j)).length
  · rw [List.take_append_of_le_length hd]
  · rw [List.take_of_length_le (by simp at hd ⊢; omega), List.take_of_length_le (by omega), leW_zero]
theorem ofInt_ne {a b : Nat} (ha : a < 1000000) (hb : b < 1000000) (h : UInt64.ofInt (a : Int) = UInt64.ofInt (b : Int)) : a = b := by
  have h1 := ofIntI (a : Int)
  have h2 := ofIntI (b : Int)
  rw [IntKind.wrap_u64] at h1 h2
  rw [h] at h1
  omega
theorem bytes_zero {t c : List UInt8} (h : c.length % 8 ≠ 0) (hl : c.length ≤ 1000) : bytesW t (c ++ [0]) ≠ bytesW t c := by
  intro e
  unfold bytesW at e
  rw [words_zero h, sumW_eq, sumW_eq] at e
  have e2 := mix_l e
  rw [List.foldl_append, List.foldl_append] at e2
  simp only [List.length_append, List.length_cons, List.length_nil, List.foldl_cons, List.foldl_nil] at e2
  have e3 := ofInt_ne (by omega) (by omega) (mix_r (by simpa [mixI] using e2) : UInt64.ofInt ((c.length + 1 : Nat) : Int) = UInt64.ofInt (c.length : Int))
  omega
end Go.Proofs.Ytbjaecofccpahaa
