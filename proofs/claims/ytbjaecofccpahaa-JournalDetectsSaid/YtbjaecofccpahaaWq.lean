/-
  Plain: what the package wire reads. No program.
-/
import Derived.Test.YtbjaecofccpahaaWp
namespace Go.Proofs.Ytbjaecofccpahaa
open Go Go.RowKit
set_option linter.unusedVariables false
set_option linter.unusedSimpArgs false
/-- a reader: the bytes that are left, the error (0: none, 2: form, 3: more) -/
abbrev Rs := List UInt8 × Int
def rFail (s : Rs) (e : Int) : Rs := if s.2 = 0 then (s.1, e) else s
def rNext (s : Rs) : UInt8 × Rs :=
  if s.2 = 0 then (match s.1 with
    | [] => (0, ([], 3))
    | c :: r => (c, (r, 0))) else (0, s)
/-- from byte number i on, n so far -/
def rUi : Nat → Nat → List UInt8 → Nat × Rs
  | _, _, [] => (0, ([], 3))
  | i, n, c :: r => if (i = 9 ∧ 1 < c.toNat) ∨ (0 < i ∧ c.toNat = 0) then (0, (r, 2)) else if c.toNat < 128 then (n + c.toNat * 128 ^ i, (r, 0)) else rUi (i + 1) (n + (c.toNat - 128) * 128 ^ i) r
def rU (s : Rs) : Nat × Rs := if s.2 = 0 then rUi 0 0 s.1 else (0, s)
def unzig (n : Nat) : Int := if n % 2 = 1 then -((n / 2 : Nat) : Int) - 1 else ((n / 2 : Nat) : Int)
def rI (s : Rs) : Int × Rs := (unzig (rU s).1, (rU s).2)
def rB (s : Rs) : Bool × Rs := ((rNext s).1.toNat = 1, if 1 < (rNext s).1.toNat then rFail (rNext s).2 2 else (rNext s).2)
/-- a list's elements, by a reading of one -/
def rMany {α : Type} (f : Rs → α × Rs) : Nat → Rs → List α × Rs
  | 0, s => ([], s)
  | n + 1, s => if s.2 = 0 then ((f s).1 :: (rMany f n (f s).2).1, (rMany f n (f s).2).2) else ([], s)
def rList {α : Type} (f : Rs → α × Rs) (s : Rs) : List α × Rs :=
  let n := (rU s).1
  let s1 := if (rU s).2.1.length < n then rFail (rU s).2 3 else (rU s).2
  let r := rMany f n s1
  (if r.2.2 = 0 then r.1 else [], r.2)
def rEnd (s : Rs) : Int := if s.2 = 0 ∧ 0 < s.1.length then 2 else s.2
/-- errors stay; bytes are taken from the front -/
theorem rUi_suffix : ∀ (i n : Nat) (l : List UInt8), (rUi i n l).2.1.length ≤ l.length
  | _, _, [] => by simp [rUi]
  | i, n, c :: r => by
    rw [rUi]
    split
    · simp
    · split
      · simp
      · have := rUi_suffix (i + 1) (n + (c.toNat - 128) * 128 ^ i) r
        simp only [List.length_cons]; omega
theorem rUi_lt : ∀ (l : List UInt8) (i n : Nat), i ≤ 9 → n < 128 ^ i → (rUi i n l).1 < 18446744073709551616
  | [], _, _, _, _ => by simp [rUi]
  | c :: r, i, n, hi, hn => by
    rw [rUi]
    split
    · simp
    · rename_i h1
      have hc : c.toNat < 256 := c.toNat_lt
      split
      · rename_i h2
        dsimp only
        rcases Nat.lt_or_ge i 9 with h9 | h9
        · have : 128 ^ (i + 1) ≤ 128 ^ 9 := Nat.pow_le_pow_right (by decide) h9
          have e : c.toNat * 128 ^ i ≤ 127 * 128 ^ i := Nat.mul_le_mul_right _ (by omega)
          rw [Nat.pow_succ] at this
          have : (128 : Nat) ^ 9 = 9223372036854775808 := by decide
          omega
        · have : i = 9 := by omega
          subst this
          have e9 : (128 : Nat) ^ 9 = 9223372036854775808 := by decide
          rw [e9] at hn ⊢
          have : c.toNat ≤ 1 := by
            rcases Nat.lt_or_ge 1 c.toNat with h | h
            · exact absurd (.inl ⟨rfl, h⟩) h1
            · exact h
          omega
      · rename_i h2
        have h9 : i ≠ 9 := fun e => h1 (.inl ⟨e, by omega⟩)
        refine rUi_lt r (i + 1) _ (by omega) ?_
        rw [Nat.pow_succ]
        have e : (c.toNat - 128) * 128 ^ i ≤ 127 * 128 ^ i := Nat.mul_le_mul_right _ (by omega)
        omega
theorem rU_lt (s : Rs) : (rU s).1 < 18446744073709551616 := by
  unfold rU; split
  · exact rUi_lt _ 0 0 (by omega) (by decide)
  · simp
theorem rU_len (s : Rs) : (rU s).2.1.length ≤ s.1.length := by
  unfold rU; split
  · exact rUi_suffix _ _ _
  · exact Nat.le_refl _
theorem rNext_len (s : Rs) : (rNext s).2.1.length ≤ s.1.length := by
  unfold rNext; split
  · split
    · simp
    · rename_i h; rw [h]; simp
  · exact Nat.le_refl _
end Go.Proofs.Ytbjaecofccpahaa
