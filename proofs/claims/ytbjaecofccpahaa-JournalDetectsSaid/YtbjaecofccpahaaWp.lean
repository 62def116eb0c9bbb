/-
  Plain: what the package wire writes. No program.
-/
import Derived.Test.YtbjaecofccpahaaU64
namespace Go.Proofs.Ytbjaecofccpahaa
open Go Go.RowKit
set_option linter.unusedVariables false
set_option linter.unusedSimpArgs false
/-- the varint of a number -/
def varint (n : Nat) : List UInt8 := if n < 128 then [UInt8.ofNat n] else UInt8.ofNat (n % 128 + 128) :: varint (n / 128)
termination_by n
decreasing_by omega
def zig (n : Int) : Nat := if n < 0 then (-(2 * n) - 1).toNat else (2 * n).toNat
/-- how many groups of seven bits -/
def sizeV (n : Nat) : Nat := if n < 128 then 1 else sizeV (n / 128) + 1
termination_by n
decreasing_by omega
theorem varint_len (n : Nat) : (varint n).length = sizeV n := by
  induction n using varint.induct with
  | case1 n h => rw [varint, sizeV, if_pos h, if_pos h]; rfl
  | case2 n h ih => rw [varint, sizeV, if_neg h, if_neg h]; simp [ih]
theorem varint_small {n : Nat} (h : n < 128) : varint n = [UInt8.ofNat n] := by rw [varint, if_pos h]
theorem varint_big {n : Nat} (h : ¬ n < 128) : varint n = UInt8.ofNat (n % 128 + 128) :: varint (n / 128) := by rw [varint, if_neg h]
theorem sizeV_pos (n : Nat) : 1 ≤ sizeV n := by rw [sizeV]; split <;> omega
theorem sizeV_le : ∀ (k n : Nat), n < 128 ^ k → 0 < k → sizeV n ≤ k
  | 0, _, _, h => by omega
  | k + 1, n, hn, _ => by
    rw [sizeV]
    split
    · omega
    · rename_i h
      have hk : 0 < k := by
        rcases k with _ | k
        · simp at hn; omega
        · omega
      have := sizeV_le k (n / 128) (by rw [Nat.pow_succ] at hn; exact Nat.div_lt_of_lt_mul (by omega)) hk
      omega
end Go.Proofs.Ytbjaecofccpahaa
