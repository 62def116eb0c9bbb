/-
  Walks of package wire: numbers, truth values, strings, what the writer holds.
-/
import Derived.Test.YtbjaecofccpahaaWw1
namespace Go.Proofs.Ytbjaecofccpahaa
open Go Go.RowKit
set_option linter.unusedVariables false
set_option linter.unusedSimpArgs false
theorem ofIntI' (n : Int) : IntKind.u64.wrap n = ((UInt64.ofInt n).toNat : Int) := by
  rw [IntKind.wrap_u64]
  simp [UInt64.ofInt]
  omega
def zigU (n : Int) : UInt64 := UInt64.ofNat (zig n)
theorem xor_ones (a : UInt64) : ((a ^^^ 18446744073709551615).toNat : Int) = 18446744073709551615 - (a.toNat : Int) := by
  have e : a ^^^ 18446744073709551615 = ~~~a := by
    apply UInt64.eq_of_toBitVec_eq
    simp only [UInt64.toBitVec_xor, UInt64.toBitVec_not]
    have : (18446744073709551615 : UInt64).toBitVec = BitVec.allOnes 64 := by decide
    rw [this, BitVec.xor_allOnes]
  rw [e]
  have h := u64_lt a
  have h2 : (~~~a).toNat = 18446744073709551615 - a.toNat := by
    show (~~~a).toBitVec.toNat = _
    rw [UInt64.toBitVec_not, BitVec.toNat_not]
    rfl
  rw [h2]
  omega
theorem zig_walk {n : Int} (h1 : -9223372036854775808 ≤ n) (h2 : n ≤ 9223372036854775807) :
    (Value.int IntKind.u64 (bits BinOp.xor IntKind.u64 (IntKind.u64.wrap (IntKind.u64.wrap n * 2)) (IntKind.u64.wrap (n / 9223372036854775808)))) = uv (zigU n) := by
  obtain ⟨x, hx⟩ : ∃ x : UInt64, IntKind.u64.wrap (IntKind.u64.wrap n * 2) = (x.toNat : Int) := ⟨UInt64.ofInt (IntKind.u64.wrap n * 2), ofIntI' _⟩
  have hz : zig n < 18446744073709551616 := by unfold zig; split <;> omega
  have hzu : ((zigU n).toNat : Int) = (zig n : Int) := by unfold zigU; rw [UInt64.toNat_ofNat']; omega
  have hx2 := hx
  rw [IntKind.wrap_u64, IntKind.wrap_u64] at hx2
  rw [hx]
  congr 1
  by_cases hn : n < 0
  · have e : IntKind.u64.wrap (n / 9223372036854775808) = (((18446744073709551615 : UInt64)).toNat : Int) := by
      have : n / 9223372036854775808 = -1 := by omega
      rw [this]; decide
    rw [e, u64_xor, xor_ones, hzu]
    unfold zig
    rw [if_pos hn]
    omega
  · have e : IntKind.u64.wrap (n / 9223372036854775808) = (((0 : UInt64)).toNat : Int) := by
      have : n / 9223372036854775808 = 0 := by omega
      rw [this]; decide
    rw [e, u64_xor, hzu]
    unfold zig
    rw [if_neg hn, UInt64.xor_zero]
    omega
theorem zigzag_any (n : Int) (w : World) (h1 : -9223372036854775808 ≤ n) (h2 : n ≤ 9223372036854775807) :
    Calls Try.prog 53 #[iv n] w fun e w' => e = .returned (uv (zigU n)) ∧ w = w' := by
  go_enter Try.func53, Try.ntmps53
  go_wp2
  go_ret
  exact ⟨congrArg (fun v => Ending.returned v) (zig_walk h1 h2), rfl⟩
theorem wInt_any {W0 w : World} {L : List HP} {p : Nat} {bs : List UInt8} (hS : St W0 w (wr p bs :: L)) (n : Int) (h1 : -9223372036854775808 ≤ n) (h2 : n ≤ 9223372036854775807) (hl : bs.length ≤ 100000000000000) :
    Calls Try.prog 27 #[.pointer (some ⟨p, 0, none⟩), iv n] w fun e w' => (∃ v, e = .returned v) ∧ St W0 w' (wr p (bs ++ varint (zigU n).toNat) :: L) := by
  go_enter Try.func27, Try.ntmps27
  go_wp2_with (first | (go_at_call 53; refine (zigzag_any n _ h1 h2).mono ?_; rintro e w' ⟨rfl, rfl⟩) | (go_at_call 30; (with_reducible refine stop_op ?_)))
  refine (wUint_any hS (zigU n) hl).mono ?_
  rintro _ w' ⟨⟨v, rfl⟩, hS⟩
  go_wp2
  exact bodyPost_end (results_none rfl _ _ _) rfl ⟨⟨_, rfl⟩, hS⟩
end Go.Proofs.Ytbjaecofccpahaa
