/-
  What is known of each struct type's fields.
-/
import Derived.Laws.BitsAllLaws
import Derived.Outline
import Derived.Lib.Hide
import Derived.Deep.QuietTactic
import Derived.BigQuiet
import Derived.Test.YtnjjifikogblpaaMI
import Derived.Test.YtnjjifikogblpaaMH
import Derived.Test.YtnjjifikogblpaaMC
namespace Go.Proofs.Ytnjjifikogblpaa
open Go Go.RowKit
instance : FD Try.prog 7 0 0 2 := fd_of (by kernel_rfl)
instance : FD Try.prog 7 1 1 3 := fd_of (by kernel_rfl)
instance : FD Try.prog 7 2 2 4 := fd_of (by kernel_rfl)
instance : FD Try.prog 7 3 3 6 := fd_of (by kernel_rfl)
instance : FD Try.prog 8 0 0 2 := fd_of (by kernel_rfl)
instance : FD Try.prog 8 1 1 3 := fd_of (by kernel_rfl)
instance : FD Try.prog 8 2 2 4 := fd_of (by kernel_rfl)
instance : FD Try.prog 8 3 3 6 := fd_of (by kernel_rfl)
instance : FD Try.prog 13 0 0 9 := fd_of (by kernel_rfl)
instance : FD Try.prog 13 1 1 12 := fd_of (by kernel_rfl)
instance : FD Try.prog 14 0 0 9 := fd_of (by kernel_rfl)
instance : FD Try.prog 14 1 1 12 := fd_of (by kernel_rfl)
instance : FD Try.prog 18 0 0 17 := fd_of (by kernel_rfl)
instance : FD Try.prog 19 0 0 17 := fd_of (by kernel_rfl)
instance : FD Try.prog 28 0 0 3 := fd_of (by kernel_rfl)
instance : FD Try.prog 28 1 1 3 := fd_of (by kernel_rfl)
instance : FD Try.prog 29 0 0 3 := fd_of (by kernel_rfl)
instance : FD Try.prog 29 1 1 3 := fd_of (by kernel_rfl)
instance : FD Try.prog 30 0 0 29 := fd_of (by kernel_rfl)
instance : FD Try.prog 30 1 2 29 := fd_of (by kernel_rfl)
instance : FD Try.prog 31 0 0 29 := fd_of (by kernel_rfl)
instance : FD Try.prog 31 1 2 29 := fd_of (by kernel_rfl)
instance : FD Try.prog 35 0 0 34 := fd_of (by kernel_rfl)
instance : FD Try.prog 35 1 1 3 := fd_of (by kernel_rfl)
instance : FD Try.prog 36 0 0 34 := fd_of (by kernel_rfl)
instance : FD Try.prog 36 1 1 3 := fd_of (by kernel_rfl)
instance : FD Try.prog 37 0 0 3 := fd_of (by kernel_rfl)
instance : FD Try.prog 37 1 1 31 := fd_of (by kernel_rfl)
instance : FD Try.prog 37 2 5 3 := fd_of (by kernel_rfl)
instance : FD Try.prog 37 3 6 3 := fd_of (by kernel_rfl)
instance : FD Try.prog 38 0 0 3 := fd_of (by kernel_rfl)
instance : FD Try.prog 38 1 1 31 := fd_of (by kernel_rfl)
instance : FD Try.prog 38 2 5 3 := fd_of (by kernel_rfl)
instance : FD Try.prog 38 3 6 3 := fd_of (by kernel_rfl)
instance : FD Try.prog 57 0 0 4 := fd_of (by kernel_rfl)
instance : FD Try.prog 57 1 1 38 := fd_of (by kernel_rfl)
instance : FD Try.prog 58 0 0 4 := fd_of (by kernel_rfl)
instance : FD Try.prog 58 1 1 38 := fd_of (by kernel_rfl)
instance : FD Try.prog 67 0 0 65 := fd_of (by kernel_rfl)
instance : FD Try.prog 67 1 1 66 := fd_of (by kernel_rfl)
instance : FD Try.prog 67 2 2 3 := fd_of (by kernel_rfl)
instance : FD Try.prog 68 0 0 65 := fd_of (by kernel_rfl)
instance : FD Try.prog 68 1 1 66 := fd_of (by kernel_rfl)
instance : FD Try.prog 68 2 2 3 := fd_of (by kernel_rfl)
instance : FD Try.prog 73 0 0 3 := fd_of (by kernel_rfl)
instance : FD Try.prog 73 1 1 3 := fd_of (by kernel_rfl)
instance : FD Try.prog 73 2 2 3 := fd_of (by kernel_rfl)
instance : FD Try.prog 74 0 0 3 := fd_of (by kernel_rfl)
instance : FD Try.prog 74 1 1 3 := fd_of (by kernel_rfl)
instance : FD Try.prog 74 2 2 3 := fd_of (by kernel_rfl)
instance : FD Try.prog 77 0 0 76 := fd_of (by kernel_rfl)
instance : FD Try.prog 77 1 4 66 := fd_of (by kernel_rfl)
instance : FD Try.prog 78 0 0 76 := fd_of (by kernel_rfl)
instance : FD Try.prog 78 1 4 66 := fd_of (by kernel_rfl)
instance : FD Try.prog 79 0 0 31 := fd_of (by kernel_rfl)
instance : FD Try.prog 79 1 4 3 := fd_of (by kernel_rfl)
instance : FD Try.prog 79 2 5 3 := fd_of (by kernel_rfl)
instance : FD Try.prog 80 0 0 31 := fd_of (by kernel_rfl)
instance : FD Try.prog 80 1 4 3 := fd_of (by kernel_rfl)
instance : FD Try.prog 80 2 5 3 := fd_of (by kernel_rfl)
instance : FD Try.prog 87 0 0 3 := fd_of (by kernel_rfl)
instance : FD Try.prog 87 1 1 3 := fd_of (by kernel_rfl)
instance : FD Try.prog 87 2 2 3 := fd_of (by kernel_rfl)
instance : FD Try.prog 88 0 0 3 := fd_of (by kernel_rfl)
instance : FD Try.prog 88 1 1 3 := fd_of (by kernel_rfl)
instance : FD Try.prog 88 2 2 3 := fd_of (by kernel_rfl)
instance : FD Try.prog 123 0 0 17 := fd_of (by kernel_rfl)
instance : FD Try.prog 123 1 1 17 := fd_of (by kernel_rfl)
instance : FD Try.prog 123 2 2 17 := fd_of (by kernel_rfl)
instance : FD Try.prog 123 3 3 9 := fd_of (by kernel_rfl)
instance : FD Try.prog 124 0 0 17 := fd_of (by kernel_rfl)
instance : FD Try.prog 124 1 1 17 := fd_of (by kernel_rfl)
instance : FD Try.prog 124 2 2 17 := fd_of (by kernel_rfl)
instance : FD Try.prog 124 3 3 9 := fd_of (by kernel_rfl)
instance : FD Try.prog 126 0 0 125 := fd_of (by kernel_rfl)
instance : FD Try.prog 127 0 0 125 := fd_of (by kernel_rfl)
instance : FD Try.prog 134 0 0 12 := fd_of (by kernel_rfl)
instance : FD Try.prog 134 1 1 12 := fd_of (by kernel_rfl)
instance : FD Try.prog 134 2 2 109 := fd_of (by kernel_rfl)
instance : FD Try.prog 134 3 3 128 := fd_of (by kernel_rfl)
instance : FD Try.prog 134 4 4 5 := fd_of (by kernel_rfl)
instance : FD Try.prog 134 5 5 5 := fd_of (by kernel_rfl)
instance : FD Try.prog 134 6 6 129 := fd_of (by kernel_rfl)
instance : FD Try.prog 134 7 7 130 := fd_of (by kernel_rfl)
instance : FD Try.prog 134 8 8 131 := fd_of (by kernel_rfl)
instance : FD Try.prog 134 9 9 132 := fd_of (by kernel_rfl)
instance : FD Try.prog 134 10 10 133 := fd_of (by kernel_rfl)
instance : FD Try.prog 135 0 0 12 := fd_of (by kernel_rfl)
instance : FD Try.prog 135 1 1 12 := fd_of (by kernel_rfl)
instance : FD Try.prog 135 2 2 109 := fd_of (by kernel_rfl)
instance : FD Try.prog 135 3 3 128 := fd_of (by kernel_rfl)
instance : FD Try.prog 135 4 4 5 := fd_of (by kernel_rfl)
instance : FD Try.prog 135 5 5 5 := fd_of (by kernel_rfl)
instance : FD Try.prog 135 6 6 129 := fd_of (by kernel_rfl)
instance : FD Try.prog 135 7 7 130 := fd_of (by kernel_rfl)
instance : FD Try.prog 135 8 8 131 := fd_of (by kernel_rfl)
instance : FD Try.prog 135 9 9 132 := fd_of (by kernel_rfl)
instance : FD Try.prog 135 10 10 133 := fd_of (by kernel_rfl)
instance : BD Try.prog 7 [(0, 1), (1, 1), (2, 1), (3, 1)] [(.int .i64 0), (.int .i64 0), (.bool false), (.int .u8 0)] := ⟨fun w => by kernel_rfl, fun w => by kernel_rfl⟩
instance : BD Try.prog 8 [(0, 1), (1, 1), (2, 1), (3, 1)] [(.int .i64 0), (.int .i64 0), (.bool false), (.int .u8 0)] := ⟨fun w => by kernel_rfl, fun w => by kernel_rfl⟩
instance : BD Try.prog 13 [(0, 1), (1, 1)] [(.string ⟨#[]⟩), (.int .u64 0)] := ⟨fun w => by kernel_rfl, fun w => by kernel_rfl⟩
instance : BD Try.prog 14 [(0, 1), (1, 1)] [(.string ⟨#[]⟩), (.int .u64 0)] := ⟨fun w => by kernel_rfl, fun w => by kernel_rfl⟩
instance : BD Try.prog 18 [(0, 1)] [(.pointer none)] := ⟨fun w => by kernel_rfl, fun w => by kernel_rfl⟩
instance : BD Try.prog 19 [(0, 1)] [(.pointer none)] := ⟨fun w => by kernel_rfl, fun w => by kernel_rfl⟩
instance : BD Try.prog 28 [(0, 1), (1, 1)] [(.int .i64 0), (.int .i64 0)] := ⟨fun w => by kernel_rfl, fun w => by kernel_rfl⟩
instance : BD Try.prog 29 [(0, 1), (1, 1)] [(.int .i64 0), (.int .i64 0)] := ⟨fun w => by kernel_rfl, fun w => by kernel_rfl⟩
instance : BD Try.prog 30 [(0, 2), (2, 2)] [(.int .i64 0), (.int .i64 0), (.int .i64 0), (.int .i64 0)] := ⟨fun w => by kernel_rfl, fun w => by kernel_rfl⟩
instance : BD Try.prog 31 [(0, 2), (2, 2)] [(.int .i64 0), (.int .i64 0), (.int .i64 0), (.int .i64 0)] := ⟨fun w => by kernel_rfl, fun w => by kernel_rfl⟩
instance : BD Try.prog 35 [(0, 1), (1, 1)] [(.slice none 0 0), (.int .i64 0)] := ⟨fun w => by kernel_rfl, fun w => by kernel_rfl⟩
instance : BD Try.prog 36 [(0, 1), (1, 1)] [(.slice none 0 0), (.int .i64 0)] := ⟨fun w => by kernel_rfl, fun w => by kernel_rfl⟩
instance : BD Try.prog 37 [(0, 1), (1, 4), (5, 1), (6, 1)] [(.int .i64 0), (.int .i64 0), (.int .i64 0), (.int .i64 0), (.int .i64 0), (.int .i64 0), (.int .i64 0)] := ⟨fun w => by kernel_rfl, fun w => by kernel_rfl⟩
instance : BD Try.prog 38 [(0, 1), (1, 4), (5, 1), (6, 1)] [(.int .i64 0), (.int .i64 0), (.int .i64 0), (.int .i64 0), (.int .i64 0), (.int .i64 0), (.int .i64 0)] := ⟨fun w => by kernel_rfl, fun w => by kernel_rfl⟩
instance : BD Try.prog 57 [(0, 1), (1, 7)] [(.bool false), (.int .i64 0), (.int .i64 0), (.int .i64 0), (.int .i64 0), (.int .i64 0), (.int .i64 0), (.int .i64 0)] := ⟨fun w => by kernel_rfl, fun w => by kernel_rfl⟩
instance : BD Try.prog 58 [(0, 1), (1, 7)] [(.bool false), (.int .i64 0), (.int .i64 0), (.int .i64 0), (.int .i64 0), (.int .i64 0), (.int .i64 0), (.int .i64 0)] := ⟨fun w => by kernel_rfl, fun w => by kernel_rfl⟩
instance : BD Try.prog 67 [(0, 1), (1, 1), (2, 1)] [(.pointer none), (.map none), (.int .i64 0)] := ⟨fun w => by kernel_rfl, fun w => by kernel_rfl⟩
instance : BD Try.prog 68 [(0, 1), (1, 1), (2, 1)] [(.pointer none), (.map none), (.int .i64 0)] := ⟨fun w => by kernel_rfl, fun w => by kernel_rfl⟩
instance : BD Try.prog 73 [(0, 1), (1, 1), (2, 1)] [(.int .i64 0), (.int .i64 0), (.int .i64 0)] := ⟨fun w => by kernel_rfl, fun w => by kernel_rfl⟩
instance : BD Try.prog 74 [(0, 1), (1, 1), (2, 1)] [(.int .i64 0), (.int .i64 0), (.int .i64 0)] := ⟨fun w => by kernel_rfl, fun w => by kernel_rfl⟩
instance : BD Try.prog 77 [(0, 4), (4, 1)] [(.pointer none), (.pointer none), (.pointer none), (.pointer none), (.map none)] := ⟨fun w => by kernel_rfl, fun w => by kernel_rfl⟩
instance : BD Try.prog 78 [(0, 4), (4, 1)] [(.pointer none), (.pointer none), (.pointer none), (.pointer none), (.map none)] := ⟨fun w => by kernel_rfl, fun w => by kernel_rfl⟩
instance : BD Try.prog 79 [(0, 4), (4, 1), (5, 1)] [(.int .i64 0), (.int .i64 0), (.int .i64 0), (.int .i64 0), (.int .i64 0), (.int .i64 0)] := ⟨fun w => by kernel_rfl, fun w => by kernel_rfl⟩
instance : BD Try.prog 80 [(0, 4), (4, 1), (5, 1)] [(.int .i64 0), (.int .i64 0), (.int .i64 0), (.int .i64 0), (.int .i64 0), (.int .i64 0)] := ⟨fun w => by kernel_rfl, fun w => by kernel_rfl⟩
instance : BD Try.prog 87 [(0, 1), (1, 1), (2, 1)] [(.int .i64 0), (.int .i64 0), (.int .i64 0)] := ⟨fun w => by kernel_rfl, fun w => by kernel_rfl⟩
instance : BD Try.prog 88 [(0, 1), (1, 1), (2, 1)] [(.int .i64 0), (.int .i64 0), (.int .i64 0)] := ⟨fun w => by kernel_rfl, fun w => by kernel_rfl⟩
instance : BD Try.prog 123 [(0, 1), (1, 1), (2, 1), (3, 1)] [(.pointer none), (.pointer none), (.pointer none), (.string ⟨#[]⟩)] := ⟨fun w => by kernel_rfl, fun w => by kernel_rfl⟩
instance : BD Try.prog 124 [(0, 1), (1, 1), (2, 1), (3, 1)] [(.pointer none), (.pointer none), (.pointer none), (.string ⟨#[]⟩)] := ⟨fun w => by kernel_rfl, fun w => by kernel_rfl⟩
instance : BD Try.prog 126 [(0, 0)] [] := ⟨fun w => by kernel_rfl, fun w => by kernel_rfl⟩
instance : BD Try.prog 127 [(0, 0)] [] := ⟨fun w => by kernel_rfl, fun w => by kernel_rfl⟩
instance : BD Try.prog 134 [(0, 1), (1, 1), (2, 1), (3, 1), (4, 1), (5, 1), (6, 1), (7, 1), (8, 1), (9, 1), (10, 1)] [(.int .u64 0), (.int .u64 0), (.int .u32 0), (.int .u8 0), (.int .u8 0), (.int .u8 0), (.int .u8 0), .nilFunc, (.pointer none), (.int .i32 0), (.int .i32 0)] := ⟨fun w => by kernel_rfl, fun w => by kernel_rfl⟩
instance : BD Try.prog 135 [(0, 1), (1, 1), (2, 1), (3, 1), (4, 1), (5, 1), (6, 1), (7, 1), (8, 1), (9, 1), (10, 1)] [(.int .u64 0), (.int .u64 0), (.int .u32 0), (.int .u8 0), (.int .u8 0), (.int .u8 0), (.int .u8 0), .nilFunc, (.pointer none), (.int .i32 0), (.int .i32 0)] := ⟨fun w => by kernel_rfl, fun w => by kernel_rfl⟩
end Go.Proofs.Ytnjjifikogblpaa
namespace Go.Proofs.Ytnjjifikogblpaa
open Go Go.RowKit
set_option linter.unusedVariables false
set_option linter.unusedSimpArgs false
theorem u64_lt (a : UInt64) : a.toNat < 18446744073709551616 := by have := a.toBitVec.isLt; simpa using this
theorem u64_ofInt (a : UInt64) : BitVec.ofInt 64 (a.toNat : Int) = a.toBitVec := by
  apply BitVec.eq_of_toNat_eq
  rw [BitVec.ofInt_natCast, BitVec.toNat_ofNat]
  have := u64_lt a
  exact Nat.mod_eq_of_lt this
theorem u64_wrap (n : Nat) : IntKind.u64.wrap (n : Int) = ((UInt64.ofNat n).toNat : Int) := by
  rw [IntKind.wrap_u64]; simp
theorem u64_xor (a b : UInt64) : bits .xor .u64 (a.toNat : Int) (b.toNat : Int) = ((a ^^^ b).toNat : Int) := by
  show IntKind.u64.wrap ((BitVec.ofInt 64 (a.toNat : Int) ^^^ BitVec.ofInt 64 (b.toNat : Int)).toNat : Int) = _
  rw [u64_ofInt, u64_ofInt, u64_wrap]
  simp
theorem u64_or (a b : UInt64) : bits .or .u64 (a.toNat : Int) (b.toNat : Int) = ((a ||| b).toNat : Int) := by
  show IntKind.u64.wrap ((BitVec.ofInt 64 (a.toNat : Int) ||| BitVec.ofInt 64 (b.toNat : Int)).toNat : Int) = _
  rw [u64_ofInt, u64_ofInt, u64_wrap]
  simp
theorem u64_mul (a b : UInt64) : IntKind.u64.wrap ((a.toNat : Int) * (b.toNat : Int)) = ((a * b).toNat : Int) := by
  rw [← Int.natCast_mul, u64_wrap]; simp
theorem u64_add (a b : UInt64) : IntKind.u64.wrap ((a.toNat : Int) + (b.toNat : Int)) = ((a + b).toNat : Int) := by
  rw [← Int.natCast_add, u64_wrap]; simp
theorem u64_tdiv (a b : UInt64) : IntKind.u64.wrap ((a.toNat : Int).tdiv (b.toNat : Int)) = ((a / b).toNat : Int) := by
  rw [Int.tdiv_eq_ediv_of_nonneg (by omega), ← Int.natCast_ediv, u64_wrap]
  have h1 := u64_lt a
  have h2 : a.toNat / b.toNat ≤ a.toNat := Nat.div_le_self _ _
  rw [UInt64.toNat_div]
  congr 1
  simp
  omega
end Go.Proofs.Ytnjjifikogblpaa
namespace Go.Proofs.Ytnjjifikogblpaa
open Go Go.RowKit
set_option linter.unusedVariables false
set_option linter.unusedSimpArgs false
def hC : UInt64 := 11400714819323198485
def mix (s w : UInt64) : UInt64 := ((s ^^^ w) * hC) ^^^ (((s ^^^ w) * hC) >>> 32)
/-- little endian -/
def leW : List UInt8 → UInt64
  | [] => 0
  | b :: r => 256 * leW r + b.toUInt64
def wordAt (l : List UInt8) (j : Nat) : UInt64 := leW ((l.drop (8 * j)).take 8)
def wordsOf (l : List UInt8) : List UInt64 := (List.range ((l.length + 7) / 8)).map (wordAt l)
def toI (w : UInt64) : Int := wrap64 (w.toNat : Int)
def mixI (s : UInt64) (n : Int) : UInt64 := mix s (UInt64.ofInt n)
def sumW (label : List UInt8) (l : List Int) : UInt64 :=
  mix (l.foldl mixI (mix (mix ((wordsOf label).foldl mix 0) (UInt64.ofNat label.length)) (UInt64.ofNat l.length))) 0
def bytesW (label b : List UInt8) : UInt64 := sumW label ((wordsOf b).map toI ++ [(b.length : Int)])
def pairT : List UInt8 := [112, 97, 105, 114]
def pairW (a b : UInt64) : UInt64 := sumW pairT [toI a, toI b]

def around (n most : Int) : Int := (if n < 0 then -(n + 1) else n) % most
def shortS (s : ByteArray) (most : Nat) : ByteArray := if most < s.size then s.extract 0 most else s
theorem mix_walk (s w : UInt64) : (Value.int IntKind.u64
            (bits BinOp.xor IntKind.u64
              (IntKind.u64.wrap (bits BinOp.xor IntKind.u64 ↑s.toNat ↑w.toNat * 11400714819323198485))
              (IntKind.u64.wrap (bits BinOp.xor IntKind.u64 ↑s.toNat ↑w.toNat * 11400714819323198485) / 4294967296))) = uv (mix s w) := by
  have h1 : IntKind.u64.wrap (bits BinOp.xor IntKind.u64 ↑s.toNat ↑w.toNat * 11400714819323198485) = (((s ^^^ w) * hC).toNat : Int) := by
    rw [u64_xor, ← u64_mul]; rfl
  rw [h1]
  have h2 : ((((s ^^^ w) * hC).toNat : Int) / (4294967296 : Int)) = ((((s ^^^ w) * hC) >>> 32).toNat : Int) := by
    rw [UInt64.toNat_shiftRight, Nat.shiftRight_eq_div_pow, Int.natCast_ediv]
    rfl
  rw [h2, u64_xor]
  rfl
theorem mix_walk2 (s w : UInt64) : (Value.int IntKind.u64
            (bits BinOp.xor IntKind.u64
              (IntKind.u64.wrap (bits BinOp.xor IntKind.u64 ↑s.toNat ↑w.toNat * 11400714819323198485))
              (IntKind.u64.wrap ((IntKind.u64.wrap (bits BinOp.xor IntKind.u64 ↑s.toNat ↑w.toNat * 11400714819323198485)).tdiv 4294967296)))) = uv (mix s w) := by
  have h1 : IntKind.u64.wrap (bits BinOp.xor IntKind.u64 ↑s.toNat ↑w.toNat * 11400714819323198485) = (((s ^^^ w) * hC).toNat : Int) := by
    rw [u64_xor, ← u64_mul]; rfl
  rw [h1]
  have h2 : IntKind.u64.wrap ((((s ^^^ w) * hC).toNat : Int).tdiv (4294967296 : Int)) = ((((s ^^^ w) * hC) >>> 32).toNat : Int) := by
    have := u64_tdiv ((s ^^^ w) * hC) 4294967296
    have e : ((s ^^^ w) * hC) / (4294967296 : UInt64) = ((s ^^^ w) * hC) >>> 32 := by
      apply UInt64.toNat_inj.1
      rw [UInt64.toNat_shiftRight, Nat.shiftRight_eq_div_pow, UInt64.toNat_div]
      rfl
    rw [e] at this
    exact this
  rw [h2, u64_xor]
  rfl
theorem ofInt_walk (n : Int) : (Value.int IntKind.u64 (IntKind.u64.wrap n)) = uv (UInt64.ofInt n) := by
  congr 1
  rw [IntKind.wrap_u64]
  simp [UInt64.ofInt]
  omega
theorem u64_ofNat (n : Nat) (h : n < 18446744073709551616) : (n : Int) = ((UInt64.ofNat n).toNat : Int) := by
  simp; omega
theorem ofIntI (n : Int) : IntKind.u64.wrap n = ((UInt64.ofInt n).toNat : Int) := (Value.int.inj (ofInt_walk n)).2
theorem leW_lt : ∀ {l : List UInt8}, l.length ≤ 8 → (leW l).toNat < 256 ^ l.length ∧ True
  | [], _ => by simp [leW]
  | b :: r, h => by
    have ih := (leW_lt (l := r) (by simp at h; omega)).1
    have hb : b.toNat < 256 := b.toNat_lt
    refine ⟨?_, trivial⟩
    have hp : 256 ^ r.length ≤ 256 ^ 7 := Nat.pow_le_pow_right (by decide) (by simp at h; omega)
    have e : (256 : Nat) ^ 7 = 72057594037927936 := by decide
    rw [e] at hp
    simp only [leW, List.length_cons, UInt64.toNat_add, UInt64.toNat_mul, UInt8.toNat_toUInt64]
    have e2 : (256 : UInt64).toNat = 256 := rfl
    rw [e2, Nat.pow_succ]
    omega
theorem leW_snoc_step (l : List UInt8) (i : Nat) (x : UInt8) (n : Nat) (hx : l[i]? = some x) : leW ((l.drop i).take (n + 1)) = 256 * leW ((l.drop (i + 1)).take n) + x.toUInt64 := by
  obtain ⟨hlt, rfl⟩ := List.getElem?_eq_some_iff.1 hx
  rw [List.drop_eq_getElem_cons hlt, List.take_succ_cons]
  rfl
theorem leW_walk (w : UInt64) (x : UInt8) : (Value.int IntKind.u64 (IntKind.u64.wrap (IntKind.u64.wrap (256 * (w.toNat : Int)) + (x.toNat : Int)))) = uv (256 * w + x.toUInt64) := by
  have h1 : IntKind.u64.wrap (256 * (w.toNat : Int)) = ((256 * w).toNat : Int) := u64_mul 256 w
  rw [h1]
  have h2 := u64_add (256 * w) x.toUInt64
  rw [UInt8.toNat_toUInt64] at h2
  rw [h2]
theorem leW_snoc (x : UInt8) : ∀ {l : List UInt8}, l.length < 8 → (leW (l ++ [x])).toNat = (leW l).toNat + 256 ^ l.length * x.toNat
  | [], _ => by simp [leW]
  | b :: r, h => by
    have ih := leW_snoc x (l := r) (by simp at h; omega)
    have hb : b.toNat < 256 := b.toNat_lt
    have h1 := (leW_lt (l := r ++ [x]) (by simp at h ⊢; omega)).1
    have h2 := (leW_lt (l := r) (by simp at h ⊢; omega)).1
    have hp : 256 ^ (r ++ [x]).length ≤ 256 ^ 7 := Nat.pow_le_pow_right (by decide) (by simp at h ⊢; omega)
    have hp2 : 256 ^ r.length ≤ 256 ^ 7 := Nat.pow_le_pow_right (by decide) (by simp at h ⊢; omega)
    have e : (256 : Nat) ^ 7 = 72057594037927936 := by decide
    rw [e] at hp hp2
    simp only [leW, List.cons_append, List.length_cons, UInt64.toNat_add, UInt64.toNat_mul, UInt8.toNat_toUInt64]
    have e2 : (256 : UInt64).toNat = 256 := rfl
    rw [e2, ih] at *
    have e3 : 256 ^ (r.length + 1) * x.toNat = 256 * (256 ^ r.length * x.toNat) := by rw [Nat.pow_succ]; rw [Nat.mul_comm (256 ^ r.length) 256, Nat.mul_assoc]
    rw [e3]
    omega
theorem leW_or {l : List UInt8} {q : Nat} {x : UInt8} (hx : l[q]? = some x) (hq : q < 8) :
    (Value.int IntKind.u64 (bits BinOp.or IntKind.u64 (↑(leW (l.take q)).toNat) (IntKind.u64.wrap (IntKind.u64.wrap ↑x.toNat * 2 ^ (8 * q))))) = uv (leW (l.take (q + 1))) := by
  have hlt := (List.getElem?_eq_some_iff.1 hx).1
  have hlen : (l.take q).length = q := by simp; omega
  have h1 := leW_snoc x (l := l.take q) (by omega)
  rw [hlen] at h1
  have h2 := (leW_lt (l := l.take q) (by omega)).1
  rw [hlen] at h2
  have e : l.take (q + 1) = l.take q ++ [x] := by rw [List.take_add_one, hx]; rfl
  rw [e]
  have hxl := x.toNat_lt
  have hp : 256 ^ q ≤ 256 ^ 7 := Nat.pow_le_pow_right (by decide) (by omega)
  have e7 : (256 : Nat) ^ 7 = 72057594037927936 := by decide
  rw [e7] at hp
  have hm : 256 ^ q * x.toNat < 18446744073709551616 := Nat.lt_of_lt_of_le (Nat.mul_lt_mul_of_le_of_lt hp hxl (by decide)) (by decide)
  have ew : IntKind.u64.wrap (x.toNat : Int) = (x.toNat : Int) := by rw [IntKind.wrap_u64]; omega
  have e2 : ((x.toNat : Int) * 2 ^ (8 * q)) = ((256 ^ q * x.toNat : Nat) : Int) := by
    have e0 : (256 : Nat) ^ q = 2 ^ (8 * q) := by rw [Nat.pow_mul]
    rw [e0, Int.natCast_mul, Int.natCast_pow, Int.mul_comm]
    rfl
  rw [ew, e2]
  have e3 : IntKind.u64.wrap (((256 ^ q * x.toNat : Nat)) : Int) = ((UInt64.ofNat (256 ^ q * x.toNat)).toNat : Int) := by
    rw [IntKind.wrap_u64]
    generalize 256 ^ q * x.toNat = n at hm
    simp
  rw [e3, u64_or]
  congr 2
  rw [UInt64.toNat_or, h1]
  have e4 : (UInt64.ofNat (256 ^ q * x.toNat)).toNat = 256 ^ q * x.toNat := by
    generalize 256 ^ q * x.toNat = n at hm
    simp; omega
  rw [e4, Nat.or_comm]
  have e5 : (256 : Nat) ^ q = 2 ^ (8 * q) := by rw [Nat.pow_mul]
  rw [e5] at h2 ⊢
  rw [← Nat.two_pow_add_eq_or_of_lt h2, Nat.add_comm]
theorem leW_or2 {l : List UInt8} {q : Nat} {x : UInt8} (hx : l[q]? = some x) (hq : q < 8) :
    (Value.int IntKind.u64 (bits BinOp.or IntKind.u64 (↑(leW (l.take q)).toNat) (IntKind.u64.wrap (↑x.toNat * 2 ^ (8 * q))))) = uv (leW (l.take (q + 1))) := by
  have h := leW_or hx hq
  have hxl := x.toNat_lt
  have ew : IntKind.u64.wrap (x.toNat : Int) = (x.toNat : Int) := by rw [IntKind.wrap_u64]; omega
  rw [ew] at h
  exact h
theorem words_part {bs : List UInt8} {j : Nat} (h : 8 * j < bs.length) : wordsOf bs = (wordsOf bs).take j ++ wordAt bs j :: (wordsOf bs).drop (j + 1) ∧ (wordsOf bs).take (j + 1) = (wordsOf bs).take j ++ [wordAt bs j] := by
  have hl : (wordsOf bs)[j]? = some (wordAt bs j) := by
    unfold wordsOf
    rw [List.getElem?_map, List.getElem?_range (by omega)]
    rfl
  obtain ⟨hlt, he⟩ := List.getElem?_eq_some_iff.1 hl
  refine ⟨?_, by rw [List.take_add_one, hl]; rfl⟩
  rw [← he, ← List.drop_eq_getElem_cons hlt, List.take_append_drop]
theorem words_all {bs : List UInt8} {j : Nat} (h : bs.length ≤ 8 * j) : (wordsOf bs).take j = wordsOf bs := List.take_of_length_le (by simp [wordsOf]; omega)
theorem word_whole {bs : List UInt8} {j m : Nat} (h : m = 8 ∨ 8 * j + m = bs.length) (h8 : m ≤ 8) : leW ((bs.drop (8 * j)).take m) = wordAt bs j := by
  unfold wordAt
  rcases h with rfl | h
  · rfl
  · rw [List.take_of_length_le (by simp; omega), List.take_of_length_le (by simp; omega)]
end Go.Proofs.Ytnjjifikogblpaa
namespace Go.Proofs.Ytnjjifikogblpaa
open Go Go.RowKit
set_option linter.unusedVariables false
set_option linter.unusedSimpArgs false
set_option maxRecDepth 20000
set_option synthInstance.maxSize 100000
set_option synthInstance.maxHeartbeats 400000
theorem CT.pull {P : Program} {W0 : World} {L : List HP} {f : FuncId} {args : Array Value} {A : HP} {i : Nat} {Le : List HP} {R : Value → List HP → Prop} (hi : L[i]? = some A) (h : CT P f args W0 (A :: Le) R) (he : L.eraseIdx i = Le := by exact EAt.pf) : CT P f args W0 L R := by subst he; exact CT.at_ hi h
theorem dy_litP {P : Program} {W0 : World} {L : List HP} {a : Act} {d : Option Tmp} {ty : TypeId} {pos : String} {aft : Array Edge} {gd : Option (Nat × Bool)} {t : TypeId} {n : Nat} {ps : List (Nat × Operand)} {vs : List (Nat × Value)} {e : TypeId} {zv : Value} {by_ : Nat} [ut : UL P t (.slice e)] [ti : TI P e zv 1 by_] [hps : PartsI a ps vs] {α : Type} {f : α → Value} {hf : ∀ a, (f a).oneCell' = true} (els : List α)
    (hp : vs = ((els.map f).zipIdx 0).map fun x => (x.2, x.1)) (hn : els.length = n := by rfl) (hpos : 0 < n := by decide) (hsm : n ≤ 16777216 := by decide) :
    DY P W0 L ⟨d, .buildSlice t n ps.toArray, ty, pos, aft, gd⟩ a fun a' L' => ∃ g, a.put d (.slice (some ⟨g, 0, none⟩) n n) = a' ∧ L' = own e (e1 f hf) (.slice (some ⟨g, 0, none⟩) n n) els :: L :=
  dy_litN els hn hpos hsm (by have := hps.pf; rw [List.map_toArray]; simp only; rw [← hp, ← this])
theorem Around_any (n most : Int) (w : World) (h1 : -9223372036854775808 ≤ n) (h2 : n ≤ 9223372036854775807) (h3 : 1 ≤ most) (h4 : most ≤ 9223372036854775807) :
    Calls Try.prog 13 #[iv n, iv most] w fun e w' => e = .returned (iv (around n most)) ∧ w = w' := by
  have hm : (most == 0) = false := by simp; omega
  by_cases hn : n < 0
  · go_enter Try.func13, Try.ntmps13
    go_wp2
    go_ret
    refine ⟨?_, rfl⟩
    have e : -((n + 1).tmod most) = (-(n + 1)) % most := by rw [← Int.neg_tmod]; exact Int.tmod_eq_emod_of_nonneg (by omega)
    have e2 : around n most = (-(n + 1)) % most := by unfold around; rw [if_pos hn]
    rw [e2]
    first | rfl | exact congrArg (fun x => Ending.returned (iv x)) e
  · go_enter Try.func13, Try.ntmps13
    go_wp2
    go_ret
    refine ⟨?_, rfl⟩
    have e2 : around n most = n % most := by unfold around; rw [if_neg (by omega)]
    rw [e2]
    rfl
theorem SameInts_any {W0 w : World} {L : List HP} (hS : St W0 w L) {va vb : Value} {la lb : List Int} (ha : Src L eI va la) (hb : Src L eI vb lb) (hla : la.length ≤ 140737488355328) (hlb : lb.length ≤ 140737488355328) :
    Calls Try.prog 16 #[va, vb] w fun e w' => e = .returned (.bool (decide (la = lb))) ∧ St W0 w' L := by
  obtain ⟨A, ca, rfl, hca⟩ := (ha.sl hS).form
  obtain ⟨B, cb, rfl, hcb⟩ := (hb.sl hS).form
  by_cases hlen : la.length = lb.length
  · have hl2 := Lib.hid hlen
    have hle : lb.length ≤ la.length := by omega
    have hge : la.length ≤ lb.length := by omega
    have hne : ((la.length : Int) != (lb.length : Int)) = false := by simp [hlen]
    clear hlen
    go_enter Try.func16, Try.ntmps16
    go_wp2
    go_loopw [5] (fun i wr => Hid (∃ k : Nat, k ≤ la.length ∧ i = .int .i64 k ∧ la.take k = lb.take k ∧ St W0 wr L)) (fun i _ => la.length - (intOf i).toNat)
    case atStart => exact Lib.hid ⟨0, by omega, rfl, rfl, hS⟩
    case round =>
      clear hS
      obtain ⟨k, hk, rfl, he, hS⟩ := hrel.out
      clear hrel
      have he := Lib.hid he
      by_cases hlt : k < la.length
      · obtain ⟨b1, o1, x, hx, c1, rfl⟩ := (ha.sl hS).cell1 hlt
        obtain ⟨b2, o2, y, hy, c2, rfl⟩ := (hb.sl hS).cell1 (i := k) (by omega)
        have hx := Lib.hid hx
        have hy := Lib.hid hy
        by_cases hxy : x = y
        · have hxy' : (x != y) = false := by simp [hxy]
          have hxy := Lib.hid hxy
          go_wp2_with fail
          go_quiet (fail)
          go_wp2_with fail
          go_roundw
          case rel =>
            refine Lib.hid ⟨k + 1, by omega, by go_num, ?_, hS.drewN _⟩
            rw [List.take_add_one, List.take_add_one, he.out, hx.out, hy.out, hxy.out]
          case measure => simp [intOf]; omega
        · have hxy' : (x != y) = true := by
            simp only [bne_iff_ne, ne_eq]
            intro e
            exact hxy (by first | exact e | exact UInt8.toNat_inj.1 (by omega))
          go_wp2_with fail
          go_quiet (fail)
          go_wp2_with fail
          go_ret
          refine ⟨?_, hS.drewN _⟩
          have hd : decide (la = lb) = false := by
            simp only [decide_eq_false_iff_not]
            intro e
            subst e
            have h1 := hx.out
            rw [hy.out] at h1
            exact hxy (Option.some.inj h1).symm
          rw [hd]
          rfl
      · obtain rfl : k = la.length := by omega
        go_wp2_with fail
        go_ret
        refine ⟨?_, hS⟩
        have hd : decide (la = lb) = true := by
          simp only [decide_eq_true_eq]
          have h1 := he.out
          rw [List.take_length, hl2.out, List.take_length] at h1
          exact h1
        rw [hd]
        rfl
  · have hne : ((la.length : Int) != (lb.length : Int)) = true := by simp; omega
    go_enter Try.func16, Try.ntmps16
    go_wp2_with fail
    go_ret
    refine ⟨?_, hS⟩
    have hd : decide (la = lb) = false := by
      simp only [decide_eq_false_iff_not]
      intro e
      exact hlen (by rw [e])
    rw [hd]
    rfl
section
variable {W0 : World} {L : List HP}
theorem Around_ct {n most : Int} (h1 : -9223372036854775808 ≤ n) (h2 : n ≤ 9223372036854775807) (h3 : 1 ≤ most) (h4 : most ≤ 9223372036854775807) :
    CT Try.prog 13 #[.int .i64 n, .int .i64 most] W0 L fun r L' => r = .int .i64 (around n most) ∧ L' = L :=
  ⟨fun w s => (Around_any n most w h1 h2 h3 h4).mono fun e w' ⟨h, hw⟩ => ⟨_, _, h, ⟨rfl, rfl⟩, hw ▸ s⟩⟩
theorem around_in {n most : Int} (h3 : 1 ≤ most) : 0 ≤ around n most ∧ around n most < most := by
  unfold around
  split <;> exact ⟨Int.emod_nonneg _ (by omega), Int.emod_lt_of_pos _ (by omega)⟩
theorem SameInts_ct {va vb : Value} {la lb : List Int} {q : Bool} (ha : Src L eI va la) (hb : Src L eI vb lb) (hla : la.length ≤ 140737488355328) (hlb : lb.length ≤ 140737488355328) (hq : decide (la = lb) = q) :
    CT Try.prog 16 #[va, vb] W0 L fun r L' => r = .bool q ∧ L' = L :=
  ⟨fun w s => (SameInts_any s ha hb hla hlb).mono fun e w' ⟨h, hs⟩ => ⟨_, _, h, ⟨by rw [hq], rfl⟩, hs⟩⟩
end
end Go.Proofs.Ytnjjifikogblpaa
