/-
  What is known of each struct type's fields.
-/
import Derived.Laws.BitsAllLaws
import Derived.Outline
import Derived.Lib.Hide
import Derived.Deep.QuietTactic
import Derived.BigQuiet
import Derived.Test.YtlmabajgnjiigaaMC
import Derived.Test.YtlmabajgnjiigaaMI
namespace Go.Proofs.Ytlmabajgnjiigaa
open Go Go.RowKit
instance : FD Try.prog 7 0 0 2 := fd_of (by kernel_rfl)
instance : FD Try.prog 7 1 1 3 := fd_of (by kernel_rfl)
instance : FD Try.prog 7 2 2 4 := fd_of (by kernel_rfl)
instance : FD Try.prog 7 3 3 6 := fd_of (by kernel_rfl)
instance : FD Try.prog 8 0 0 2 := fd_of (by kernel_rfl)
instance : FD Try.prog 8 1 1 3 := fd_of (by kernel_rfl)
instance : FD Try.prog 8 2 2 4 := fd_of (by kernel_rfl)
instance : FD Try.prog 8 3 3 6 := fd_of (by kernel_rfl)
instance : FD Try.prog 13 0 0 9 := fd_of (by kernel_rfl)
instance : FD Try.prog 13 1 1 12 := fd_of (by kernel_rfl)
instance : FD Try.prog 14 0 0 9 := fd_of (by kernel_rfl)
instance : FD Try.prog 14 1 1 12 := fd_of (by kernel_rfl)
instance : FD Try.prog 18 0 0 17 := fd_of (by kernel_rfl)
instance : FD Try.prog 19 0 0 17 := fd_of (by kernel_rfl)
instance : FD Try.prog 31 0 0 22 := fd_of (by kernel_rfl)
instance : FD Try.prog 31 1 1 22 := fd_of (by kernel_rfl)
instance : FD Try.prog 31 2 2 30 := fd_of (by kernel_rfl)
instance : FD Try.prog 32 0 0 22 := fd_of (by kernel_rfl)
instance : FD Try.prog 32 1 1 22 := fd_of (by kernel_rfl)
instance : FD Try.prog 32 2 2 30 := fd_of (by kernel_rfl)
instance : FD Try.prog 58 0 0 30 := fd_of (by kernel_rfl)
instance : FD Try.prog 59 0 0 30 := fd_of (by kernel_rfl)
instance : FD Try.prog 63 0 0 22 := fd_of (by kernel_rfl)
instance : FD Try.prog 63 1 1 3 := fd_of (by kernel_rfl)
instance : FD Try.prog 63 2 2 61 := fd_of (by kernel_rfl)
instance : FD Try.prog 63 3 3 62 := fd_of (by kernel_rfl)
instance : FD Try.prog 63 4 4 22 := fd_of (by kernel_rfl)
instance : FD Try.prog 63 5 5 3 := fd_of (by kernel_rfl)
instance : FD Try.prog 64 0 0 22 := fd_of (by kernel_rfl)
instance : FD Try.prog 64 1 1 3 := fd_of (by kernel_rfl)
instance : FD Try.prog 64 2 2 61 := fd_of (by kernel_rfl)
instance : FD Try.prog 64 3 3 62 := fd_of (by kernel_rfl)
instance : FD Try.prog 64 4 4 22 := fd_of (by kernel_rfl)
instance : FD Try.prog 64 5 5 3 := fd_of (by kernel_rfl)
instance : FD Try.prog 109 0 0 17 := fd_of (by kernel_rfl)
instance : FD Try.prog 109 1 1 17 := fd_of (by kernel_rfl)
instance : FD Try.prog 109 2 2 17 := fd_of (by kernel_rfl)
instance : FD Try.prog 109 3 3 9 := fd_of (by kernel_rfl)
instance : FD Try.prog 110 0 0 17 := fd_of (by kernel_rfl)
instance : FD Try.prog 110 1 1 17 := fd_of (by kernel_rfl)
instance : FD Try.prog 110 2 2 17 := fd_of (by kernel_rfl)
instance : FD Try.prog 110 3 3 9 := fd_of (by kernel_rfl)
instance : FD Try.prog 112 0 0 111 := fd_of (by kernel_rfl)
instance : FD Try.prog 113 0 0 111 := fd_of (by kernel_rfl)
instance : FD Try.prog 120 0 0 12 := fd_of (by kernel_rfl)
instance : FD Try.prog 120 1 1 12 := fd_of (by kernel_rfl)
instance : FD Try.prog 120 2 2 96 := fd_of (by kernel_rfl)
instance : FD Try.prog 120 3 3 114 := fd_of (by kernel_rfl)
instance : FD Try.prog 120 4 4 5 := fd_of (by kernel_rfl)
instance : FD Try.prog 120 5 5 5 := fd_of (by kernel_rfl)
instance : FD Try.prog 120 6 6 115 := fd_of (by kernel_rfl)
instance : FD Try.prog 120 7 7 116 := fd_of (by kernel_rfl)
instance : FD Try.prog 120 8 8 117 := fd_of (by kernel_rfl)
instance : FD Try.prog 120 9 9 118 := fd_of (by kernel_rfl)
instance : FD Try.prog 120 10 10 119 := fd_of (by kernel_rfl)
instance : FD Try.prog 121 0 0 12 := fd_of (by kernel_rfl)
instance : FD Try.prog 121 1 1 12 := fd_of (by kernel_rfl)
instance : FD Try.prog 121 2 2 96 := fd_of (by kernel_rfl)
instance : FD Try.prog 121 3 3 114 := fd_of (by kernel_rfl)
instance : FD Try.prog 121 4 4 5 := fd_of (by kernel_rfl)
instance : FD Try.prog 121 5 5 5 := fd_of (by kernel_rfl)
instance : FD Try.prog 121 6 6 115 := fd_of (by kernel_rfl)
instance : FD Try.prog 121 7 7 116 := fd_of (by kernel_rfl)
instance : FD Try.prog 121 8 8 117 := fd_of (by kernel_rfl)
instance : FD Try.prog 121 9 9 118 := fd_of (by kernel_rfl)
instance : FD Try.prog 121 10 10 119 := fd_of (by kernel_rfl)
instance : BD Try.prog 7 [(0, 1), (1, 1), (2, 1), (3, 1)] [(.int .i64 0), (.int .i64 0), (.bool false), (.int .u8 0)] := ⟨fun w => by kernel_rfl, fun w => by kernel_rfl⟩
instance : BD Try.prog 8 [(0, 1), (1, 1), (2, 1), (3, 1)] [(.int .i64 0), (.int .i64 0), (.bool false), (.int .u8 0)] := ⟨fun w => by kernel_rfl, fun w => by kernel_rfl⟩
instance : BD Try.prog 13 [(0, 1), (1, 1)] [(.string ⟨#[]⟩), (.int .u64 0)] := ⟨fun w => by kernel_rfl, fun w => by kernel_rfl⟩
instance : BD Try.prog 14 [(0, 1), (1, 1)] [(.string ⟨#[]⟩), (.int .u64 0)] := ⟨fun w => by kernel_rfl, fun w => by kernel_rfl⟩
instance : BD Try.prog 18 [(0, 1)] [(.pointer none)] := ⟨fun w => by kernel_rfl, fun w => by kernel_rfl⟩
instance : BD Try.prog 19 [(0, 1)] [(.pointer none)] := ⟨fun w => by kernel_rfl, fun w => by kernel_rfl⟩
instance : BD Try.prog 31 [(0, 1), (1, 1), (2, 1)] [(.slice none 0 0), (.slice none 0 0), (.slice none 0 0)] := ⟨fun w => by kernel_rfl, fun w => by kernel_rfl⟩
instance : BD Try.prog 32 [(0, 1), (1, 1), (2, 1)] [(.slice none 0 0), (.slice none 0 0), (.slice none 0 0)] := ⟨fun w => by kernel_rfl, fun w => by kernel_rfl⟩
instance : BD Try.prog 58 [(0, 1)] [(.slice none 0 0)] := ⟨fun w => by kernel_rfl, fun w => by kernel_rfl⟩
instance : BD Try.prog 59 [(0, 1)] [(.slice none 0 0)] := ⟨fun w => by kernel_rfl, fun w => by kernel_rfl⟩
instance : BD Try.prog 63 [(0, 1), (1, 1), (2, 1), (3, 1), (4, 1), (5, 1)] [(.slice none 0 0), (.int .i64 0), (.map none), (.map none), (.slice none 0 0), (.int .i64 0)] := ⟨fun w => by kernel_rfl, fun w => by kernel_rfl⟩
instance : BD Try.prog 64 [(0, 1), (1, 1), (2, 1), (3, 1), (4, 1), (5, 1)] [(.slice none 0 0), (.int .i64 0), (.map none), (.map none), (.slice none 0 0), (.int .i64 0)] := ⟨fun w => by kernel_rfl, fun w => by kernel_rfl⟩
instance : BD Try.prog 109 [(0, 1), (1, 1), (2, 1), (3, 1)] [(.pointer none), (.pointer none), (.pointer none), (.string ⟨#[]⟩)] := ⟨fun w => by kernel_rfl, fun w => by kernel_rfl⟩
instance : BD Try.prog 110 [(0, 1), (1, 1), (2, 1), (3, 1)] [(.pointer none), (.pointer none), (.pointer none), (.string ⟨#[]⟩)] := ⟨fun w => by kernel_rfl, fun w => by kernel_rfl⟩
instance : BD Try.prog 112 [(0, 0)] [] := ⟨fun w => by kernel_rfl, fun w => by kernel_rfl⟩
instance : BD Try.prog 113 [(0, 0)] [] := ⟨fun w => by kernel_rfl, fun w => by kernel_rfl⟩
instance : BD Try.prog 120 [(0, 1), (1, 1), (2, 1), (3, 1), (4, 1), (5, 1), (6, 1), (7, 1), (8, 1), (9, 1), (10, 1)] [(.int .u64 0), (.int .u64 0), (.int .u32 0), (.int .u8 0), (.int .u8 0), (.int .u8 0), (.int .u8 0), .nilFunc, (.pointer none), (.int .i32 0), (.int .i32 0)] := ⟨fun w => by kernel_rfl, fun w => by kernel_rfl⟩
instance : BD Try.prog 121 [(0, 1), (1, 1), (2, 1), (3, 1), (4, 1), (5, 1), (6, 1), (7, 1), (8, 1), (9, 1), (10, 1)] [(.int .u64 0), (.int .u64 0), (.int .u32 0), (.int .u8 0), (.int .u8 0), (.int .u8 0), (.int .u8 0), .nilFunc, (.pointer none), (.int .i32 0), (.int .i32 0)] := ⟨fun w => by kernel_rfl, fun w => by kernel_rfl⟩
end Go.Proofs.Ytlmabajgnjiigaa
namespace Go.Proofs.Ytlmabajgnjiigaa
open Go Go.RowKit
set_option linter.unusedVariables false
set_option linter.unusedSimpArgs false
theorem u64_lt (a : UInt64) : a.toNat < 18446744073709551616 := by have := a.toBitVec.isLt; simpa using this
theorem u64_ofInt (a : UInt64) : BitVec.ofInt 64 (a.toNat : Int) = a.toBitVec := by
  apply BitVec.eq_of_toNat_eq
  rw [BitVec.ofInt_natCast, BitVec.toNat_ofNat]
  have := u64_lt a
  exact Nat.mod_eq_of_lt this
theorem u64_wrap (n : Nat) : IntKind.u64.wrap (n : Int) = ((UInt64.ofNat n).toNat : Int) := by
  rw [IntKind.wrap_u64]; simp
theorem u64_xor (a b : UInt64) : bits .xor .u64 (a.toNat : Int) (b.toNat : Int) = ((a ^^^ b).toNat : Int) := by
  show IntKind.u64.wrap ((BitVec.ofInt 64 (a.toNat : Int) ^^^ BitVec.ofInt 64 (b.toNat : Int)).toNat : Int) = _
  rw [u64_ofInt, u64_ofInt, u64_wrap]
  simp
theorem u64_or (a b : UInt64) : bits .or .u64 (a.toNat : Int) (b.toNat : Int) = ((a ||| b).toNat : Int) := by
  show IntKind.u64.wrap ((BitVec.ofInt 64 (a.toNat : Int) ||| BitVec.ofInt 64 (b.toNat : Int)).toNat : Int) = _
  rw [u64_ofInt, u64_ofInt, u64_wrap]
  simp
theorem u64_mul (a b : UInt64) : IntKind.u64.wrap ((a.toNat : Int) * (b.toNat : Int)) = ((a * b).toNat : Int) := by
  rw [← Int.natCast_mul, u64_wrap]; simp
theorem u64_add (a b : UInt64) : IntKind.u64.wrap ((a.toNat : Int) + (b.toNat : Int)) = ((a + b).toNat : Int) := by
  rw [← Int.natCast_add, u64_wrap]; simp
theorem u64_tdiv (a b : UInt64) : IntKind.u64.wrap ((a.toNat : Int).tdiv (b.toNat : Int)) = ((a / b).toNat : Int) := by
  rw [Int.tdiv_eq_ediv_of_nonneg (by omega), ← Int.natCast_ediv, u64_wrap]
  have h1 := u64_lt a
  have h2 : a.toNat / b.toNat ≤ a.toNat := Nat.div_le_self _ _
  rw [UInt64.toNat_div]
  congr 1
  simp
  omega
end Go.Proofs.Ytlmabajgnjiigaa
namespace Go.Proofs.Ytlmabajgnjiigaa
open Go Go.RowKit
set_option linter.unusedVariables false
set_option linter.unusedSimpArgs false
def hC : UInt64 := 11400714819323198485
def mix (s w : UInt64) : UInt64 := ((s ^^^ w) * hC) ^^^ (((s ^^^ w) * hC) >>> 32)
/-- little endian -/
def leW : List UInt8 → UInt64
  | [] => 0
  | b :: r => 256 * leW r + b.toUInt64
def wordAt (l : List UInt8) (j : Nat) : UInt64 := leW ((l.drop (8 * j)).take 8)
def wordsOf (l : List UInt8) : List UInt64 := (List.range ((l.length + 7) / 8)).map (wordAt l)
def toI (w : UInt64) : Int := wrap64 (w.toNat : Int)
def mixI (s : UInt64) (n : Int) : UInt64 := mix s (UInt64.ofInt n)
def sumW (label : List UInt8) (l : List Int) : UInt64 :=
  mix (l.foldl mixI (mix (mix ((wordsOf label).foldl mix 0) (UInt64.ofNat label.length)) (UInt64.ofNat l.length))) 0
def bytesW (label b : List UInt8) : UInt64 := sumW label ((wordsOf b).map toI ++ [(b.length : Int)])
def pairT : List UInt8 := [112, 97, 105, 114]
def pairW (a b : UInt64) : UInt64 := sumW pairT [toI a, toI b]

def around (n most : Int) : Int := (if n < 0 then -(n + 1) else n) % most
def shortS (s : ByteArray) (most : Nat) : ByteArray := if most < s.size then s.extract 0 most else s
theorem mix_walk (s w : UInt64) : (Value.int IntKind.u64
            (bits BinOp.xor IntKind.u64
              (IntKind.u64.wrap (bits BinOp.xor IntKind.u64 ↑s.toNat ↑w.toNat * 11400714819323198485))
              (IntKind.u64.wrap (bits BinOp.xor IntKind.u64 ↑s.toNat ↑w.toNat * 11400714819323198485) / 4294967296))) = uv (mix s w) := by
  have h1 : IntKind.u64.wrap (bits BinOp.xor IntKind.u64 ↑s.toNat ↑w.toNat * 11400714819323198485) = (((s ^^^ w) * hC).toNat : Int) := by
    rw [u64_xor, ← u64_mul]; rfl
  rw [h1]
  have h2 : ((((s ^^^ w) * hC).toNat : Int) / (4294967296 : Int)) = ((((s ^^^ w) * hC) >>> 32).toNat : Int) := by
    rw [UInt64.toNat_shiftRight, Nat.shiftRight_eq_div_pow, Int.natCast_ediv]
    rfl
  rw [h2, u64_xor]
  rfl
theorem mix_walk2 (s w : UInt64) : (Value.int IntKind.u64
            (bits BinOp.xor IntKind.u64
              (IntKind.u64.wrap (bits BinOp.xor IntKind.u64 ↑s.toNat ↑w.toNat * 11400714819323198485))
              (IntKind.u64.wrap ((IntKind.u64.wrap (bits BinOp.xor IntKind.u64 ↑s.toNat ↑w.toNat * 11400714819323198485)).tdiv 4294967296)))) = uv (mix s w) := by
  have h1 : IntKind.u64.wrap (bits BinOp.xor IntKind.u64 ↑s.toNat ↑w.toNat * 11400714819323198485) = (((s ^^^ w) * hC).toNat : Int) := by
    rw [u64_xor, ← u64_mul]; rfl
  rw [h1]
  have h2 : IntKind.u64.wrap ((((s ^^^ w) * hC).toNat : Int).tdiv (4294967296 : Int)) = ((((s ^^^ w) * hC) >>> 32).toNat : Int) := by
    have := u64_tdiv ((s ^^^ w) * hC) 4294967296
    have e : ((s ^^^ w) * hC) / (4294967296 : UInt64) = ((s ^^^ w) * hC) >>> 32 := by
      apply UInt64.toNat_inj.1
      rw [UInt64.toNat_shiftRight, Nat.shiftRight_eq_div_pow, UInt64.toNat_div]
      rfl
    rw [e] at this
    exact this
  rw [h2, u64_xor]
  rfl
theorem ofInt_walk (n : Int) : (Value.int IntKind.u64 (IntKind.u64.wrap n)) = uv (UInt64.ofInt n) := by
  congr 1
  rw [IntKind.wrap_u64]
  simp [UInt64.ofInt]
  omega
theorem u64_ofNat (n : Nat) (h : n < 18446744073709551616) : (n : Int) = ((UInt64.ofNat n).toNat : Int) := by
  simp; omega
theorem ofIntI (n : Int) : IntKind.u64.wrap n = ((UInt64.ofInt n).toNat : Int) := (Value.int.inj (ofInt_walk n)).2
theorem leW_lt : ∀ {l : List UInt8}, l.length ≤ 8 → (leW l).toNat < 256 ^ l.length ∧ True
  | [], _ => by simp [leW]
  | b :: r, h => by
    have ih := (leW_lt (l := r) (by simp at h; omega)).1
    have hb : b.toNat < 256 := b.toNat_lt
    refine ⟨?_, trivial⟩
    have hp : 256 ^ r.length ≤ 256 ^ 7 := Nat.pow_le_pow_right (by decide) (by simp at h; omega)
    have e : (256 : Nat) ^ 7 = 72057594037927936 := by decide
    rw [e] at hp
    simp only [leW, List.length_cons, UInt64.toNat_add, UInt64.toNat_mul, UInt8.toNat_toUInt64]
    have e2 : (256 : UInt64).toNat = 256 := rfl
    rw [e2, Nat.pow_succ]
    omega
theorem leW_snoc_step (l : List UInt8) (i : Nat) (x : UInt8) (n : Nat) (hx : l[i]? = some x) : leW ((l.drop i).take (n + 1)) = 256 * leW ((l.drop (i + 1)).take n) + x.toUInt64 := by
  obtain ⟨hlt, rfl⟩ := List.getElem?_eq_some_iff.1 hx
  rw [List.drop_eq_getElem_cons hlt, List.take_succ_cons]
  rfl
theorem leW_walk (w : UInt64) (x : UInt8) : (Value.int IntKind.u64 (IntKind.u64.wrap (IntKind.u64.wrap (256 * (w.toNat : Int)) + (x.toNat : Int)))) = uv (256 * w + x.toUInt64) := by
  have h1 : IntKind.u64.wrap (256 * (w.toNat : Int)) = ((256 * w).toNat : Int) := u64_mul 256 w
  rw [h1]
  have h2 := u64_add (256 * w) x.toUInt64
  rw [UInt8.toNat_toUInt64] at h2
  rw [h2]
theorem leW_snoc (x : UInt8) : ∀ {l : List UInt8}, l.length < 8 → (leW (l ++ [x])).toNat = (leW l).toNat + 256 ^ l.length * x.toNat
  | [], _ => by simp [leW]
  | b :: r, h => by
    have ih := leW_snoc x (l := r) (by simp at h; omega)
    have hb : b.toNat < 256 := b.toNat_lt
    have h1 := (leW_lt (l := r ++ [x]) (by simp at h ⊢; omega)).1
    have h2 := (leW_lt (l := r) (by simp at h ⊢; omega)).1
    have hp : 256 ^ (r ++ [x]).length ≤ 256 ^ 7 := Nat.pow_le_pow_right (by decide) (by simp at h ⊢; omega)
    have hp2 : 256 ^ r.length ≤ 256 ^ 7 := Nat.pow_le_pow_right (by decide) (by simp at h ⊢; omega)
    have e : (256 : Nat) ^ 7 = 72057594037927936 := by decide
    rw [e] at hp hp2
    simp only [leW, List.cons_append, List.length_cons, UInt64.toNat_add, UInt64.toNat_mul, UInt8.toNat_toUInt64]
    have e2 : (256 : UInt64).toNat = 256 := rfl
    rw [e2, ih] at *
    have e3 : 256 ^ (r.length + 1) * x.toNat = 256 * (256 ^ r.length * x.toNat) := by rw [Nat.pow_succ]; rw [Nat.mul_comm (256 ^ r.length) 256, Nat.mul_assoc]
    rw [e3]
    omega
theorem leW_or {l : List UInt8} {q : Nat} {x : UInt8} (hx : l[q]? = some x) (hq : q < 8) :
    (Value.int IntKind.u64 (bits BinOp.or IntKind.u64 (↑(leW (l.take q)).toNat) (IntKind.u64.wrap (IntKind.u64.wrap ↑x.toNat * 2 ^ (8 * q))))) = uv (leW (l.take (q + 1))) := by
  have hlt := (List.getElem?_eq_some_iff.1 hx).1
  have hlen : (l.take q).length = q := by simp; omega
  have h1 := leW_snoc x (l := l.take q) (by omega)
  rw [hlen] at h1
  have h2 := (leW_lt (l := l.take q) (by omega)).1
  rw [hlen] at h2
  have e : l.take (q + 1) = l.take q ++ [x] := by rw [List.take_add_one, hx]; rfl
  rw [e]
  have hxl := x.toNat_lt
  have hp : 256 ^ q ≤ 256 ^ 7 := Nat.pow_le_pow_right (by decide) (by omega)
  have e7 : (256 : Nat) ^ 7 = 72057594037927936 := by decide
  rw [e7] at hp
  have hm : 256 ^ q * x.toNat < 18446744073709551616 := Nat.lt_of_lt_of_le (Nat.mul_lt_mul_of_le_of_lt hp hxl (by decide)) (by decide)
  have ew : IntKind.u64.wrap (x.toNat : Int) = (x.toNat : Int) := by rw [IntKind.wrap_u64]; omega
  have e2 : ((x.toNat : Int) * 2 ^ (8 * q)) = ((256 ^ q * x.toNat : Nat) : Int) := by
    have e0 : (256 : Nat) ^ q = 2 ^ (8 * q) := by rw [Nat.pow_mul]
    rw [e0, Int.natCast_mul, Int.natCast_pow, Int.mul_comm]
    rfl
  rw [ew, e2]
  have e3 : IntKind.u64.wrap (((256 ^ q * x.toNat : Nat)) : Int) = ((UInt64.ofNat (256 ^ q * x.toNat)).toNat : Int) := by
    rw [IntKind.wrap_u64]
    generalize 256 ^ q * x.toNat = n at hm
    simp
  rw [e3, u64_or]
  congr 2
  rw [UInt64.toNat_or, h1]
  have e4 : (UInt64.ofNat (256 ^ q * x.toNat)).toNat = 256 ^ q * x.toNat := by
    generalize 256 ^ q * x.toNat = n at hm
    simp; omega
  rw [e4, Nat.or_comm]
  have e5 : (256 : Nat) ^ q = 2 ^ (8 * q) := by rw [Nat.pow_mul]
  rw [e5] at h2 ⊢
  rw [← Nat.two_pow_add_eq_or_of_lt h2, Nat.add_comm]
theorem leW_or2 {l : List UInt8} {q : Nat} {x : UInt8} (hx : l[q]? = some x) (hq : q < 8) :
    (Value.int IntKind.u64 (bits BinOp.or IntKind.u64 (↑(leW (l.take q)).toNat) (IntKind.u64.wrap (↑x.toNat * 2 ^ (8 * q))))) = uv (leW (l.take (q + 1))) := by
  have h := leW_or hx hq
  have hxl := x.toNat_lt
  have ew : IntKind.u64.wrap (x.toNat : Int) = (x.toNat : Int) := by rw [IntKind.wrap_u64]; omega
  rw [ew] at h
  exact h
theorem words_part {bs : List UInt8} {j : Nat} (h : 8 * j < bs.length) : wordsOf bs = (wordsOf bs).take j ++ wordAt bs j :: (wordsOf bs).drop (j + 1) ∧ (wordsOf bs).take (j + 1) = (wordsOf bs).take j ++ [wordAt bs j] := by
  have hl : (wordsOf bs)[j]? = some (wordAt bs j) := by
    unfold wordsOf
    rw [List.getElem?_map, List.getElem?_range (by omega)]
    rfl
  obtain ⟨hlt, he⟩ := List.getElem?_eq_some_iff.1 hl
  refine ⟨?_, by rw [List.take_add_one, hl]; rfl⟩
  rw [← he, ← List.drop_eq_getElem_cons hlt, List.take_append_drop]
theorem words_all {bs : List UInt8} {j : Nat} (h : bs.length ≤ 8 * j) : (wordsOf bs).take j = wordsOf bs := List.take_of_length_le (by simp [wordsOf]; omega)
theorem word_whole {bs : List UInt8} {j m : Nat} (h : m = 8 ∨ 8 * j + m = bs.length) (h8 : m ≤ 8) : leW ((bs.drop (8 * j)).take m) = wordAt bs j := by
  unfold wordAt
  rcases h with rfl | h
  · rfl
  · rw [List.take_of_length_le (by simp; omega), List.take_of_length_le (by simp; omega)]
end Go.Proofs.Ytlmabajgnjiigaa
namespace Go.Proofs.Ytlmabajgnjiigaa
open Go Go.RowKit
set_option linter.unusedVariables false
set_option linter.unusedSimpArgs false
set_option maxRecDepth 20000
set_option synthInstance.maxSize 100000
set_option synthInstance.maxHeartbeats 400000
theorem CT.pull {P : Program} {W0 : World} {L : List HP} {f : FuncId} {args : Array Value} {A : HP} {i : Nat} {Le : List HP} {R : Value → List HP → Prop} (hi : L[i]? = some A) (h : CT P f args W0 (A :: Le) R) (he : L.eraseIdx i = Le := by exact EAt.pf) : CT P f args W0 L R := by subst he; exact CT.at_ hi h
theorem dy_litP {P : Program} {W0 : World} {L : List HP} {a : Act} {d : Option Tmp} {ty : TypeId} {pos : String} {aft : Array Edge} {gd : Option (Nat × Bool)} {t : TypeId} {n : Nat} {ps : List (Nat × Operand)} {vs : List (Nat × Value)} {e : TypeId} {zv : Value} {by_ : Nat} [ut : UL P t (.slice e)] [ti : TI P e zv 1 by_] [hps : PartsI a ps vs] {α : Type} {f : α → Value} {hf : ∀ a, (f a).oneCell' = true} (els : List α)
    (hp : vs = ((els.map f).zipIdx 0).map fun x => (x.2, x.1)) (hn : els.length = n := by rfl) (hpos : 0 < n := by decide) (hsm : n ≤ 16777216 := by decide) :
    DY P W0 L ⟨d, .buildSlice t n ps.toArray, ty, pos, aft, gd⟩ a fun a' L' => ∃ g, a.put d (.slice (some ⟨g, 0, none⟩) n n) = a' ∧ L' = own e (e1 f hf) (.slice (some ⟨g, 0, none⟩) n n) els :: L :=
  dy_litN els hn hpos hsm (by have := hps.pf; rw [List.map_toArray]; simp only; rw [← hp, ← this])
theorem Around_any (n most : Int) (w : World) (h1 : -9223372036854775808 ≤ n) (h2 : n ≤ 9223372036854775807) (h3 : 1 ≤ most) (h4 : most ≤ 9223372036854775807) :
    Calls Try.prog 11 #[iv n, iv most] w fun e w' => e = .returned (iv (around n most)) ∧ w = w' := by
  have hm : (most == 0) = false := by simp; omega
  by_cases hn : n < 0
  · go_enter Try.func11, Try.ntmps11
    go_wp2
    go_ret
    refine ⟨?_, rfl⟩
    have e : -((n + 1).tmod most) = (-(n + 1)) % most := by rw [← Int.neg_tmod]; exact Int.tmod_eq_emod_of_nonneg (by omega)
    have e2 : around n most = (-(n + 1)) % most := by unfold around; rw [if_pos hn]
    rw [e2]
    first | rfl | exact congrArg (fun x => Ending.returned (iv x)) e
  · go_enter Try.func11, Try.ntmps11
    go_wp2
    go_ret
    refine ⟨?_, rfl⟩
    have e2 : around n most = n % most := by unfold around; rw [if_neg (by omega)]
    rw [e2]
    rfl
section
variable {W0 : World} {L : List HP}
theorem Around_ct {n most : Int} (h1 : -9223372036854775808 ≤ n) (h2 : n ≤ 9223372036854775807) (h3 : 1 ≤ most) (h4 : most ≤ 9223372036854775807) :
    CT Try.prog 11 #[.int .i64 n, .int .i64 most] W0 L fun r L' => r = .int .i64 (around n most) ∧ L' = L :=
  ⟨fun w s => (Around_any n most w h1 h2 h3 h4).mono fun e w' ⟨h, hw⟩ => ⟨_, _, h, ⟨rfl, rfl⟩, hw ▸ s⟩⟩
theorem around_in {n most : Int} (h3 : 1 ≤ most) : 0 ≤ around n most ∧ around n most < most := by
  unfold around
  split <;> exact ⟨Int.emod_nonneg _ (by omega), Int.emod_lt_of_pos _ (by omega)⟩
end
end Go.Proofs.Ytlmabajgnjiigaa
namespace Go.Proofs.Ytlmabajgnjiigaa
open Go Go.RowKit Go.Instr
set_option linter.unusedVariables false
set_option linter.unusedSimpArgs false
/-- elements of a map: the value, and what holds of it for good -/
structure MEnc (α : Type) where
  val : α → Value
  im : α → Im
def entM {α : Type} (R : MEnc α) (m : Hp) (p : Int × α) (e : MapEntry) : Prop := e.key = .int .i64 p.1 ∧ e.val = R.val p.2 ∧ (R.im p.2).r m
theorem entM.mono {α : Type} {R : MEnc α} {m m' : Hp} (hm : m.le m') {p : Int × α} {e : MapEntry} (h : entM R m p e) : entM R m' p e := ⟨h.1, h.2.1, (R.im p.2).mono hm h.2.2⟩
/-- block b is a map that holds l -/
def mapo {α : Type} (R : MEnc α) (b : Nat) (l : List (Int × α)) : HP :=
  ⟨fun m h => ∃ es clock, h b = some (.map es clock) ∧ All2 (entM R m) l es.toList ∧ es.toList.Pairwise (fun x y => x.born < y.born) ∧ ∀ e ∈ es.toList, e.born < clock,
   fun hm ⟨es, clock, h1, h2, h3, h4⟩ => ⟨es, clock, h1, h2.imp fun _ _ => entM.mono hm, h3, h4⟩⟩
def posM {α : Type} (k : Int) : List (Int × α) → Nat → Option (Nat × α)
  | [], _ => none
  | p :: l, i => if k = p.1 then some (i, p.2) else posM k l (i + 1)
theorem findNow_l {α : Type} {R : MEnc α} {m : Hp} {k : Int} : ∀ {l : List (Int × α)} {es : List MapEntry} {i : Nat}, All2 (entM R m) l es → findNow (.int .i64) (.int .i64 k) es i = some ((posM k l i).map fun q => (q.1, R.val q.2))
  | [], [], i, _ => rfl
  | p :: l, e :: es, i, ⟨h, t⟩ => by
    have ih := findNow_l (k := k) (i := i + 1) t
    unfold findNow posM
    rw [h.1]
    by_cases hk : k = p.1
    · subst hk
      simp [sameNow, h.2.1]
    · have : (k == p.1) = false := by simpa using hk
      simp [sameNow, this, hk, ih]
  | [], _ :: _, _, h => h.elim
  | _ :: _, [], _, h => h.elim
section
variable {P : Program} {w : World}
theorem findKey_l {α : Type} {R : MEnc α} {m : Hp} {k : Int} {l : List (Int × α)} {es : List MapEntry} {kt : TypeId} (hk : P.underlying kt = some (.int .i64)) (h : All2 (entM R m) l es) : (findKey kt (.int .i64 k) es).run P w = .ok ((posM k l 0).map fun q => (q.1, R.val q.2)) w := by
  unfold findKey
  simp only [Sem.run_bind, run_underlying hk, Result.andThen_ok, findNow_l h]
  rfl
theorem checkKey_l {em : Bool} {k : Int} {kt : TypeId} (hk : P.underlying kt = some (.int .i64)) : (checkKey em 10000 kt (.int .i64 k)).run P w = .ok () w := by
  unfold checkKey
  simp only [Sem.run_bind, run_underlying hk, Result.andThen_ok]
  rfl
theorem lookup_l {α : Type} {R : MEnc α} {m : Hp} {k : Int} {l : List (Int × α)} {es : Array MapEntry} {clock : Nat} {t kt et : TypeId} {z : Value} {b : Nat} {ok : Bool} (ht : P.underlying t = some (.map kt et)) (hk : P.underlying kt = some (.int .i64)) (hz : (zeroValue et).run P w = .ok z w)
    (hb : w.heap[b]? = some (.map es clock)) (h : All2 (entM R m) l es.toList) :
    (lookup t (.map (some b)) (.int .i64 k) ok).run P w = .ok (if ok then .tuple #[((posM k l 0).map fun q => R.val q.2).getD z, .bool (posM k l 0).isSome] else ((posM k l 0).map fun q => R.val q.2).getD z) w := by
  unfold lookup
  simp only [Sem.run_bind, run_underlying ht, Result.andThen_ok, MapKept.run_getObj_map hb, Sem.run_pure, checkKey_l hk, findKey_l hk h]
  cases hp : posM k l 0 with
  | none => simp [hz]
  | some q => simp
/-- what putting does to the list -/
def putM {α : Type} (k : Int) (x : α) (l : List (Int × α)) : List (Int × α) := match posM k l 0 with
  | some q => l.set q.1 (k, x)
  | none => l ++ [(k, x)]
def delM {α : Type} (k : Int) (l : List (Int × α)) : List (Int × α) := match posM k l 0 with
  | some q => l.eraseIdx q.1
  | none => l
theorem posM_lt {α : Type} {k : Int} : ∀ {l : List (Int × α)} {i : Nat} {q : Nat × α}, posM k l i = some q → i ≤ q.1 ∧ q.1 < i + l.length ∧ l[q.1 - i]? = some (k, q.2)
  | [], _, _, h => by cases h
  | p :: l, i, q, h => by
    unfold posM at h
    split at h
    · rename_i hk
      injection h with h
      subst h
      refine ⟨Nat.le_refl _, by simp, ?_⟩
      rw [Nat.sub_self, hk]
      rfl
    · have ih := posM_lt h
      refine ⟨by omega, by simp only [List.length_cons]; omega, ?_⟩
      have e : q.1 - i = (q.1 - (i + 1)) + 1 := by omega
      rw [e, List.getElem?_cons_succ]
      exact ih.2.2
theorem same_key {k : Int} : sameBits 10000 (.int .i64 k) (.int .i64 k) = true := by
  simp [sameBits]
theorem update_l {α : Type} {R : MEnc α} {m : Hp} {k : Int} {l : List (Int × α)} {es : Array MapEntry} {clock : Nat} {t kt et : TypeId} {b : Nat} {v : Value} (ht : P.underlying t = some (.map kt et)) (hk : P.underlying kt = some (.int .i64))
    (hb : w.heap[b]? = some (.map es clock)) (h : All2 (entM R m) l es.toList) :
    (mapUpdate t (.map (some b)) (.int .i64 k) v).run P w = .ok () { w with heap := w.heap.setIfInBounds b (match posM k l 0 with
      | some q => .map (es.modify q.1 fun e => { e with key := .int .i64 k, val := v }) clock
      | none => .map (es.push { key := .int .i64 k, val := v, born := clock }) (clock + 1)) } := by
  unfold mapUpdate
  simp only [Sem.run_bind, run_underlying ht, Result.andThen_ok, MapKept.run_getObj_map hb, Sem.run_pure, checkKey_l hk, findKey_l hk h]
  cases hp : posM k l 0 with
  | none => simp only [Option.map_none]; exact MapKept.run_setObj_map _ hb
  | some q =>
    have hq := posM_lt hp
    have hq2 : l[q.1]? = some (k, q.2) := by simpa using hq.2.2
    obtain ⟨e, he, hke, _⟩ := h.get hq2
    have he' : es[q.1]? = some e := by simpa using he
    simp only [Option.map_some, he', Option.getD_some, hke, keyThatStays, same_key, if_true, Sem.run_pure, Sem.run_bind, Result.andThen_ok]
    exact MapKept.run_setObj_map _ hb
theorem delete_l {α : Type} {R : MEnc α} {m : Hp} {k : Int} {l : List (Int × α)} {es : Array MapEntry} {clock : Nat} {t kt et u ty : TypeId} {b : Nat} (ht : P.underlying t = some (.map kt et)) (hk : P.underlying kt = some (.int .i64))
    (hb : w.heap[b]? = some (.map es clock)) (h : All2 (entM R m) l es.toList) :
    (Builtin.delete_ #[t, u] ty #[.map (some b), .int .i64 k]).run P w = .ok (.tuple #[]) { w with heap := w.heap.setIfInBounds b (match posM k l 0 with
      | some q => .map (es.eraseIdxIfInBounds q.1) clock
      | none => .map es clock) } := by
  unfold Builtin.delete_
  simp only [List.getElem?_toArray, List.getElem?_cons_zero, List.getElem?_cons_succ, Sem.run_bind, run_underlying ht, Result.andThen_ok, MapKept.run_getObj_map hb, Sem.run_pure, checkKey_l hk, findKey_l hk h]
  cases hp : posM k l 0 with
  | none => simp only [Option.map_none]; rw [Sem.run_bind, MapKept.run_setObj_map _ hb]; rfl
  | some q => simp only [Option.map_some]; rw [Sem.run_bind, MapKept.run_setObj_map _ hb]; rfl
end
section
variable {P : Program} {W0 w : World} {L : List HP}
theorem All2.eraseM {α β : Type} {R : α → β → Prop} : ∀ {l : List α} {k : List β} (n : Nat), All2 R l k → All2 R (l.eraseIdx n) (k.eraseIdx n)
  | [], [], _, _ => trivial
  | _ :: _, _ :: _, 0, ⟨_, t⟩ => t
  | _ :: _, _ :: _, n + 1, ⟨h, t⟩ => ⟨h, All2.eraseM n t⟩
  | [], _ :: _, _, h => h.elim
  | _ :: _, [], _, h => h.elim
theorem All2.modM {α β : Type} {R : α → β → Prop} {x : α} {f : β → β} : ∀ {l : List α} {k : List β} (n : Nat), All2 R l k → (∀ e, k[n]? = some e → R x (f e)) → All2 R (l.set n x) (k.modify n f)
  | [], [], n, _, _ => by cases n <;> exact trivial
  | _ :: _, _ :: _, 0, ⟨_, t⟩, h => ⟨h _ rfl, t⟩
  | _ :: _, _ :: _, n + 1, ⟨g, t⟩, h => ⟨g, All2.modM n t fun e he => h e (by simpa using he)⟩
  | [], _ :: _, _, h, _ => h.elim
  | _ :: _, [], _, h, _ => h.elim
theorem born_mod {f : MapEntry → MapEntry} (hf : ∀ e, (f e).born = e.born) : ∀ (es : List MapEntry) (n : Nat), (es.modify n f).map MapEntry.born = es.map MapEntry.born
  | [], n => by cases n <;> rfl
  | e :: es, 0 => by show (f e :: es).map _ = _; rw [List.map_cons, List.map_cons, hf]
  | e :: es, n + 1 => by show (e :: es.modify n f).map _ = _; rw [List.map_cons, List.map_cons, born_mod hf es n]
theorem St.map_ {α : Type} {R : MEnc α} {b : Nat} {l : List (Int × α)} (s : St W0 w (mapo R b l :: L)) :
    ∃ es clock m, w.heap[b]? = some (.map es clock) ∧ All2 (entM R m) l es.toList := by
  obtain ⟨m, a, _, ⟨es, clock, h1, h2, _⟩, _, _, ha, _⟩ := s.lay
  exact ⟨es, clock, m, ha _ _ h1, h2⟩
theorem St.map_turn {α : Type} {R : MEnc α} {b : Nat} {l l' : List (Int × α)} (s : St W0 w (mapo R b l :: L)) {es : Array MapEntry} {clock : Nat} (hb : w.heap[b]? = some (.map es clock)) (es' : Array MapEntry) (clock' : Nat)
    (h1 : ∀ m h, SepL m L h → All2 (entM R m) l es.toList → All2 (entM R m) l' es'.toList)
    (h2 : es.toList.Pairwise (fun x y => x.born < y.born) → (∀ e ∈ es.toList, e.born < clock) → es'.toList.Pairwise (fun x y => x.born < y.born) ∧ ∀ e ∈ es'.toList, e.born < clock') :
    St W0 { w with heap := w.heap.setIfInBounds b (.map es' clock') } (mapo R b l' :: L) := by
  obtain ⟨m, a, c, ⟨es0, clock0, g1, g2, g3, g4⟩, hL, hm, ha, hc, d, g⟩ := s.lay
  have e0 := ha _ _ g1
  have e1 : w.heap[b]? = some (.map es0 clock0) := e0
  rw [hb] at e1
  injection e1 with e1
  injection e1 with e1 e2
  subst e1 e2
  obtain ⟨k1, k2⟩ := h2 g3 g4
  have hlt : b < w.heap.size := (Array.getElem?_eq_some_iff.1 hb).1
  refine g (a' := fun k => if k = b then some (.map es' clock') else a k) rfl rfl rfl (by simp) ⟨es', clock', by simp, h1 m c hL g2, k1, k2⟩ ?_ ?_ hL
  · intro k o e
    show ({ w with heap := w.heap.setIfInBounds b (.map es' clock') } : World).heap[k]? = some o
    dsimp only at e ⊢
    by_cases hk : k = b
    · subst hk
      rw [if_pos rfl] at e
      rw [Array.getElem?_setIfInBounds_self_of_lt hlt]
      exact e
    · rw [if_neg hk] at e
      rw [Array.getElem?_setIfInBounds_ne (fun h => hk h.symm)]
      exact ha _ _ e
  · intro k hk hn
    have hne : k ≠ b := by
      intro e
      subst e
      rw [hn] at g1
      cases g1
    exact ⟨Array.getElem?_setIfInBounds_ne (fun h => hne h.symm), by rw [if_neg hne]; exact hn⟩
theorem St.map_put {α : Type} {R : MEnc α} {b : Nat} {l : List (Int × α)} (s : St W0 w (mapo R b l :: L)) {t kt et : TypeId} (ht : P.underlying t = some (.map kt et)) (hk : P.underlying kt = some (.int .i64)) (k : Int) (x : α) (hx : ∀ m h, SepL m L h → (R.im x).r m) :
    ∃ w', (mapUpdate t (.map (some b)) (.int .i64 k) (R.val x)).run P w = .ok () w' ∧ St W0 w' (mapo R b (putM k x l) :: L) := by
  obtain ⟨es, clock, m, hb, h⟩ := s.map_
  refine ⟨_, update_l ht hk hb h, ?_⟩
  unfold putM
  cases hp : posM k l 0 with
  | none =>
    refine s.map_turn hb _ _ (fun m h hL ha => ?_) (fun g3 g4 => ?_)
    · rw [Array.toList_push]
      exact ha.append ⟨⟨rfl, rfl, hx m h hL⟩, trivial⟩
    · rw [Array.toList_push]
      refine ⟨List.pairwise_append.2 ⟨g3, List.pairwise_singleton _ _, fun a ha c hc => ?_⟩, fun e he => ?_⟩
      · simp only [List.mem_cons, List.not_mem_nil, or_false] at hc
        subst hc
        exact g4 a ha
      · rcases List.mem_append.1 he with he | he
        · exact Nat.lt_succ_of_lt (g4 e he)
        · simp only [List.mem_cons, List.not_mem_nil, or_false] at he
          subst he
          exact Nat.lt_succ_self _
  | some q =>
    have e : (es.modify q.1 fun e => { e with key := .int .i64 k, val := R.val x }).toList = es.toList.modify q.1 fun e => { e with key := .int .i64 k, val := R.val x } := by simp
    have hbn := born_mod (f := fun e : MapEntry => { e with key := .int .i64 k, val := R.val x }) (fun _ => rfl) es.toList q.1
    refine s.map_turn hb _ _ (fun m h hL ha => ?_) (fun g3 g4 => ?_)
    · rw [e]
      exact ha.modM q.1 (fun e _ => ⟨rfl, rfl, hx m h hL⟩)
    · rw [e]
      have p1 : (es.toList.map MapEntry.born).Pairwise (· < ·) := List.pairwise_map.2 g3
      rw [← hbn] at p1
      refine ⟨List.pairwise_map.1 p1, fun y hy => ?_⟩
      have h1 : y.born ∈ (es.toList.modify q.1 fun e => { e with key := .int .i64 k, val := R.val x }).map MapEntry.born := List.mem_map.2 ⟨y, hy, rfl⟩
      rw [hbn] at h1
      obtain ⟨z, hz, hzb⟩ := List.mem_map.1 h1
      rw [← hzb]
      exact g4 z hz
theorem St.map_del {α : Type} {R : MEnc α} {b : Nat} {l : List (Int × α)} (s : St W0 w (mapo R b l :: L)) {t kt et u ty : TypeId} (ht : P.underlying t = some (.map kt et)) (hk : P.underlying kt = some (.int .i64)) (k : Int) :
    ∃ w', (Builtin.delete_ #[t, u] ty #[.map (some b), .int .i64 k]).run P w = .ok (.tuple #[]) w' ∧ St W0 w' (mapo R b (delM k l) :: L) := by
  obtain ⟨es, clock, m, hb, h⟩ := s.map_
  refine ⟨_, delete_l ht hk hb h, ?_⟩
  unfold delM
  cases hp : posM k l 0 with
  | none => exact s.map_turn hb _ _ (fun m h hL ha => ha) (fun g3 g4 => ⟨g3, g4⟩)
  | some q =>
    have e : (es.eraseIdxIfInBounds q.1).toList = es.toList.eraseIdx q.1 := by simp
    refine s.map_turn hb _ _ (fun m h hL ha => ?_) (fun g3 g4 => ?_)
    · rw [e]; exact ha.eraseM _
    · rw [e]
      exact ⟨g3.sublist (List.eraseIdx_sublist _ _), fun x hx => g4 x (List.mem_of_mem_eraseIdx hx)⟩
/-! ### the operations, for the walk -/
variable {a : Act} {d : Option Tmp} {ty : TypeId} {pos : String} {aft : Array Edge} {gd : Option (Nat × Bool)} {S : List HP}
theorem sv_look1 {α : Type} {R : MEnc α} {b : Nat} {l : List (Int × α)} {k : Int} {q : Nat × α} {t kt et : TypeId} {x y : Operand} {zv : Value} {sz by_ : Nat} [ut : UL P t (.map kt et)] [uk : UL P kt (.int .i64)] [ti : TI P et zv sz by_] (hm : mapo R b l ∈ S) (hx : a.eval x = .map (some b)) (hy : a.eval y = .int .i64 k) (hq : posM k l 0 = some q) :
    SV P W0 S ⟨d, .lookup t x y true, ty, pos, aft, gd⟩ a (.tuple #[R.val q.2, .bool true]) := ⟨fun w s => by
  obtain ⟨L0, hp⟩ := s.mem hm
  obtain ⟨es, clock, m, hb, h⟩ := (s.perm hp).map_
  unfold execOp
  simp [hx, hy, lookup_l (ok := true) ut.pf uk.pf (zero_run (P := P) (t := et) w) hb h, hq]⟩
theorem sv_look0 {α : Type} {R : MEnc α} {b : Nat} {l : List (Int × α)} {k : Int} {t kt et : TypeId} {x y : Operand} {zv : Value} {sz by_ : Nat} [ut : UL P t (.map kt et)] [uk : UL P kt (.int .i64)] [ti : TI P et zv sz by_] (hm : mapo R b l ∈ S) (hx : a.eval x = .map (some b)) (hy : a.eval y = .int .i64 k) (hq : posM k l 0 = none) :
    SV P W0 S ⟨d, .lookup t x y true, ty, pos, aft, gd⟩ a (.tuple #[zv, .bool false]) := ⟨fun w s => by
  obtain ⟨L0, hp⟩ := s.mem hm
  obtain ⟨es, clock, m, hb, h⟩ := (s.perm hp).map_
  unfold execOp
  simp [hx, hy, lookup_l (ok := true) ut.pf uk.pf (zero_run (P := P) (t := et) w) hb h, hq]⟩
theorem dy_put {α : Type} {R : MEnc α} {b i : Nat} {l : List (Int × α)} {k : Int} (el : α) {t kt et : TypeId} {x y z : Operand} [ut : UL P t (.map kt et)] [uk : UL P kt (.int .i64)] (hm : L[i]? = some (mapo R b l)) (hx : a.eval x = .map (some b)) (hy : a.eval y = .int .i64 k) (hz : a.eval z = R.val el) {Le : List HP} (hLe : L.eraseIdx i = Le) (he : ∀ m h, SepL m Le h → (R.im el).r m) :
    DY P W0 L ⟨d, .mapUpdate t x y z, ty, pos, aft, gd⟩ a fun a' L' => a.put d undef = a' ∧ L' = L.set i (mapo R b (putM k el l)) :=
  dy_skp fun w s => by
    have s1 := s.at_ hm
    obtain ⟨w', hr, hs⟩ := s1.map_put ut.pf uk.pf k el (by rw [hLe]; exact he)
    refine ⟨w', _, ?_, ⟨rfl, rfl⟩, hs.back hm⟩
    unfold execOp
    simp [hx, hy, hz, hr]
theorem dy_del {α : Type} {R : MEnc α} {b i : Nat} {l : List (Int × α)} {k : Int} {t kt et u : TypeId} {x y : Operand} [ut : UL P t (.map kt et)] [uk : UL P kt (.int .i64)] (hm : L[i]? = some (mapo R b l)) (hx : a.eval x = .map (some b)) (hy : a.eval y = .int .i64 k) :
    DY P W0 L ⟨d, .call { callee := .builtin .delete, args := #[x, y], argTypes := #[t, u] }, ty, pos, aft, gd⟩ a fun a' L' => a.put d (.tuple #[]) = a' ∧ L' = L.set i (mapo R b (delM k l)) :=
  dy_val fun w s => by
    obtain ⟨w', hr, hs⟩ := (s.at_ hm).map_del (u := u) (ty := ty) ut.pf uk.pf k
    refine ⟨_, w', _, ?_, ⟨rfl, rfl⟩, hs.back hm⟩
    unfold execOp
    simp only [resolve, invoke, builtin, Sem.run_bind, Sem.run_pure, Result.andThen_ok, List.map_toArray, List.map_cons, List.map_nil, hx, hy, hr]
theorem dy_mkmap {α : Type} (R : MEnc α) {t : TypeId} : DY P W0 L ⟨d, .makeMap t none, ty, pos, aft, gd⟩ a fun a' L' => ∃ b, a.put d (.map (some b)) = a' ∧ L' = mapo R b [] :: L :=
  dy_val fun w s => ⟨_, w.alloc (.map #[] 0), _, by unfold execOp; simp [Instr.makeMap, newObj, Sem.run], ⟨w.heap.size, rfl, rfl⟩, by
    refine (s.alloc (.map #[] 0)).imp fun m h hb => ⟨#[], 0, hb, trivial, List.Pairwise.nil, fun e he => by cases he⟩⟩
theorem mapo_imp {α : Type} {R : MEnc α} {b : Nat} {l : List (Int × α)} {k : Int} {q : Nat × α} (hm : mapo R b l ∈ L) (hq : posM k l 0 = some q) : Sub L (im (R.im q.2) :: L) := fun m h s => by
  obtain ⟨a, _, es, clock, _, ha, _⟩ := s.mem hm
  have hq2 : l[q.1]? = some (k, q.2) := by simpa using (posM_lt hq).2.2
  obtain ⟨e, _, he⟩ := ha.get hq2
  exact ⟨Hp.none, h, Hp.none_dj _, Hp.none_le _, Hp.le_refl _, he.2.2, s⟩
end
end Go.Proofs.Ytlmabajgnjiigaa
