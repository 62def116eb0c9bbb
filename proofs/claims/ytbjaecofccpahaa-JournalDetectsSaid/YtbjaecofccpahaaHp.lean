/-
  Plain: what the package hash computes, on lists of bytes and integers. No program.
-/
import Derived.Test.YtbjaecofccpahaaU64
namespace Go.Proofs.Ytbjaecofccpahaa
open Go Go.RowKit
set_option linter.unusedVariables false
set_option linter.unusedSimpArgs false
def hC : UInt64 := 11400714819323198485
def mix (s w : UInt64) : UInt64 := ((s ^^^ w) * hC) ^^^ (((s ^^^ w) * hC) >>> 32)
/-- little endian -/
def leW : List UInt8 → UInt64
  | [] => 0
  | b :: r => 256 * leW r + b.toUInt64
def wordAt (l : List UInt8) (j : Nat) : UInt64 := leW ((l.drop (8 * j)).take 8)
def wordsOf (l : List UInt8) : List UInt64 := (List.range ((l.length + 7) / 8)).map (wordAt l)
def toI (w : UInt64) : Int := wrap64 (w.toNat : Int)
def mixI (s : UInt64) (n : Int) : UInt64 := mix s (UInt64.ofInt n)
def sumW (label : List UInt8) (l : List Int) : UInt64 :=
  mix (l.foldl mixI (mix (mix ((wordsOf label).foldl mix 0) (UInt64.ofNat label.length)) (UInt64.ofNat l.length))) 0
def bytesW (label b : List UInt8) : UInt64 := sumW label ((wordsOf b).map toI ++ [(b.length : Int)])
def pairT : List UInt8 := [112, 97, 105, 114]
def pairW (a b : UInt64) : UInt64 := sumW pairT [toI a, toI b]

def around (n most : Int) : Int := (if n < 0 then -(n + 1) else n) % most
def shortS (s : ByteArray) (most : Nat) : ByteArray := if most < s.size then s.extract 0 most else s
theorem mix_walk (s w : UInt64) : (Value.int IntKind.u64
            (bits BinOp.xor IntKind.u64
              (IntKind.u64.wrap (bits BinOp.xor IntKind.u64 ↑s.toNat ↑w.toNat * 11400714819323198485))
              (IntKind.u64.wrap (bits BinOp.xor IntKind.u64 ↑s.toNat ↑w.toNat * 11400714819323198485) / 4294967296))) = uv (mix s w) := by
  have h1 : IntKind.u64.wrap (bits BinOp.xor IntKind.u64 ↑s.toNat ↑w.toNat * 11400714819323198485) = (((s ^^^ w) * hC).toNat : Int) := by
    rw [u64_xor, ← u64_mul]; rfl
  rw [h1]
  have h2 : ((((s ^^^ w) * hC).toNat : Int) / (4294967296 : Int)) = ((((s ^^^ w) * hC) >>> 32).toNat : Int) := by
    rw [UInt64.toNat_shiftRight, Nat.shiftRight_eq_div_pow, Int.natCast_ediv]
    rfl
  rw [h2, u64_xor]
  rfl
theorem mix_walk2 (s w : UInt64) : (Value.int IntKind.u64
            (bits BinOp.xor IntKind.u64
              (IntKind.u64.wrap (bits BinOp.xor IntKind.u64 ↑s.toNat ↑w.toNat * 11400714819323198485))
              (IntKind.u64.wrap ((IntKind.u64.wrap (bits BinOp.xor IntKind.u64 ↑s.toNat ↑w.toNat * 11400714819323198485)).tdiv 4294967296)))) = uv (mix s w) := by
  have h1 : IntKind.u64.wrap (bits BinOp.xor IntKind.u64 ↑s.toNat ↑w.toNat * 11400714819323198485) = (((s ^^^ w) * hC).toNat : Int) := by
    rw [u64_xor, ← u64_mul]; rfl
  rw [h1]
  have h2 : IntKind.u64.wrap ((((s ^^^ w) * hC).toNat : Int).tdiv (4294967296 : Int)) = ((((s ^^^ w) * hC) >>> 32).toNat : Int) := by
    have := u64_tdiv ((s ^^^ w) * hC) 4294967296
    have e : ((s ^^^ w) * hC) / (4294967296 : UInt64) = ((s ^^^ w) * hC) >>> 32 := by
      apply UInt64.toNat_inj.1
      rw [UInt64.toNat_shiftRight, Nat.shiftRight_eq_div_pow, UInt64.toNat_div]
      rfl
    rw [e] at this
    exact this
  rw [h2, u64_xor]
  rfl
theorem ofInt_walk (n : Int) : (Value.int IntKind.u64 (IntKind.u64.wrap n)) = uv (UInt64.ofInt n) := by
  congr 1
  rw [IntKind.wrap_u64]
  simp [UInt64.ofInt]
  omega
theorem u64_ofNat (n : Nat) (h : n < 18446744073709551616) : (n : Int) = ((UInt64.ofNat n).toNat : Int) := by
  simp; omega
theorem ofIntI (n : Int) : IntKind.u64.wrap n = ((UInt64.ofInt n).toNat : Int) := (Value.int.inj (ofInt_walk n)).2
theorem leW_lt : ∀ {l : List UInt8}, l.length ≤ 8 → (leW l).toNat < 256 ^ l.length ∧ True
  | [], _ => by simp [leW]
  | b :: r, h => by
    have ih := (leW_lt (l := r) (by simp at h; omega)).1
    have hb : b.toNat < 256 := b.toNat_lt
    refine ⟨?_, trivial⟩
    have hp : 256 ^ r.length ≤ 256 ^ 7 := Nat.pow_le_pow_right (by decide) (by simp at h; omega)
    have e : (256 : Nat) ^ 7 = 72057594037927936 := by decide
    rw [e] at hp
    simp only [leW, List.length_cons, UInt64.toNat_add, UInt64.toNat_mul, UInt8.toNat_toUInt64]
    have e2 : (256 : UInt64).toNat = 256 := rfl
    rw [e2, Nat.pow_succ]
    omega
theorem leW_snoc_step (l : List UInt8) (i : Nat) (x : UInt8) (n : Nat) (hx : l[i]? = some x) : leW ((l.drop i).take (n + 1)) = 256 * leW ((l.drop (i + 1)).take n) + x.toUInt64 := by
  obtain ⟨hlt, rfl⟩ := List.getElem?_eq_some_iff.1 hx
  rw [List.drop_eq_getElem_cons hlt, List.take_succ_cons]
  rfl
theorem leW_walk (w : UInt64) (x : UInt8) : (Value.int IntKind.u64 (IntKind.u64.wrap (IntKind.u64.wrap (256 * (w.toNat : Int)) + (x.toNat : Int)))) = uv (256 * w + x.toUInt64) := by
  have h1 : IntKind.u64.wrap (256 * (w.toNat : Int)) = ((256 * w).toNat : Int) := u64_mul 256 w
  rw [h1]
  have h2 := u64_add (256 * w) x.toUInt64
  rw [UInt8.toNat_toUInt64] at h2
  rw [h2]
theorem leW_snoc (x : UInt8) : ∀ {l : List UInt8}, l.length < 8 → (leW (l ++ [x])).toNat = (leW l).toNat + 256 ^ l.length * x.toNat
  | [], _ => by simp [leW]
  | b :: r, h => by
    have ih := leW_snoc x (l := r) (by simp at h; omega)
    have hb : b.toNat < 256 := b.toNat_lt
    have h1 := (leW_lt (l := r ++ [x]) (by simp at h ⊢; omega)).1
    have h2 := (leW_lt (l := r) (by simp at h ⊢; omega)).1
    have hp : 256 ^ (r ++ [x]).length ≤ 256 ^ 7 := Nat.pow_le_pow_right (by decide) (by simp at h ⊢; omega)
    have hp2 : 256 ^ r.length ≤ 256 ^ 7 := Nat.pow_le_pow_right (by decide) (by simp at h ⊢; omega)
    have e : (256 : Nat) ^ 7 = 72057594037927936 := by decide
    rw [e] at hp hp2
    simp only [leW, List.cons_append, List.length_cons, UInt64.toNat_add, UInt64.toNat_mul, UInt8.toNat_toUInt64]
    have e2 : (256 : UInt64).toNat = 256 := rfl
    rw [e2, ih] at *
    have e3 : 256 ^ (r.length + 1) * x.toNat = 256 * (256 ^ r.length * x.toNat) := by rw [Nat.pow_succ]; rw [Nat.mul_comm (256 ^ r.length) 256, Nat.mul_assoc]
    rw [e3]
    omega
theorem leW_or {l : List UInt8} {q : Nat} {x : UInt8} (hx : l[q]? = some x) (hq : q < 8) :
    (Value.int IntKind.u64 (bits BinOp.or IntKind.u64 (↑(leW (l.take q)).toNat) (IntKind.u64.wrap (IntKind.u64.wrap ↑x.toNat * 2 ^ (8 * q))))) = uv (leW (l.take (q + 1))) := by
  have hlt := (List.getElem?_eq_some_iff.1 hx).1
  have hlen : (l.take q).length = q := by simp; omega
  have h1 := leW_snoc x (l := l.take q) (by omega)
  rw [hlen] at h1
  have h2 := (leW_lt (l := l.take q) (by omega)).1
  rw [hlen] at h2
  have e : l.take (q + 1) = l.take q ++ [x] := by rw [List.take_add_one, hx]; rfl
  rw [e]
  have hxl := x.toNat_lt
  have hp : 256 ^ q ≤ 256 ^ 7 := Nat.pow_le_pow_right (by decide) (by omega)
  have e7 : (256 : Nat) ^ 7 = 72057594037927936 := by decide
  rw [e7] at hp
  have hm : 256 ^ q * x.toNat < 18446744073709551616 := Nat.lt_of_lt_of_le (Nat.mul_lt_mul_of_le_of_lt hp hxl (by decide)) (by decide)
  have ew : IntKind.u64.wrap (x.toNat : Int) = (x.toNat : Int) := by rw [IntKind.wrap_u64]; omega
  have e2 : ((x.toNat : Int) * 2 ^ (8 * q)) = ((256 ^ q * x.toNat : Nat) : Int) := by
    have e0 : (256 : Nat) ^ q = 2 ^ (8 * q) := by rw [Nat.pow_mul]
    rw [e0, Int.natCast_mul, Int.natCast_pow, Int.mul_comm]
    rfl
  rw [ew, e2]
  have e3 : IntKind.u64.wrap (((256 ^ q * x.toNat : Nat)) : Int) = ((UInt64.ofNat (256 ^ q * x.toNat)).toNat : Int) := by
    rw [IntKind.wrap_u64]
    generalize 256 ^ q * x.toNat = n at hm
    simp
  rw [e3, u64_or]
  congr 2
  rw [UInt64.toNat_or, h1]
  have e4 : (UInt64.ofNat (256 ^ q * x.toNat)).toNat = 256 ^ q * x.toNat := by
    generalize 256 ^ q * x.toNat = n at hm
    simp; omega
  rw [e4, Nat.or_comm]
  have e5 : (256 : Nat) ^ q = 2 ^ (8 * q) := by rw [Nat.pow_mul]
  rw [e5] at h2 ⊢
  rw [← Nat.two_pow_add_eq_or_of_lt h2, Nat.add_comm]
theorem leW_or2 {l : List UInt8} {q : Nat} {x : UInt8} (hx : l[q]? = some x) (hq : q < 8) :
    (Value.int IntKind.u64 (bits BinOp.or IntKind.u64 (↑(leW (l.take q)).toNat) (IntKind.u64.wrap (↑x.toNat * 2 ^ (8 * q))))) = uv (leW (l.take (q + 1))) := by
  have h := leW_or hx hq
  have hxl := x.toNat_lt
  have ew : IntKind.u64.wrap (x.toNat : Int) = (x.toNat : Int) := by rw [IntKind.wrap_u64]; omega
  rw [ew] at h
  exact h
theorem words_part {bs : List UInt8} {j : Nat} (h : 8 * j < bs.length) : wordsOf bs = (wordsOf bs).take j ++ wordAt bs j :: (wordsOf bs).drop (j + 1) ∧ (wordsOf bs).take (j + 1) = (wordsOf bs).take j ++ [wordAt bs j] := by
  have hl : (wordsOf bs)[j]? = some (wordAt bs j) := by
    unfold wordsOf
    rw [List.getElem?_map, List.getElem?_range (by omega)]
    rfl
  obtain ⟨hlt, he⟩ := List.getElem?_eq_some_iff.1 hl
  refine ⟨?_, by rw [List.take_add_one, hl]; rfl⟩
  rw [← he, ← List.drop_eq_getElem_cons hlt, List.take_append_drop]
theorem words_all {bs : List UInt8} {j : Nat} (h : bs.length ≤ 8 * j) : (wordsOf bs).take j = wordsOf bs := List.take_of_length_le (by simp [wordsOf]; omega)
theorem word_whole {bs : List UInt8} {j m : Nat} (h : m = 8 ∨ 8 * j + m = bs.length) (h8 : m ≤ 8) : leW ((bs.drop (8 * j)).take m) = wordAt bs j := by
  unfold wordAt
  rcases h with rfl | h
  · rfl
  · rw [List.take_of_length_le (by simp; omega), List.take_of_length_le (by simp; omega)]
end Go.Proofs.Ytbjaecofccpahaa
