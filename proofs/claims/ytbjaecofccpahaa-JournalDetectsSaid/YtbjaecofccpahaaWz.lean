/-
  Plain: what was written is read. No program.
-/
import Derived.Test.YtbjaecofccpahaaV4
namespace Go.Proofs.Ytbjaecofccpahaa
open Go Go.RowKit
set_option linter.unusedVariables false
set_option linter.unusedSimpArgs false
theorem ofNat_toNat8 {c : Nat} (h : c < 256) : (UInt8.ofNat c).toNat = c := by
  simp [UInt8.toNat_ofNat']
  omega
theorem rUi_varint (m : Nat) : ∀ (i n : Nat) (t : List UInt8), m * 128 ^ i < 18446744073709551616 → (0 < m ∨ i = 0) → rUi i n (varint m ++ t) = (n + m * 128 ^ i, (t, 0)) := by
  induction m using varint.induct with
  | case1 m h =>
    intro i n t hb hp
    rw [varint_small h, List.cons_append, List.nil_append, rUi, ofNat_toNat8 (by omega), if_neg, if_pos h]
    rintro (⟨rfl, h1⟩ | ⟨h1, h2⟩)
    · have e9 : (128 : Nat) ^ 9 = 9223372036854775808 := by decide
      rw [e9] at hb
      omega
    · omega
  | case2 m h ih =>
    intro i n t hb hp
    have hc : (UInt8.ofNat (m % 128 + 128)).toNat = m % 128 + 128 := ofNat_toNat8 (by omega)
    have hm : m = m / 128 * 128 + m % 128 := by omega
    have e1 : m / 128 * 128 ^ (i + 1) + m % 128 * 128 ^ i = m * 128 ^ i := by
      rw [Nat.pow_succ, Nat.mul_comm (128 ^ i) 128, ← Nat.mul_assoc, ← Nat.add_mul, ← hm]
    rw [varint_big h, List.cons_append, rUi, hc, if_neg, if_neg (by omega), ih _ _ _ (by omega) (.inl (by omega))]
    · congr 1
      rw [Nat.add_sub_cancel]
      omega
    · rintro (⟨rfl, h1⟩ | ⟨h1, h2⟩)
      · have e9 : (128 : Nat) ^ 9 = 9223372036854775808 := by decide
        rw [e9] at hb
        omega
      · omega
theorem rU_varint {m : Nat} (h : m < 18446744073709551616) (t : List UInt8) : rU (varint m ++ t, 0) = (m, (t, 0)) := by
  unfold rU
  rw [if_pos rfl, rUi_varint m 0 0 t (by simpa using h) (.inr rfl)]
  simp
theorem unzig_zig (n : Int) : unzig (zig n) = n := by
  unfold unzig zig
  split <;> split <;> omega
theorem rI_zig {n : Int} (h1 : -9223372036854775808 ≤ n) (h2 : n ≤ 9223372036854775807) (t : List UInt8) : rI (varint (zig n) ++ t, 0) = (n, (t, 0)) := by
  unfold rI
  rw [rU_varint (zig_lt h1 h2), unzig_zig]
theorem rB_bool (b : Bool) (t : List UInt8) : rB (varint (if b = true then 1 else 0) ++ t, 0) = (b, (t, 0)) := by
  cases b
  · rw [if_neg (by decide), varint_small (by decide)]; rfl
  · rw [if_pos rfl, varint_small (by decide)]; rfl
theorem rMany_bytes : ∀ (l t : List UInt8), rMany rNext l.length (l ++ t, 0) = (l, (t, 0))
  | [], t => rfl
  | c :: l, t => by
    rw [List.length_cons, rMany, if_pos rfl]
    have : rNext (c :: l ++ t, 0) = (c, (l ++ t, 0)) := rfl
    rw [this, rMany_bytes l t]
theorem rMany_ints : ∀ (l : List Int) (t : List UInt8), (∀ n ∈ l, -9223372036854775808 ≤ n ∧ n ≤ 9223372036854775807) → rMany rI l.length (encI l ++ t, 0) = (l, (t, 0))
  | [], t, _ => rfl
  | n :: l, t, h => by
    rw [List.length_cons, rMany, if_pos rfl]
    have hn := h n (.head _)
    have : rI (encI (n :: l) ++ t, 0) = (n, (encI l ++ t, 0)) := by
      rw [← rI_zig hn.1 hn.2]
      simp [encI]
    rw [this, rMany_ints l t fun x hx => h x (.tail _ hx)]
theorem rList_of {α : Type} {f : Rs → α × Rs} {s : Rs} {n : Nat} {b t : List UInt8} {l : List α} (h1 : rU s = (n, (b, 0))) (h2 : n ≤ b.length) (h3 : rMany f n (b, 0) = (l, (t, 0))) : rList f s = (l, (t, 0)) := by
  have e : rList f s = (if (rMany f (rU s).1 (if (rU s).2.1.length < (rU s).1 then rFail (rU s).2 3 else (rU s).2)).2.2 = 0 then (rMany f (rU s).1 (if (rU s).2.1.length < (rU s).1 then rFail (rU s).2 3 else (rU s).2)).1 else [], (rMany f (rU s).1 (if (rU s).2.1.length < (rU s).1 then rFail (rU s).2 3 else (rU s).2)).2) := rfl
  rw [e, h1]
  dsimp only
  rw [if_neg (Nat.not_lt.2 h2), h3]
  rfl
theorem rRaw_enc {l : List UInt8} (hl : l.length < 18446744073709551616) (t : List UInt8) : rList rNext (varint l.length ++ l ++ t, 0) = (l, (t, 0)) := by
  refine rList_of (n := l.length) (b := l ++ t) ?_ (by simp) (rMany_bytes l t)
  rw [List.append_assoc, rU_varint hl]
theorem varint_pos (m : Nat) : 1 ≤ (varint m).length := by rw [varint_len]; exact sizeV_pos m
theorem encI_ge : ∀ (l : List Int), l.length ≤ (encI l).length
  | [] => Nat.le_refl _
  | n :: l => by
    have h := varint_pos (zig n)
    have := encI_ge l
    simp only [encI, List.map_cons, List.flatten_cons, List.length_append, List.length_cons] at this ⊢
    omega
theorem rInts_enc {l : List Int} (h : ∀ n ∈ l, -9223372036854775808 ≤ n ∧ n ≤ 9223372036854775807) (hl : l.length < 18446744073709551616) (t : List UInt8) : rList rI (varint l.length ++ encI l ++ t, 0) = (l, (t, 0)) := by
  refine rList_of (n := l.length) (b := encI l ++ t) ?_ (by have := encI_ge l; simp; omega) (rMany_ints l t h)
  rw [List.append_assoc, rU_varint hl]
end Go.Proofs.Ytbjaecofccpahaa
