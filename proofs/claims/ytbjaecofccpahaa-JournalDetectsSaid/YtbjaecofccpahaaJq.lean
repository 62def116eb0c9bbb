/-
  Plain: a frame with one byte changed after the length at its beginning is none.
-/
import Derived.Test.YtbjaecofccpahaaJp
import Derived.Test.YtbjaecofccpahaaHr
namespace Go.Proofs.Ytbjaecofccpahaa
open Go Go.RowKit
set_option linter.unusedVariables false
set_option linter.unusedSimpArgs false
theorem bit_flip {y : UInt8} {k : Nat} (hk : k < 8) : ∃ z : UInt8, bits .xor .u8 (y.toNat : Int) (IntKind.u8.wrap (1 * 2 ^ k)) = (z.toNat : Int) ∧ z ≠ y := by
  have h : ∀ (k : Fin 8) (y : Fin 256), 0 ≤ bits .xor .u8 (y.val : Int) (IntKind.u8.wrap (1 * 2 ^ k.val)) ∧ bits .xor .u8 (y.val : Int) (IntKind.u8.wrap (1 * 2 ^ k.val)) < 256 ∧ bits .xor .u8 (y.val : Int) (IntKind.u8.wrap (1 * 2 ^ k.val)) ≠ (y.val : Int) := by decide +kernel
  obtain ⟨h1, h2, h3⟩ := h ⟨k, hk⟩ ⟨y.toNat, y.toNat_lt⟩
  dsimp only at h1 h2 h3
  have e : ((UInt8.ofNat (bits .xor .u8 (y.toNat : Int) (IntKind.u8.wrap (1 * 2 ^ k))).toNat).toNat : Int) = bits .xor .u8 (y.toNat : Int) (IntKind.u8.wrap (1 * 2 ^ k)) := by
    rw [UInt8.toNat_ofNat']
    omega
  refine ⟨UInt8.ofNat (bits .xor .u8 (y.toNat : Int) (IntKind.u8.wrap (1 * 2 ^ k))).toNat, e.symm, fun hz => h3 ?_⟩
  rw [← e, hz]
theorem varint_inj {m n : Nat} {t u : List UInt8} (hm : m < 18446744073709551616) (hn : n < 18446744073709551616) (h : varint m ++ t = varint n ++ u) : m = n ∧ t = u := by
  have h1 := rU_varint (t := t) hm
  have h2 := rU_varint (t := u) hn
  rw [h, h2] at h1
  simp only [Prod.mk.injEq, and_true] at h1
  exact ⟨h1.1.symm, h1.2.symm⟩
theorem append_set_left {a b : List UInt8} {p : Nat} {z : UInt8} (h : p < a.length) : (a ++ b).set p z = a.set p z ++ b := List.set_append_left _ _ h
theorem set_ne {a : List UInt8} {p : Nat} {y z : UInt8} (h : a[p]? = some y) (hz : z ≠ y) : a.set p z ≠ a := by
  intro e
  have h2 : (a.set p z)[p]? = some z := by
    rw [List.getElem?_set_self (List.getElem?_eq_some_iff.1 h).1]
  rw [e, h] at h2
  injection h2 with h2
  exact hz h2.symm
theorem detect {x : List UInt8} {p : Nat} {y z : UInt8} (hx : x.length ≤ 1000) (hp : (varint (coreF 0 x).length).length ≤ p) (hy : (frameF 0 x)[p]? = some y) (hz : z ≠ y) : isF 0 ((frameF 0 x).set p z) = false := by
  rw [Bool.eq_false_iff]
  intro hf
  obtain ⟨t, ht⟩ := isF_iff.1 hf
  have hxl := recF_len ((frameF 0 x).set p z)
  obtain ⟨x', hx'⟩ : ∃ x', recF ((frameF 0 x).set p z) = x' := ⟨_, rfl⟩
  rw [hx'] at ht hxl
  rw [List.length_set] at hxl
  have hcl := coreF_len (i := 0) (x := x) (by decide) (by decide) (by omega)
  have hfl := frameF_len (i := 0) (x := x) (by decide) (by decide) (by omega)
  have hcl' := coreF_len (i := 0) (x := x') (by decide) (by decide) (by omega)
  have hs := sumF_lt 0 x
  have hs' := sumF_lt 0 x'
  have hsum : ∀ w, sumF 0 w = (bytesW lblF.data.toList (coreF 0 w)).toNat := fun _ => rfl
  have he : ∀ w, frameF 0 w = varint (coreF 0 w).length ++ (coreF 0 w ++ varint (sumF 0 w)) := fun w => by unfold frameF; rw [List.append_assoc]
  rw [he x] at ht hy
  rw [he x', List.set_append_right _ _ hp, List.append_assoc, List.append_assoc] at ht
  obtain ⟨hlen, ht⟩ := varint_inj (by omega) (by omega) ht
  rw [List.getElem?_append_right hp] at hy
  obtain ⟨q, hq⟩ : ∃ q, p - (varint (coreF 0 x).length).length = q := ⟨_, rfl⟩
  rw [hq] at ht hy
  by_cases hin : q < (coreF 0 x).length
  · rw [List.set_append_left _ _ hin] at ht
    have hl2 : (coreF 0 x').length = ((coreF 0 x).set q z).length := by rw [List.length_set]; exact hlen
    obtain ⟨h1, h2⟩ := List.append_inj ht hl2
    have h3 : varint (sumF 0 x') ++ t = varint (sumF 0 x) ++ [] := by rw [h2, List.append_nil]
    obtain ⟨h4, _⟩ := varint_inj hs' hs h3
    rw [hsum, hsum] at h4
    have h5 := UInt64.toNat_inj.1 h4
    rw [h1] at h5
    rw [List.getElem?_append_left hin] at hy
    have h6 := bytes_one (t := lblF.data.toList) (x := (coreF 0 x).set q z) (y := coreF 0 x) (List.length_set) (q / 8) (fun i hi => by
      rw [List.getElem?_set_ne]
      intro e
      subst e
      exact hi rfl) (by rw [List.length_set]; omega) h5
    exact set_ne hy hz h6
  · rw [List.set_append_right _ _ (by omega)] at ht
    rw [List.getElem?_append_right (by omega)] at hy
    obtain ⟨h1, h2⟩ := List.append_inj ht hlen
    have h3 : sumF 0 x' = sumF 0 x := by rw [hsum, hsum, h1]
    rw [h3] at h2
    have h4 := congrArg List.length h2
    rw [List.length_append, List.length_set] at h4
    have h5 : t = [] := List.length_eq_zero_iff.1 (by omega)
    subst h5
    rw [List.append_nil] at h2
    exact set_ne hy hz h2.symm
end Go.Proofs.Ytbjaecofccpahaa
