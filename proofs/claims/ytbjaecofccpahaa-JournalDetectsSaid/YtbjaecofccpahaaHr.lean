/-
  Plain: one word, one group, one byte of a label changed. No program.
-/
import Derived.Test.YtbjaecofccpahaaHq
namespace Go.Proofs.Ytbjaecofccpahaa
open Go Go.RowKit
set_option linter.unusedVariables false
set_option linter.unusedSimpArgs false
theorem fold_one {α : Type} {f : UInt64 → α → UInt64} (hf : ∀ s s' x, f s x = f s' x → s = s') : ∀ (l l' : List α) (g : Nat) (s : UInt64), l.length = l'.length →
    (∀ s x x', x ∈ l → x' ∈ l' → f s x = f s x' → x = x') → (∀ i, i ≠ g → l[i]? = l'[i]?) → l.foldl f s = l'.foldl f s → l = l'
  | [], [], _, _, _, _, _, _ => rfl
  | [], _ :: _, _, _, h, _, _, _ => by simp at h
  | _ :: _, [], _, _, h, _, _, _ => by simp at h
  | x :: l, x' :: l', 0, s, h, hr, ha, he => by
    have ht : l = l' := List.ext_getElem? fun i => by simpa using ha (i + 1) (by omega)
    subst ht
    have := hr s x x' List.mem_cons_self List.mem_cons_self (fold_inj hf l he)
    rw [this]
  | x :: l, x' :: l', g + 1, s, h, hr, ha, he => by
    have hx : x = x' := by simpa using ha 0 (by omega)
    subst hx
    have ht := fold_one hf l l' g (f s x) (by simpa using h) (fun s a b ha hb => hr s a b (List.mem_cons_of_mem _ ha) (List.mem_cons_of_mem _ hb)) (fun i hi => by simpa using ha (i + 1) (by omega)) he
    rw [ht]
theorem ofInt_inj {a b : Int} (ha : -9223372036854775808 ≤ a ∧ a ≤ 9223372036854775807) (hb : -9223372036854775808 ≤ b ∧ b ≤ 9223372036854775807) (h : UInt64.ofInt a = UInt64.ofInt b) : a = b := by
  have h1 := ofIntI a
  have h2 := ofIntI b
  rw [IntKind.wrap_u64] at h1 h2
  rw [h] at h1
  omega
theorem toI_rng (x : UInt64) : -9223372036854775808 ≤ toI x ∧ toI x ≤ 9223372036854775807 := by unfold toI wrap64; omega
theorem toI_inj {x y : UInt64} (h : toI x = toI y) : x = y := by rw [← ofInt_toI x, ← ofInt_toI y, h]
theorem leW_cons {b : UInt8} {r : List UInt8} (h : r.length ≤ 7) : (leW (b :: r)).toNat = 256 * (leW r).toNat + b.toNat := by
  have h2 := (leW_lt (l := r) (by omega)).1
  have hb := b.toNat_lt
  have hp2 : 256 ^ r.length ≤ 256 ^ 7 := Nat.pow_le_pow_right (by decide) (by omega)
  have e : (256 : Nat) ^ 7 = 72057594037927936 := by decide
  rw [e] at hp2
  simp only [leW, UInt64.toNat_add, UInt64.toNat_mul, UInt8.toNat_toUInt64]
  have e2 : (256 : UInt64).toNat = 256 := rfl
  rw [e2]
  omega
theorem leW_inj : ∀ {a b : List UInt8}, a.length = b.length → a.length ≤ 8 → leW a = leW b → a = b
  | [], [], _, _, _ => rfl
  | [], _ :: _, h, _, _ => by simp at h
  | _ :: _, [], h, _, _ => by simp at h
  | x :: a, y :: b, h, h8, e => by
    simp at h h8
    have e1 := leW_cons (b := x) (r := a) (by omega)
    have e2 := leW_cons (b := y) (r := b) (by omega)
    rw [e, e2] at e1
    have hx := x.toNat_lt
    have hy := y.toNat_lt
    have hxy : x = y := UInt8.toNat_inj.1 (by omega)
    have hl : leW a = leW b := UInt64.toNat_inj.1 (by omega)
    rw [hxy, leW_inj (a := a) (b := b) (by omega) (by omega) hl]
theorem word_get {x : List UInt8} {j i : Nat} : ((x.drop (8 * j)).take 8)[i]? = if i < 8 then x[8 * j + i]? else none := by
  rw [List.getElem?_take, List.getElem?_drop]
theorem word_ext {x y : List UInt8} {j : Nat} (h : ∀ i, i / 8 = j → x[i]? = y[i]?) : wordAt x j = wordAt y j := by
  unfold wordAt
  congr 1
  refine List.ext_getElem? fun i => ?_
  rw [word_get, word_get]
  split
  · exact h _ (by omega)
  · rfl
theorem words_get {x : List UInt8} {j : Nat} : (wordsOf x)[j]? = if j < (x.length + 7) / 8 then some (wordAt x j) else none := by
  unfold wordsOf
  by_cases h : j < (x.length + 7) / 8
  · rw [if_pos h, List.getElem?_map, List.getElem?_range h]; rfl
  · rw [if_neg h, List.getElem?_eq_none (by simp; omega)]
theorem words_inj {x y : List UInt8} (hl : x.length = y.length) (h : wordsOf x = wordsOf y) : x = y := by
  refine List.ext_getElem? fun i => ?_
  by_cases hi : i < x.length
  · have h1 := words_get (x := x) (j := i / 8)
    have h2 := words_get (x := y) (j := i / 8)
    rw [if_pos (by omega)] at h1 h2
    rw [h, h2] at h1
    have h3 := Option.some.inj h1
    unfold wordAt at h3
    have h4 := leW_inj (a := (y.drop (8 * (i / 8))).take 8) (b := (x.drop (8 * (i / 8))).take 8) (by simp [hl]) (by simp; omega) h3
    have h5 := congrArg (·[i % 8]?) h4
    simp only [word_get] at h5
    rw [if_pos (by omega), if_pos (by omega)] at h5
    have e : 8 * (i / 8) + i % 8 = i := by omega
    rw [e] at h5
    exact h5.symm
  · rw [List.getElem?_eq_none (by omega), List.getElem?_eq_none (by omega)]
theorem sum_one {t : List UInt8} {l l' : List Int} (hl : l.length = l'.length) (g : Nat) (h : ∀ i, i ≠ g → l[i]? = l'[i]?) (hb : ∀ n ∈ l, -9223372036854775808 ≤ n ∧ n ≤ 9223372036854775807) (hb' : ∀ n ∈ l', -9223372036854775808 ≤ n ∧ n ≤ 9223372036854775807)
    (e : sumW t l = sumW t l') : l = l' := by
  rw [sumW_eq, sumW_eq, hl] at e
  exact fold_one (f := mixI) (fun s s' x h => mixI_l h) l l' g _ hl (fun s x x' hx hx' he => ofInt_inj (hb x hx) (hb' x' hx') (mix_r (s := s) (w := UInt64.ofInt x) (w' := UInt64.ofInt x') he)) h (mix_l e)
theorem bytes_one {t x y : List UInt8} (hl : x.length = y.length) (g : Nat) (h : ∀ i, i / 8 ≠ g → x[i]? = y[i]?) (hs : x.length ≤ 1000000) (e : bytesW t x = bytesW t y) : x = y := by
  have hwl : (wordsOf x).length = (wordsOf y).length := by simp [wordsOf, hl]
  have rng : ∀ {z : List UInt8} {n : Int}, z.length ≤ 1000000 → n ∈ (wordsOf z).map toI ++ [(z.length : Int)] → -9223372036854775808 ≤ n ∧ n ≤ 9223372036854775807 := by
    intro z n hz hn
    rw [List.mem_append] at hn
    rcases hn with hn | hn
    · obtain ⟨u, _, rfl⟩ := List.mem_map.1 hn
      exact toI_rng u
    · simp at hn
      omega
  have h2 := sum_one (l := (wordsOf x).map toI ++ [(x.length : Int)]) (l' := (wordsOf y).map toI ++ [(y.length : Int)]) (by simp [hwl]) g (fun i hi => ?_) (fun n hn => rng hs hn) (fun n hn => rng (by omega) hn) e
  · have h3 := List.append_inj_left h2 (by simp [hwl])
    refine words_inj hl ?_
    have h4 := congrArg (List.map UInt64.ofInt) h3
    simp only [List.map_map] at h4
    have e2 : (UInt64.ofInt ∘ toI) = id := funext fun u => ofInt_toI u
    rw [e2, List.map_id, List.map_id] at h4
    exact h4
  · by_cases hi2 : i < (wordsOf x).length
    · rw [List.getElem?_append_left (by simpa using hi2), List.getElem?_append_left (by simpa using hwl ▸ hi2), List.getElem?_map, List.getElem?_map, words_get, words_get, hl]
      rw [word_ext (x := x) (y := y) (j := i) (fun k hk => h k (by omega))]
    · rw [List.getElem?_append_right (by simpa using hi2), List.getElem?_append_right (by simp; omega), hl]
      simp [hwl]
theorem label_one {a b : List UInt8} {l : List Int} (hl : a.length = b.length) (g : Nat) (h : ∀ i, i / 8 ≠ g → a[i]? = b[i]?) (e : sumW a l = sumW b l) : a = b := by
  rw [sumW_eq, sumW_eq] at e
  have e2 := fold_inj (f := mixI) (fun s s' x h => mixI_l h) l (mix_l e)
  unfold start at e2
  rw [hl] at e2
  have e3 := mix_l (mix_l e2)
  have hwl : (wordsOf a).length = (wordsOf b).length := by simp [wordsOf, hl]
  refine words_inj hl (fold_one (f := mix) (fun s s' x h => mix_l h) (wordsOf a) (wordsOf b) g 0 hwl (fun s x x' _ _ he => mix_r he) (fun i hi => ?_) e3)
  rw [words_get, words_get, hl, word_ext (x := a) (y := b) (j := i) (fun k hk => h k (by omega))]
end Go.Proofs.Ytbjaecofccpahaa
