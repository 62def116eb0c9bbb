/-
  Plain: what changes a hash. No program.
-/
import Derived.Test.YthbgmnoaaohbcaaMJ
import Derived.Test.YthbgmnoaaohbcaaMO
import Derived.Test.YthbgmnoaaohbcaaMQ
import Derived.Test.YthbgmnoaaohbcaaMS
namespace Go.Proofs.Ythbgmnoaaohbcaa
open Go Go.RowKit
set_option linter.unusedVariables false
set_option linter.unusedSimpArgs false
def fold32 (y : UInt64) : UInt64 := y ^^^ (y >>> 32)
theorem fold32_twice (y : UInt64) : fold32 (fold32 y) = y := by
  apply UInt64.eq_of_toBitVec_eq
  simp only [fold32, UInt64.toBitVec_xor, UInt64.toBitVec_shiftRight]
  have e : ((32 : UInt64).toBitVec % 64) = (32 : BitVec 64) := by decide
  rw [e]
  apply BitVec.eq_of_getLsbD_eq
  intro i hi
  have e2 : (32 : BitVec 64).toNat = 32 := by decide
  simp only [BitVec.getLsbD_xor, BitVec.ushiftRight_eq', e2, BitVec.getLsbD_ushiftRight]
  have e3 : y.toBitVec.getLsbD (32 + (32 + i)) = false := BitVec.getLsbD_of_ge _ _ (by omega)
  rw [e3]
  cases y.toBitVec.getLsbD i <;> cases y.toBitVec.getLsbD (32 + i) <;> rfl
theorem mul_inj {x y : UInt64} (h : x * hC = y * hC) : x = y := by
  have hi : hC * 17428512612931826493 = 1 := by decide
  have h2 : (x * hC) * 17428512612931826493 = (y * hC) * 17428512612931826493 := by rw [h]
  rw [UInt64.mul_assoc, UInt64.mul_assoc, hi, UInt64.mul_one, UInt64.mul_one] at h2
  exact h2
theorem mix_fold (s w : UInt64) : mix s w = fold32 ((s ^^^ w) * hC) := rfl
theorem mix_x {a b : UInt64} {s w s' w' : UInt64} (h : mix s w = mix s' w') : s ^^^ w = s' ^^^ w' := by
  rw [mix_fold, mix_fold] at h
  have h2 := congrArg fold32 h
  rw [fold32_twice, fold32_twice] at h2
  exact mul_inj h2
theorem xor_l {s s' w : UInt64} (h : s ^^^ w = s' ^^^ w) : s = s' := by
  have h2 := congrArg (· ^^^ w) h
  simp only [UInt64.xor_assoc, UInt64.xor_self, UInt64.xor_zero] at h2
  exact h2
theorem mix_l {s s' w : UInt64} (h : mix s w = mix s' w) : s = s' := xor_l (mix_x (a := 0) (b := 0) h)
theorem mix_r {s w w' : UInt64} (h : mix s w = mix s w') : w = w' := by
  have := mix_x (a := 0) (b := 0) h
  rw [UInt64.xor_comm s w, UInt64.xor_comm s w'] at this
  exact xor_l this
theorem fold_inj {α : Type} {f : UInt64 → α → UInt64} (hf : ∀ s s' x, f s x = f s' x → s = s') : ∀ (l : List α) {s s' : UInt64}, l.foldl f s = l.foldl f s' → s = s'
  | [], _, _, h => h
  | x :: l, _, _, h => hf _ _ x (fold_inj hf l h)
theorem mixI_l {s s' : UInt64} {n : Int} (h : mixI s n = mixI s' n) : s = s' := mix_l h
theorem ofInt_toI (x : UInt64) : UInt64.ofInt (toI x) = x := by
  have h := u64_lt x
  apply UInt64.toNat_inj.1
  have h2 := ofIntI (toI x)
  have h3 : IntKind.u64.wrap (toI x) = (x.toNat : Int) := by
    rw [IntKind.wrap_u64]
    unfold toI wrap64
    omega
  omega
theorem mixI_toI (s x : UInt64) : mixI s (toI x) = mix s x := by unfold mixI; rw [ofInt_toI]
/-- the start of a sum -/
def start (label : List UInt8) (n : Nat) : UInt64 := mix (mix ((wordsOf label).foldl mix 0) (UInt64.ofNat label.length)) (UInt64.ofNat n)
theorem sumW_eq (label : List UInt8) (l : List Int) : sumW label l = mix (l.foldl mixI (start label l.length)) 0 := rfl
theorem pair_l {a b c : UInt64} (h : pairW a c = pairW b c) : a = b := by
  unfold pairW at h
  rw [sumW_eq, sumW_eq] at h
  have h2 := mixI_l (mix_l h)
  simp only [List.foldl_cons, List.foldl_nil, List.length_cons, List.length_nil] at h2
  rw [mixI_toI, mixI_toI] at h2
  exact mix_r h2
theorem pair_r {a b c : UInt64} (h : pairW c a = pairW c b) : a = b := by
  unfold pairW at h
  rw [sumW_eq, sumW_eq] at h
  have h2 := mix_l h
  simp only [List.foldl_cons, List.foldl_nil, List.length_cons, List.length_nil] at h2
  rw [mixI_toI, mixI_toI, mixI_toI] at h2
  exact mix_r h2
theorem wf_u64 {n : Int} (h : (Lit.int .u64 n).wf = true) : ∃ x : UInt64, n = (x.toNat : Int) := by
  refine ⟨UInt64.ofNat n.toNat, ?_⟩
  simp [Lit.wf, IntKind.min, IntKind.max, IntKind.signed, IntKind.bits] at h
  simp
  omega
theorem wf_i64 {n : Int} (h : (Lit.int .i64 n).wf = true) : -9223372036854775808 ≤ n ∧ n ≤ 9223372036854775807 := by
  simpa [Lit.wf, IntKind.min, IntKind.max, IntKind.signed, IntKind.bits] using h
theorem wf_u8 {n : Int} (h : (Lit.int .u8 n).wf = true) : ∃ x : UInt8, n = (x.toNat : Int) := by
  refine ⟨UInt8.ofNat n.toNat, ?_⟩
  simp [Lit.wf, IntKind.min, IntKind.max, IntKind.signed, IntKind.bits] at h
  simp
  omega
theorem beq_f {x y : UInt64} (h : x ≠ y) : ((x.toNat : Int) == (y.toNat : Int)) = false := by
  simp only [beq_eq_false_iff_ne, ne_eq]
  intro e
  exact h (UInt64.toNat_inj.1 (by omega))
theorem leW_zero : ∀ d : List UInt8, leW (d ++ [0]) = leW d
  | [] => by decide
  | b :: r => by
    have ih := leW_zero r
    simp only [List.cons_append, leW, ih]
theorem words_zero {c : List UInt8} (h : c.length % 8 ≠ 0) : wordsOf (c ++ [0]) = wordsOf c := by
  unfold wordsOf
  have e : ((c ++ [0]).length + 7) / 8 = (c.length + 7) / 8 := by simp; omega
  rw [e]
  refine List.map_congr_left fun j hj => ?_
  rw [List.mem_range] at hj
  have h8 : 8 * j ≤ c.length := by omega
  unfold wordAt
  rw [List.drop_append_of_le_length h8]
  by_cases hd : 8 ≤ (c.drop (8 * j)).length
  · rw [List.take_append_of_le_length hd]
  · rw [List.take_of_length_le (by simp at hd ⊢; omega), List.take_of_length_le (by omega), leW_zero]
theorem ofInt_ne {a b : Nat} (ha : a < 1000000) (hb : b < 1000000) (h : UInt64.ofInt (a : Int) = UInt64.ofInt (b : Int)) : a = b := by
  have h1 := ofIntI (a : Int)
  have h2 := ofIntI (b : Int)
  rw [IntKind.wrap_u64] at h1 h2
  rw [h] at h1
  omega
theorem bytes_zero {t c : List UInt8} (h : c.length % 8 ≠ 0) (hl : c.length ≤ 1000) : bytesW t (c ++ [0]) ≠ bytesW t c := by
  intro e
  unfold bytesW at e
  rw [words_zero h, sumW_eq, sumW_eq] at e
  have e2 := mix_l e
  rw [List.foldl_append, List.foldl_append] at e2
  simp only [List.length_append, List.length_cons, List.length_nil, List.foldl_cons, List.foldl_nil] at e2
  have e3 := ofInt_ne (by omega) (by omega) (mix_r (by simpa [mixI] using e2) : UInt64.ofInt ((c.length + 1 : Nat) : Int) = UInt64.ofInt (c.length : Int))
  omega
end Go.Proofs.Ythbgmnoaaohbcaa
namespace Go.Proofs.Ythbgmnoaaohbcaa
open Go Go.RowKit
set_option linter.unusedVariables false
set_option linter.unusedSimpArgs false
theorem fold_one {α : Type} {f : UInt64 → α → UInt64} (hf : ∀ s s' x, f s x = f s' x → s = s') : ∀ (l l' : List α) (g : Nat) (s : UInt64), l.length = l'.length →
    (∀ s x x', x ∈ l → x' ∈ l' → f s x = f s x' → x = x') → (∀ i, i ≠ g → l[i]? = l'[i]?) → l.foldl f s = l'.foldl f s → l = l'
  | [], [], _, _, _, _, _, _ => rfl
  | [], _ :: _, _, _, h, _, _, _ => by simp at h
  | _ :: _, [], _, _, h, _, _, _ => by simp at h
  | x :: l, x' :: l', 0, s, h, hr, ha, he => by
    have ht : l = l' := List.ext_getElem? fun i => by simpa using ha (i + 1) (by omega)
    subst ht
    have := hr s x x' List.mem_cons_self List.mem_cons_self (fold_inj hf l he)
    rw [this]
  | x :: l, x' :: l', g + 1, s, h, hr, ha, he => by
    have hx : x = x' := by simpa using ha 0 (by omega)
    subst hx
    have ht := fold_one hf l l' g (f s x) (by simpa using h) (fun s a b ha hb => hr s a b (List.mem_cons_of_mem _ ha) (List.mem_cons_of_mem _ hb)) (fun i hi => by simpa using ha (i + 1) (by omega)) he
    rw [ht]
theorem ofInt_inj {a b : Int} (ha : -9223372036854775808 ≤ a ∧ a ≤ 9223372036854775807) (hb : -9223372036854775808 ≤ b ∧ b ≤ 9223372036854775807) (h : UInt64.ofInt a = UInt64.ofInt b) : a = b := by
  have h1 := ofIntI a
  have h2 := ofIntI b
  rw [IntKind.wrap_u64] at h1 h2
  rw [h] at h1
  omega
theorem toI_rng (x : UInt64) : -9223372036854775808 ≤ toI x ∧ toI x ≤ 9223372036854775807 := by unfold toI wrap64; omega
theorem toI_inj {x y : UInt64} (h : toI x = toI y) : x = y := by rw [← ofInt_toI x, ← ofInt_toI y, h]
theorem leW_cons {b : UInt8} {r : List UInt8} (h : r.length ≤ 7) : (leW (b :: r)).toNat = 256 * (leW r).toNat + b.toNat := by
  have h2 := (leW_lt (l := r) (by omega)).1
  have hb := b.toNat_lt
  have hp2 : 256 ^ r.length ≤ 256 ^ 7 := Nat.pow_le_pow_right (by decide) (by omega)
  have e : (256 : Nat) ^ 7 = 72057594037927936 := by decide
  rw [e] at hp2
  simp only [leW, UInt64.toNat_add, UInt64.toNat_mul, UInt8.toNat_toUInt64]
  have e2 : (256 : UInt64).toNat = 256 := rfl
  rw [e2]
  omega
theorem leW_inj : ∀ {a b : List UInt8}, a.length = b.length → a.length ≤ 8 → leW a = leW b → a = b
  | [], [], _, _, _ => rfl
  | [], _ :: _, h, _, _ => by simp at h
  | _ :: _, [], h, _, _ => by simp at h
  | x :: a, y :: b, h, h8, e => by
    simp at h h8
    have e1 := leW_cons (b := x) (r := a) (by omega)
    have e2 := leW_cons (b := y) (r := b) (by omega)
    rw [e, e2] at e1
    have hx := x.toNat_lt
    have hy := y.toNat_lt
    have hxy : x = y := UInt8.toNat_inj.1 (by omega)
    have hl : leW a = leW b := UInt64.toNat_inj.1 (by omega)
    rw [hxy, leW_inj (a := a) (b := b) (by omega) (by omega) hl]
theorem word_get {x : List UInt8} {j i : Nat} : ((x.drop (8 * j)).take 8)[i]? = if i < 8 then x[8 * j + i]? else none := by
  rw [List.getElem?_take, List.getElem?_drop]
theorem word_ext {x y : List UInt8} {j : Nat} (h : ∀ i, i / 8 = j → x[i]? = y[i]?) : wordAt x j = wordAt y j := by
  unfold wordAt
  congr 1
  refine List.ext_getElem? fun i => ?_
  rw [word_get, word_get]
  split
  · exact h _ (by omega)
  · rfl
theorem words_get {x : List UInt8} {j : Nat} : (wordsOf x)[j]? = if j < (x.length + 7) / 8 then some (wordAt x j) else none := by
  unfold wordsOf
  by_cases h : j < (x.length + 7) / 8
  · rw [if_pos h, List.getElem?_map, List.getElem?_range h]; rfl
  · rw [if_neg h, List.getElem?_eq_none (by simp; omega)]
theorem words_inj {x y : List UInt8} (hl : x.length = y.length) (h : wordsOf x = wordsOf y) : x = y := by
  refine List.ext_getElem? fun i => ?_
  by_cases hi : i < x.length
  · have h1 := words_get (x := x) (j := i / 8)
    have h2 := words_get (x := y) (j := i / 8)
    rw [if_pos (by omega)] at h1 h2
    rw [h, h2] at h1
    have h3 := Option.some.inj h1
    unfold wordAt at h3
    have h4 := leW_inj (a := (y.drop (8 * (i / 8))).take 8) (b := (x.drop (8 * (i / 8))).take 8) (by simp [hl]) (by simp; omega) h3
    have h5 := congrArg (·[i % 8]?) h4
    simp only [word_get] at h5
    rw [if_pos (by omega), if_pos (by omega)] at h5
    have e : 8 * (i / 8) + i % 8 = i := by omega
    rw [e] at h5
    exact h5.symm
  · rw [List.getElem?_eq_none (by omega), List.getElem?_eq_none (by omega)]
theorem sum_one {t : List UInt8} {l l' : List Int} (hl : l.length = l'.length) (g : Nat) (h : ∀ i, i ≠ g → l[i]? = l'[i]?) (hb : ∀ n ∈ l, -9223372036854775808 ≤ n ∧ n ≤ 9223372036854775807) (hb' : ∀ n ∈ l', -9223372036854775808 ≤ n ∧ n ≤ 9223372036854775807)
    (e : sumW t l = sumW t l') : l = l' := by
  rw [sumW_eq, sumW_eq, hl] at e
  exact fold_one (f := mixI) (fun s s' x h => mixI_l h) l l' g _ hl (fun s x x' hx hx' he => ofInt_inj (hb x hx) (hb' x' hx') (mix_r (s := s) (w := UInt64.ofInt x) (w' := UInt64.ofInt x') he)) h (mix_l e)
theorem bytes_one {t x y : List UInt8} (hl : x.length = y.length) (g : Nat) (h : ∀ i, i / 8 ≠ g → x[i]? = y[i]?) (hs : x.length ≤ 1000000) (e : bytesW t x = bytesW t y) : x = y := by
  have hwl : (wordsOf x).length = (wordsOf y).length := by simp [wordsOf, hl]
  have rng : ∀ {z : List UInt8} {n : Int}, z.length ≤ 1000000 → n ∈ (wordsOf z).map toI ++ [(z.length : Int)] → -9223372036854775808 ≤ n ∧ n ≤ 9223372036854775807 := by
    intro z n hz hn
    rw [List.mem_append] at hn
    rcases hn with hn | hn
    · obtain ⟨u, _, rfl⟩ := List.mem_map.1 hn
      exact toI_rng u
    · simp at hn
      omega
  have h2 := sum_one (l := (wordsOf x).map toI ++ [(x.length : Int)]) (l' := (wordsOf y).map toI ++ [(y.length : Int)]) (by simp [hwl]) g (fun i hi => ?_) (fun n hn => rng hs hn) (fun n hn => rng (by omega) hn) e
  · have h3 := List.append_inj_left h2 (by simp [hwl])
    refine words_inj hl ?_
    have h4 := congrArg (List.map UInt64.ofInt) h3
    simp only [List.map_map] at h4
    have e2 : (UInt64.ofInt ∘ toI) = id := funext fun u => ofInt_toI u
    rw [e2, List.map_id, List.map_id] at h4
    exact h4
  · by_cases hi2 : i < (wordsOf x).length
    · rw [List.getElem?_append_left (by simpa using hi2), List.getElem?_append_left (by simpa using hwl ▸ hi2), List.getElem?_map, List.getElem?_map, words_get, words_get, hl]
      rw [word_ext (x := x) (y := y) (j := i) (fun k hk => h k (by omega))]
    · rw [List.getElem?_append_right (by simpa using hi2), List.getElem?_append_right (by simp; omega), hl]
      simp [hwl]
theorem label_one {a b : List UInt8} {l : List Int} (hl : a.length = b.length) (g : Nat) (h : ∀ i, i / 8 ≠ g → a[i]? = b[i]?) (e : sumW a l = sumW b l) : a = b := by
  rw [sumW_eq, sumW_eq] at e
  have e2 := fold_inj (f := mixI) (fun s s' x h => mixI_l h) l (mix_l e)
  unfold start at e2
  rw [hl] at e2
  have e3 := mix_l (mix_l e2)
  have hwl : (wordsOf a).length = (wordsOf b).length := by simp [wordsOf, hl]
  refine words_inj hl (fold_one (f := mix) (fun s s' x h => mix_l h) (wordsOf a) (wordsOf b) g 0 hwl (fun s x x' _ _ he => mix_r he) (fun i hi => ?_) e3)
  rw [words_get, words_get, hl, word_ext (x := a) (y := b) (j := i) (fun k hk => h k (by omega))]
end Go.Proofs.Ythbgmnoaaohbcaa
namespace Go.Proofs.Ythbgmnoaaohbcaa
open Go Go.RowKit
set_option linter.unusedVariables false
set_option linter.unusedSimpArgs false
theorem bit_flip {y : UInt8} {k : Nat} (hk : k < 8) : ∃ z : UInt8, bits .xor .u8 (y.toNat : Int) (IntKind.u8.wrap (1 * 2 ^ k)) = (z.toNat : Int) ∧ z ≠ y := by
  have h : ∀ (k : Fin 8) (y : Fin 256), 0 ≤ bits .xor .u8 (y.val : Int) (IntKind.u8.wrap (1 * 2 ^ k.val)) ∧ bits .xor .u8 (y.val : Int) (IntKind.u8.wrap (1 * 2 ^ k.val)) < 256 ∧ bits .xor .u8 (y.val : Int) (IntKind.u8.wrap (1 * 2 ^ k.val)) ≠ (y.val : Int) := by decide +kernel
  obtain ⟨h1, h2, h3⟩ := h ⟨k, hk⟩ ⟨y.toNat, y.toNat_lt⟩
  dsimp only at h1 h2 h3
  have e : ((UInt8.ofNat (bits .xor .u8 (y.toNat : Int) (IntKind.u8.wrap (1 * 2 ^ k))).toNat).toNat : Int) = bits .xor .u8 (y.toNat : Int) (IntKind.u8.wrap (1 * 2 ^ k)) := by
    rw [UInt8.toNat_ofNat']
    omega
  refine ⟨UInt8.ofNat (bits .xor .u8 (y.toNat : Int) (IntKind.u8.wrap (1 * 2 ^ k))).toNat, e.symm, fun hz => h3 ?_⟩
  rw [← e, hz]
theorem varint_inj {m n : Nat} {t u : List UInt8} (hm : m < 18446744073709551616) (hn : n < 18446744073709551616) (h : varint m ++ t = varint n ++ u) : m = n ∧ t = u := by
  have h1 := rU_varint (t := t) hm
  have h2 := rU_varint (t := u) hn
  rw [h, h2] at h1
  simp only [Prod.mk.injEq, and_true] at h1
  exact ⟨h1.1.symm, h1.2.symm⟩
theorem append_set_left {a b : List UInt8} {p : Nat} {z : UInt8} (h : p < a.length) : (a ++ b).set p z = a.set p z ++ b := List.set_append_left _ _ h
theorem set_ne {a : List UInt8} {p : Nat} {y z : UInt8} (h : a[p]? = some y) (hz : z ≠ y) : a.set p z ≠ a := by
  intro e
  have h2 : (a.set p z)[p]? = some z := by
    rw [List.getElem?_set_self (List.getElem?_eq_some_iff.1 h).1]
  rw [e, h] at h2
  injection h2 with h2
  exact hz h2.symm
theorem detect {x : List UInt8} {p : Nat} {y z : UInt8} (hx : x.length ≤ 1000) (hp : (varint (coreF 0 x).length).length ≤ p) (hy : (frameF 0 x)[p]? = some y) (hz : z ≠ y) : isF 0 ((frameF 0 x).set p z) = false := by
  rw [Bool.eq_false_iff]
  intro hf
  obtain ⟨t, ht⟩ := isF_iff.1 hf
  have hxl := recF_len ((frameF 0 x).set p z)
  obtain ⟨x', hx'⟩ : ∃ x', recF ((frameF 0 x).set p z) = x' := ⟨_, rfl⟩
  rw [hx'] at ht hxl
  rw [List.length_set] at hxl
  have hcl := coreF_len (i := 0) (x := x) (by decide) (by decide) (by omega)
  have hfl := frameF_len (i := 0) (x := x) (by decide) (by decide) (by omega)
  have hcl' := coreF_len (i := 0) (x := x') (by decide) (by decide) (by omega)
  have hs := sumF_lt 0 x
  have hs' := sumF_lt 0 x'
  have hsum : ∀ w, sumF 0 w = (bytesW lblF.data.toList (coreF 0 w)).toNat := fun _ => rfl
  have he : ∀ w, frameF 0 w = varint (coreF 0 w).length ++ (coreF 0 w ++ varint (sumF 0 w)) := fun w => by unfold frameF; rw [List.append_assoc]
  rw [he x] at ht hy
  rw [he x', List.set_append_right _ _ hp, List.append_assoc, List.append_assoc] at ht
  obtain ⟨hlen, ht⟩ := varint_inj (by omega) (by omega) ht
  rw [List.getElem?_append_right hp] at hy
  obtain ⟨q, hq⟩ : ∃ q, p - (varint (coreF 0 x).length).length = q := ⟨_, rfl⟩
  rw [hq] at ht hy
  by_cases hin : q < (coreF 0 x).length
  · rw [List.set_append_left _ _ hin] at ht
    have hl2 : (coreF 0 x').length = ((coreF 0 x).set q z).length := by rw [List.length_set]; exact hlen
    obtain ⟨h1, h2⟩ := List.append_inj ht hl2
    have h3 : varint (sumF 0 x') ++ t = varint (sumF 0 x) ++ [] := by rw [h2, List.append_nil]
    obtain ⟨h4, _⟩ := varint_inj hs' hs h3
    rw [hsum, hsum] at h4
    have h5 := UInt64.toNat_inj.1 h4
    rw [h1] at h5
    rw [List.getElem?_append_left hin] at hy
    have h6 := bytes_one (t := lblF.data.toList) (x := (coreF 0 x).set q z) (y := coreF 0 x) (List.length_set) (q / 8) (fun i hi => by
      rw [List.getElem?_set_ne]
      intro e
      subst e
      exact hi rfl) (by rw [List.length_set]; omega) h5
    exact set_ne hy hz h6
  · rw [List.set_append_right _ _ (by omega)] at ht
    rw [List.getElem?_append_right (by omega)] at hy
    obtain ⟨h1, h2⟩ := List.append_inj ht hlen
    have h3 : sumF 0 x' = sumF 0 x := by rw [hsum, hsum, h1]
    rw [h3] at h2
    have h4 := congrArg List.length h2
    rw [List.length_append, List.length_set] at h4
    have h5 : t = [] := List.length_eq_zero_iff.1 (by omega)
    subst h5
    rw [List.append_nil] at h2
    exact set_ne hy hz h2.symm
end Go.Proofs.Ythbgmnoaaohbcaa
namespace Go.Proofs.Ythbgmnoaaohbcaa
open Go Go.RowKit
set_option linter.unusedVariables false
set_option linter.unusedSimpArgs false
theorem rUi_canon : ∀ (b : List UInt8) (i n m : Nat) (t : List UInt8), rUi i n b = (m, (t, 0)) → i ≤ 9 → ∃ q, m = n + q * 128 ^ i ∧ b = varint q ++ t ∧ (0 < i → 0 < q)
  | [], i, n, m, t, h, _ => by
    simp only [rUi, Prod.mk.injEq] at h
    exact absurd h.2.2 (by decide)
  | c :: r, i, n, m, t, h, hi => by
    rw [rUi] at h
    have hc : c.toNat < 256 := c.toNat_lt
    split at h
    · simp only [Prod.mk.injEq] at h
      exact absurd h.2.2 (by decide)
    · rename_i h1
      split at h
      · rename_i h2
        simp only [Prod.mk.injEq] at h
        obtain ⟨rfl, rfl, _⟩ := h
        refine ⟨c.toNat, rfl, ?_, fun h0 => ?_⟩
        · rw [varint_small h2, UInt8.ofNat_toNat]; rfl
        · rcases Nat.eq_zero_or_pos c.toNat with hz | hz
          · exact absurd (.inr ⟨h0, hz⟩) h1
          · exact hz
      · rename_i h2
        have h9 : i ≠ 9 := fun e => h1 (.inl ⟨e, by omega⟩)
        obtain ⟨q, hm, hr, hp⟩ := rUi_canon r (i + 1) _ m t h (by omega)
        have hq := hp (by omega)
        have e1 : (c.toNat - 128 + 128 * q) / 128 = q := by omega
        have e2 : (c.toNat - 128 + 128 * q) % 128 = c.toNat - 128 := by omega
        refine ⟨c.toNat - 128 + 128 * q, ?_, ?_, fun _ => by omega⟩
        · rw [hm, Nat.pow_succ, Nat.add_mul, Nat.mul_comm (128 ^ i) 128, ← Nat.mul_assoc, Nat.mul_comm q 128]
          omega
        · rw [varint_big (by omega), e1, e2, hr]
          have : c.toNat - 128 + 128 = c.toNat := by omega
          rw [this, UInt8.ofNat_toNat]; rfl
theorem rU_canon {b t : List UInt8} {m : Nat} (h : rU (b, 0) = (m, (t, 0))) : b = varint m ++ t := by
  unfold rU at h
  rw [if_pos rfl] at h
  obtain ⟨q, hm, hb, _⟩ := rUi_canon b 0 0 m t h (by decide)
  simp only [Nat.pow_zero, Nat.mul_one, Nat.zero_add] at hm
  rw [hm]; exact hb
theorem zig_unzig (m : Nat) : zig (unzig m) = m := by
  unfold unzig zig
  split <;> split <;> omega
theorem rI_canon {b t : List UInt8} {n : Int} (h : rI (b, 0) = (n, (t, 0))) : b = varint (zig n) ++ t ∧ -9223372036854775808 ≤ n ∧ n ≤ 9223372036854775807 := by
  unfold rI at h
  simp only [Prod.mk.injEq] at h
  obtain ⟨rfl, h2⟩ := h
  have := unzig_in (rU_lt (b, 0))
  refine ⟨?_, this⟩
  rw [zig_unzig]
  exact rU_canon (by rw [← h2])
theorem rB_canon {b t : List UInt8} {x : Bool} (h : rB (b, 0) = (x, (t, 0))) : b = varint (if x = true then 1 else 0) ++ t := by
  unfold rB at h
  rcases b with _ | ⟨c, r⟩
  · have e : rNext (([] : List UInt8), 0) = (0, ([], 3)) := rfl
    rw [e] at h
    simp at h
  · have e : rNext (c :: r, 0) = (c, (r, 0)) := rfl
    rw [e] at h
    simp only [Prod.mk.injEq] at h
    obtain ⟨rfl, h2⟩ := h
    by_cases h1 : 1 < c.toNat
    · rw [if_pos h1] at h2
      simp only [rFail, if_true, Prod.mk.injEq] at h2
      exact absurd h2.2 (by decide)
    · rw [if_neg h1] at h2
      simp only [Prod.mk.injEq] at h2
      obtain ⟨rfl, _⟩ := h2
      have hc : c = UInt8.ofNat c.toNat := UInt8.ofNat_toNat.symm
      by_cases h2 : c.toNat = 1
      · rw [if_pos (by simpa using h2), varint_small (by decide), hc, h2]; rfl
      · have h3 : c.toNat = 0 := by omega
        rw [if_neg (by simpa using h2), varint_small (by decide), hc, h3]; rfl
theorem rMany_canonB : ∀ (n : Nat) (b t : List UInt8) (l : List UInt8), rMany rNext n (b, 0) = (l, (t, 0)) → b = l ++ t ∧ l.length = n
  | 0, b, t, l, h => by
    simp only [rMany, Prod.mk.injEq] at h
    obtain ⟨rfl, rfl, _⟩ := h
    exact ⟨rfl, rfl⟩
  | n + 1, b, t, l, h => by
    rw [rMany, if_pos rfl] at h
    rcases b with _ | ⟨c, r⟩
    · have e : rNext (([] : List UInt8), 0) = (0, ([], 3)) := rfl
      rw [e] at h
      dsimp only at h
      rw [rMany_err (by decide)] at h
      simp only [Prod.mk.injEq] at h
      exact absurd h.2.2 (by decide)
    · have e : rNext (c :: r, 0) = (c, (r, 0)) := rfl
      rw [e] at h
      simp only [Prod.mk.injEq] at h
      obtain ⟨rfl, h2⟩ := h
      obtain ⟨h3, h4⟩ := rMany_canonB n r t (rMany rNext n (r, 0)).1 (by rw [← h2])
      refine ⟨?_, by simp [h4]⟩
      rw [List.cons_append, ← h3]
theorem rMany_canonI : ∀ (n : Nat) (b t : List UInt8) (l : List Int), rMany rI n (b, 0) = (l, (t, 0)) → b = encI l ++ t ∧ l.length = n ∧ ∀ x ∈ l, -9223372036854775808 ≤ x ∧ x ≤ 9223372036854775807
  | 0, b, t, l, h => by
    simp only [rMany, Prod.mk.injEq] at h
    obtain ⟨rfl, rfl, _⟩ := h
    exact ⟨rfl, rfl, fun x hx => by cases hx⟩
  | n + 1, b, t, l, h => by
    rw [rMany, if_pos rfl] at h
    obtain ⟨x, b', e', hx⟩ : ∃ x b' e', rI (b, 0) = (x, (b', e')) := ⟨_, _, _, rfl⟩
    rw [hx] at h
    dsimp only at h
    by_cases he : e' = 0
    · subst he
      simp only [Prod.mk.injEq] at h
      obtain ⟨rfl, h2⟩ := h
      obtain ⟨h3, h4, h5⟩ := rMany_canonI n b' t (rMany rI n (b', 0)).1 (by rw [← h2])
      obtain ⟨c1, c2⟩ := rI_canon hx
      refine ⟨?_, by simp [h4], fun y hy => ?_⟩
      · rw [c1]
        have : encI (x :: (rMany rI n (b', 0)).1) = varint (zig x) ++ encI (rMany rI n (b', 0)).1 := by simp [encI]
        rw [this, List.append_assoc, ← h3]
      · rcases List.mem_cons.1 hy with rfl | hy
        · exact c2
        · exact h5 y hy
    · rw [rMany_err he] at h
      simp only [Prod.mk.injEq] at h
      exact absurd h.2.2 he
theorem rList_canon {α : Type} {f : Rs → α × Rs} {b t : List UInt8} {l : List α} (h : rList f (b, 0) = (l, (t, 0))) : ∃ n b1, b = varint n ++ b1 ∧ n ≤ b1.length ∧ rMany f n (b1, 0) = (l, (t, 0)) := by
  rw [rList_eq] at h
  obtain ⟨n, b1, e1, hu⟩ : ∃ n b1 e1, rU (b, 0) = (n, (b1, e1)) := ⟨_, _, _, rfl⟩
  rw [hu] at h
  dsimp only at h
  by_cases he : e1 = 0
  · subst he
    by_cases hl : b1.length < n
    · rw [if_pos hl, rFail_3, rMany_err (by show (3 : Int) ≠ 0; decide)] at h
      simp only [Prod.mk.injEq] at h
      exact absurd h.2.2 (by decide)
    · rw [if_neg hl] at h
      simp only [Prod.mk.injEq] at h
      obtain ⟨h1, h2⟩ := h
      have h3 : (rMany f n (b1, 0)).2.2 = 0 := by rw [h2]
      rw [if_pos h3] at h1
      exact ⟨n, b1, rU_canon hu, by omega, by rw [← h1, ← h2]⟩
  · exfalso
    have h5 : (if b1.length < n then rFail (b1, e1) 3 else (b1, e1)) = (b1, e1) := by
      split
      · simp only [rFail, if_neg he]
      · rfl
    rw [h5, rMany_err he] at h
    simp only [Prod.mk.injEq] at h
    exact he h.2.2
end Go.Proofs.Ythbgmnoaaohbcaa
namespace Go.Proofs.Ythbgmnoaaohbcaa
open Go Go.RowKit
set_option linter.unusedVariables false
set_option linter.unusedSimpArgs false
theorem rEnd_0 {b : List UInt8} {e : Int} (h : rEnd (b, e) = 0) : b = [] ∧ e = 0 := by
  unfold rEnd at h
  dsimp only at h
  split at h
  · cases h
  · rename_i hn
    subst h
    refine ⟨?_, rfl⟩
    have : ¬ 0 < b.length := fun hh => hn ⟨rfl, hh⟩
    exact List.length_eq_zero_iff.1 (by omega)
theorem decP_err (b : List UInt8) : (decP b).1 = 0 ∨ (decP b).1 = 2 ∨ (decP b).1 = 15 := by
  unfold decP
  repeat' split
  all_goals first | exact .inl rfl | exact .inr (.inl rfl) | exact .inr (.inr rfl)
theorem decP_ok {b : List UInt8} (h : (decP b).1 = 0) : ∃ c : List UInt8, b = wholeP c := by
  obtain ⟨core, b1, e1, hr1⟩ : ∃ core b1 e1, rList rNext (b, 0) = (core, (b1, e1)) := ⟨_, _, _, rfl⟩
  obtain ⟨m, b2, e2, hr2⟩ : ∃ m b2 e2, rU (b1, e1) = (m, (b2, e2)) := ⟨_, _, _, rfl⟩
  unfold decP at h
  rw [hr1] at h
  dsimp only at h
  rw [hr2] at h
  dsimp only at h
  by_cases h1 : rEnd (b2, e2) = 0
  · obtain ⟨rfl, rfl⟩ := rEnd_0 h1
    rw [if_neg (fun hh => hh h1)] at h
    by_cases h2 : m = (bytesW lblP.data.toList core).toNat
    · have he1 : e1 = 0 := by
        by_cases hh : e1 = 0
        · exact hh
        · rw [rU_err hh] at hr2
          simp only [Prod.mk.injEq] at hr2
          exact absurd hr2.2.2 hh
      subst he1
      have hc := rU_canon hr2
      obtain ⟨n, b3, hb, hn, hm⟩ := rList_canon hr1
      obtain ⟨hm1, hm2⟩ := rMany_canonB _ _ _ _ hm
      refine ⟨core, ?_⟩
      unfold wholeP
      rw [hb, hm1, hm2, hc, h2, List.append_nil, List.append_assoc]
    · rw [if_pos h2] at h
      cases h
  · rw [if_pos h1] at h
    cases h
theorem detectW {c : List UInt8} {p : Nat} {y z : UInt8} (hcl : c.length ≤ 1000000) (hp : (varint c.length).length ≤ p) (hy : (wholeP c)[p]? = some y) (hz : z ≠ y) : (decP ((wholeP c).set p z)).1 ≠ 0 := by
  intro hok
  obtain ⟨c', ht⟩ := decP_ok hok
  have hs : ∀ w : List UInt8, (bytesW lblP.data.toList w).toNat < 18446744073709551616 := fun w => (bytesW lblP.data.toList w).toNat_lt
  have he : ∀ w : List UInt8, wholeP w = varint w.length ++ (w ++ varint (bytesW lblP.data.toList w).toNat) := fun w => by unfold wholeP; rw [List.append_assoc]
  have hc'l : c'.length ≤ 2000000 := by
    have h1 := congrArg List.length ht
    have h2 := vlen (hs c)
    have h3 := vlen (m := c.length) (by omega)
    rw [List.length_set, he c, he c'] at h1
    simp only [List.length_append] at h1
    omega
  rw [he c] at ht hy
  rw [he c', List.set_append_right _ _ hp] at ht
  obtain ⟨hlen, ht⟩ := varint_inj (by omega) (by omega) ht
  rw [List.getElem?_append_right hp] at hy
  obtain ⟨q, hq⟩ : ∃ q, p - (varint c.length).length = q := ⟨_, rfl⟩
  rw [hq] at ht hy
  by_cases hin : q < c.length
  · rw [List.set_append_left _ _ hin] at ht
    have hl2 : (c.set q z).length = c'.length := by rw [List.length_set]; exact hlen
    obtain ⟨h1, h2⟩ := List.append_inj ht hl2
    have h3 : varint (bytesW lblP.data.toList c).toNat ++ [] = varint (bytesW lblP.data.toList c').toNat ++ [] := by rw [h2]
    obtain ⟨h4, _⟩ := varint_inj (hs _) (hs _) h3
    have h5 := UInt64.toNat_inj.1 h4
    rw [← h1] at h5
    rw [List.getElem?_append_left hin] at hy
    have h6 := bytes_one (t := lblP.data.toList) (x := c.set q z) (y := c) (List.length_set) (q / 8) (fun i hi => by
      rw [List.getElem?_set_ne]
      intro e
      subst e
      exact hi rfl) (by rw [List.length_set]; omega) h5.symm
    exact set_ne hy hz h6
  · rw [List.set_append_right _ _ (by omega)] at ht
    rw [List.getElem?_append_right (by omega)] at hy
    obtain ⟨h1, h2⟩ := List.append_inj ht hlen
    rw [← h1] at h2
    exact set_ne hy hz h2
/-- x ^ (1 + by % 255) is another byte -/
theorem xor_turn {y b : UInt8} : ∃ z : UInt8, bits .xor .u8 (y.toNat : Int) (1 + (b.toNat : Int) % 255) = (z.toNat : Int) ∧ z ≠ y := by
  obtain ⟨d, hd⟩ : ∃ d : Int, 1 + (b.toNat : Int) % 255 = d := ⟨_, rfl⟩
  have hb := b.toNat_lt
  have h1 : 1 ≤ d := by omega
  have h2 : d ≤ 255 := by omega
  rw [hd]
  have hy : BitVec.ofInt 8 (y.toNat : Int) = y.toBitVec := by
    apply BitVec.eq_of_toNat_eq
    rw [BitVec.toNat_ofInt]
    have := y.toNat_lt
    have e : y.toBitVec.toNat = y.toNat := rfl
    rw [e]
    omega
  have hdn : (BitVec.ofInt 8 d).toNat = d.toNat := by
    rw [BitVec.toNat_ofInt]
    omega
  refine ⟨⟨y.toBitVec ^^^ BitVec.ofInt 8 d⟩, ?_, ?_⟩
  · have hz : ((y.toBitVec ^^^ BitVec.ofInt 8 d).toNat : Int) < 256 := by
      have := (y.toBitVec ^^^ BitVec.ofInt 8 d).isLt
      omega
    have e : bits .xor .u8 (y.toNat : Int) d = IntKind.u8.wrap ((BitVec.ofInt 8 (y.toNat : Int) ^^^ BitVec.ofInt 8 d).toNat : Int) := rfl
    rw [e, hy]
    exact wr_u8 (by omega) hz
  · intro h
    have h3 : y.toBitVec ^^^ BitVec.ofInt 8 d = y.toBitVec := congrArg UInt8.toBitVec h
    have h4 : BitVec.ofInt 8 d = 0#8 := by
      have := congrArg (y.toBitVec ^^^ ·) h3
      simpa [← BitVec.xor_assoc] using this
    rw [h4] at hdn
    have : (0#8).toNat = 0 := rfl
    omega
end Go.Proofs.Ythbgmnoaaohbcaa
namespace Go.Proofs.Ythbgmnoaaohbcaa
open Go Go.RowKit
set_option linter.unusedVariables false
set_option linter.unusedSimpArgs false
set_option maxRecDepth 20000
set_option synthInstance.maxSize 100000
set_option synthInstance.maxHeartbeats 400000
section
variable {W0 : World} {L : List HP}
theorem ChannelDetects_ct {vb : Value} {lb : List UInt8} {seq ack at_ : Int} {by_ : UInt8} (hb : rd eB vb lb ∈ L) (hbl : lb.length ≤ 9223372036854775807) (hs1 : -9223372036854775808 ≤ seq) (hs2 : seq ≤ 9223372036854775807) (ha1 : -9223372036854775808 ≤ ack) (ha2 : ack ≤ 9223372036854775807) (hn1 : -9223372036854775808 ≤ at_) (hn2 : at_ ≤ 9223372036854775807) :
    CT Try.prog 9 #[.int .i64 seq, .int .i64 ack, vb, .int .i64 at_, bv by_] W0 L fun r L' => r = .bool true ∧ L' = L := by
  refine CT_enter Try.func9 rfl ?_; (simp only [Try.ntmps9, List.size_toArray, List.length_cons, List.length_nil, Nat.reduceAdd, Nat.reduceSub, Array.replicate_succ, Array.replicate_zero, List.push_toArray, List.append_toArray, List.nil_append, List.cons_append])
  repeat' (first | refine go ?_ | intro _ | (apply cG; first | refine cT ?_ | refine cF ?_ | refine cS (fun _ => ?_) fun _ => ?_) | (apply gW; refine sW ?_) | (apply gI; refine sI ?_) | (apply gE; refine sE ?_) | (apply gP; refine sP ?_) | (apply gC; refine sC ?_) | (apply gD; refine sD ?_) | fail)
  refine O_d (dy_call ArgsI.pf (by first | exact rfl | trivial | (intro a b; rfl)) (Around_ct (most := 100000) hs1 hs2 (by omega) (by omega))) ?_; rintro _ _ ⟨_, ⟨rfl, hLL⟩, rfl⟩; replace hLL := hLL.symm; subst hLL; refine O_n ?_
  have hs3 := around_in (n := seq) (most := 100000) (by omega)
  have ha3 := around_in (n := ack) (most := 100000) (by omega)
  obtain ⟨s0, hs0⟩ : ∃ s0, around seq 100000 = s0 := ⟨_, rfl⟩
  obtain ⟨a, ha⟩ : ∃ a, around ack 100000 = a := ⟨_, rfl⟩
  rw [hs0] at hs3 ⊢
  rw [ha] at ha3
  repeat' (first | refine go ?_ | intro _ | (apply cG; first | refine cT ?_ | refine cF ?_ | refine cS (fun _ => ?_) fun _ => ?_) | (apply gW; refine sW ?_) | (apply gI; refine sI ?_) | (apply gE; refine sE ?_) | (apply gP; refine sP ?_) | (apply gC; refine sC ?_) | (apply gD; refine sD ?_) | fail)
  refine O_d (dy_call ArgsI.pf (by first | exact rfl | trivial | (intro a b; rfl)) (Around_ct (most := 100000) ha1 ha2 (by omega) (by omega))) ?_; rintro _ _ ⟨_, ⟨rfl, hLL⟩, rfl⟩; replace hLL := hLL.symm; subst hLL; refine O_n ?_
  rw [ha]
  obtain ⟨s, hs⟩ : ∃ s, 1 + s0 = s := ⟨_, rfl⟩
  rw [hs]
  repeat' (first | refine go ?_ | intro _ | (apply cG; first | refine cT ?_ | refine cF ?_ | refine cS (fun _ => ?_) fun _ => ?_) | (apply gW; refine sW ?_) | (apply gI; refine sI ?_) | (apply gE; refine sE ?_) | (apply gP; refine sP ?_) | (apply gC; refine sC ?_) | (apply gD; refine sD ?_) | fail)
  refine O_d (dy_call ArgsI.pf (by first | exact rfl | trivial | (intro a b; rfl)) (Few_ct hb hbl (most := 200) (by decide) (by decide))) ?_; rintro _ _ ⟨_, ⟨A1, c1, rfl, rfl⟩, rfl⟩; refine O_n ?_
  obtain ⟨o, ho⟩ : ∃ o, lb.take (Int.toNat 200) = o := ⟨_, rfl⟩
  have hol : o.length ≤ 200 := by rw [← ho]; exact List.length_take_le _ _
  rw [ho]
  refine O_frz 0 ?_
  repeat' (first | refine go ?_ | intro _ | (apply cG; first | refine cT ?_ | refine cF ?_ | refine cS (fun _ => ?_) fun _ => ?_) | (apply gW; refine sW ?_) | (apply gI; refine sI ?_) | (apply gE; refine sE ?_) | (apply gP; refine sP ?_) | (apply gC; refine sC ?_) | (apply gD; refine sD ?_) | fail)
  refine O_d (dy_call ArgsI.pf (by first | exact rfl | trivial | (intro a b; rfl)) (Encode_ct (s := s) (a := a) (b := o) Sc.pf (by omega) (by omega) (by omega) (by omega) (by omega) (by omega))) ?_; rintro _ _ ⟨_, ⟨A2, c2, rfl, rfl⟩, rfl⟩; refine O_n ?_
  have hz1 := vlen (m := zig s) (zig_lt (by omega) (by omega))
  have hz2 := vlen (m := zig a) (zig_lt (by omega) (by omega))
  have hz3 := vlen (m := o.length) (by omega)
  have hcl : (coreP s a o).length ≤ o.length + 30 := by unfold coreP; simp only [List.length_append]; omega
  rw [← wholeP_core]
  obtain ⟨c, hc⟩ : ∃ c, coreP s a o = c := ⟨_, rfl⟩
  rw [hc] at hcl ⊢
  obtain ⟨bw, hbw⟩ : ∃ bw, bytesW lblP.data.toList c = bw := ⟨_, rfl⟩
  have hsl : bw.toNat < 18446744073709551616 := bw.toNat_lt
  have hwl : (wholeP c).length = (varint c.length).length + (c.length + (varint bw.toNat).length) := by unfold wholeP; rw [hbw]; simp only [List.length_append]; omega
  have hsp := varint_pos bw.toNat
  have hv1 := vlen (m := c.length) (by omega)
  have hv2 := vlen hsl
  have hdet := fun p y z => detectW (c := c) (p := p) (y := y) (z := z) (by omega)
  have hread : rList rNext (wholeP c, 0) = (c, (varint bw.toNat, 0)) := by
    unfold wholeP
    rw [hbw]
    exact raw_pre (by omega)
  have hread2 : rU (varint bw.toNat, 0) = (bw.toNat, ([], 0)) := by
    have := rU_varint hsl []
    rwa [List.append_nil] at this
  obtain ⟨f, hf⟩ : ∃ f, wholeP c = f := ⟨_, rfl⟩
  rw [hf] at hwl hdet hread ⊢
  repeat' (first | refine go ?_ | intro _ | (apply cG; first | refine cT ?_ | refine cF ?_ | refine cS (fun _ => ?_) fun _ => ?_) | (apply gW; refine sW ?_) | (apply gI; refine sI ?_) | (apply gE; refine sE ?_) | (apply gP; refine sP ?_) | (apply gC; refine sC ?_) | (apply gD; refine sD ?_) | fail)
  refine O_d (dy_call ArgsI.pf (by first | exact rfl | trivial | (intro a b; rfl)) (Read_ct (l := f) Sc.pf (by omega))) ?_; rintro _ _ ⟨_, ⟨p1, rfl, rfl⟩, rfl⟩; refine O_n ?_
  repeat' (first | refine go ?_ | intro _ | (apply cG; first | refine cT ?_ | refine cF ?_ | refine cS (fun _ => ?_) fun _ => ?_) | (apply gW; refine sW ?_) | (apply gI; refine sI ?_) | (apply gE; refine sE ?_) | (apply gP; refine sP ?_) | (apply gC; refine sC ?_) | (apply gD; refine sD ?_) | fail)
  refine O_d (dy_call ArgsI.pf (by first | exact rfl | trivial | (intro a b; rfl)) (CT.pull (i := 0) (by rfl) (Raw_ct hread (by omega)))) ?_; rintro _ _ ⟨_, ⟨A3, c3, rfl, rfl⟩, rfl⟩; refine O_n ?_
  repeat' (first | refine go ?_ | intro _ | (apply cG; first | refine cT ?_ | refine cF ?_ | refine cS (fun _ => ?_) fun _ => ?_) | (apply gW; refine sW ?_) | (apply gI; refine sI ?_) | (apply gE; refine sE ?_) | (apply gP; refine sP ?_) | (apply gC; refine sC ?_) | (apply gD; refine sD ?_) | fail)
  refine O_d (dy_call ArgsI.pf (by first | exact rfl | trivial | (intro a b; rfl)) (CT.pull (i := 1) (by rfl) (Uint_ct hread2 (by omega)))) ?_; rintro _ _ ⟨_, ⟨rfl, rfl⟩, rfl⟩; refine O_n ?_
  repeat' (first | refine go ?_ | intro _ | (apply cG; first | refine cT ?_ | refine cF ?_ | refine cS (fun _ => ?_) fun _ => ?_) | (apply gW; refine sW ?_) | (apply gI; refine sI ?_) | (apply gE; refine sE ?_) | (apply gP; refine sP ?_) | (apply gC; refine sC ?_) | (apply gD; refine sD ?_) | fail)
  refine wr_newO ?_
  refine O_d (dy_call ArgsI.pf (by first | exact rfl | trivial | (intro a b; rfl)) (CT.pull (i := 0) (by rfl) (wUint_ct (m := c.length) (by omega) (by decide)))) ?_; rintro _ _ ⟨_, rfl, rfl⟩; refine O_n ?_
  rw [List.nil_append]
  repeat' (first | refine go ?_ | intro _ | (apply cG; first | refine cT ?_ | refine cF ?_ | refine cS (fun _ => ?_) fun _ => ?_) | (apply gW; refine sW ?_) | (apply gI; refine sI ?_) | (apply gE; refine sE ?_) | (apply gP; refine sP ?_) | (apply gC; refine sC ?_) | (apply gD; refine sD ?_) | fail)
  refine O_d (dy_call ArgsI.pf (by first | exact rfl | trivial | (intro a b; rfl)) (wDone_ct (by omega))) ?_; rintro _ _ ⟨_, ⟨A4, c4, rfl, rfl⟩, rfl⟩; refine O_n ?_
  repeat' (first | refine go ?_ | intro _ | (apply cG; first | refine cT ?_ | refine cF ?_ | refine cS (fun _ => ?_) fun _ => ?_) | (apply gW; refine sW ?_) | (apply gI; refine sI ?_) | (apply gE; refine sE ?_) | (apply gP; refine sP ?_) | (apply gC; refine sC ?_) | (apply gD; refine sD ?_) | fail)
  obtain ⟨V, hV⟩ : ∃ V, (varint c.length).length = V := ⟨_, rfl⟩
  rw [hV] at hdet hwl hv1
  refine O_d (dy_call ArgsI.pf (by first | exact rfl | trivial | (intro a b; rfl)) (CT.pull (i := 2) (by rfl) (End_ct (bs := []) (e := 0) (x := 0) rfl (by decide)))) ?_; rintro _ _ ⟨_, ⟨rfl, rfl⟩, rfl⟩; refine O_n ?_
  repeat' (first | refine go ?_ | intro _ | (apply cG; first | refine cT ?_ | refine cF ?_ | refine cS (fun _ => ?_) fun _ => ?_) | (apply gW; refine sW ?_) | (apply gI; refine sI ?_) | (apply gE; refine sE ?_) | (apply gP; refine sP ?_) | (apply gC; refine sC ?_) | (apply gD; refine sD ?_) | fail)
  refine O_d (dy_call ArgsI.pf (by first | exact rfl | trivial | (intro a b; rfl)) (hBytes_ct (s := lblP) (l := c) Sc.pf (by decide) (by omega) hbw)) ?_; rintro _ _ ⟨_, ⟨rfl, hLL⟩, rfl⟩; replace hLL := hLL.symm; subst hLL; refine O_n ?_
  rw [hV]
  repeat' (first | refine go ?_ | intro _ | (apply cG; first | refine cT ?_ | refine cF ?_ | refine cS (fun _ => ?_) fun _ => ?_) | (apply gW; refine sW ?_) | (apply gI; refine sI ?_) | (apply gE; refine sE ?_) | (apply gP; refine sP ?_) | (apply gC; refine sC ?_) | (apply gD; refine sD ?_) | fail)
  refine O_d (dy_call ArgsI.pf (by first | exact rfl | trivial | (intro a b; rfl)) (Around_ct (most := (f.length : Int) - (V : Int)) hn1 hn2 (by omega) (by omega))) ?_; rintro _ _ ⟨_, ⟨rfl, hLL⟩, rfl⟩; replace hLL := hLL.symm; subst hLL; refine O_n ?_
  obtain ⟨kk, hkk, hkl⟩ : ∃ kk : Nat, around at_ ((f.length : Int) - (V : Int)) = (kk : Int) ∧ kk < f.length - V := by
    have := around_in (n := at_) (most := (f.length : Int) - (V : Int)) (by omega)
    exact ⟨(around at_ ((f.length : Int) - (V : Int))).toNat, by omega, by omega⟩
  rw [hkk]
  obtain ⟨y, hy⟩ : ∃ y, f[V + kk]? = some y := ⟨_, List.getElem?_eq_getElem (by omega)⟩
  have hpi : ((V : Int) + (kk : Int)).toNat = V + kk := by omega
  have hay : At f (V + kk) y := ⟨hy⟩
  have hay2 : At f ((V : Int) + (kk : Int)).toNat y := by rw [hpi]; exact ⟨hy⟩
  obtain ⟨z, hz, hzy⟩ := xor_turn (y := y) (b := by_)
  have hno := hdet (V + kk) y z (by omega) hy hzy
  have hby := by_.toNat_lt
  repeat' (first | refine go ?_ | intro _ | (apply cG; first | refine cT ?_ | refine cF ?_ | refine cS (fun _ => ?_) fun _ => ?_) | (apply gW; refine sW ?_) | (apply gI; refine sI ?_) | (apply gE; refine sE ?_) | (apply gP; refine sP ?_) | (apply gC; refine sC ?_) | (apply gD; refine sD ?_) | fail)
  refine O_s (sv_xor (hr := hz)) ?_
  repeat' (first | refine go ?_ | intro _ | (apply cG; first | refine cT ?_ | refine cF ?_ | refine cS (fun _ => ?_) fun _ => ?_) | (apply gW; refine sW ?_) | (apply gI; refine sI ?_) | (apply gE; refine sE ?_) | (apply gP; refine sP ?_) | (apply gC; refine sC ?_) | (apply gD; refine sD ?_) | fail)
  refine O_d (dy_storeE (f := bv) (hf := fun _ => rfl) (j := V + kk) (n := f.length) (c := c2) z (hy := by rfl) (hj := by omega)) ?_; rintro _ _ ⟨rfl, rfl⟩; refine O_n ?_
  obtain ⟨turned, htd⟩ : ∃ turned, f.set (V + kk) z = turned := ⟨_, rfl⟩
  have htl : f.length = turned.length := by rw [← htd, List.length_set]
  rw [htd] at hno ⊢
  rw [htl]
  obtain ⟨e, s', a', x', hdec⟩ : ∃ e s' a' x', decP turned = (e, s', a', x') := ⟨_, _, _, _, rfl⟩
  have herr := decP_err turned
  rw [hdec] at herr hno
  dsimp only at herr hno
  refine O_frz 4 ?_
  repeat' (first | refine go ?_ | intro _ | (apply cG; first | refine cT ?_ | refine cF ?_ | refine cS (fun _ => ?_) fun _ => ?_) | (apply gW; refine sW ?_) | (apply gI; refine sI ?_) | (apply gE; refine sE ?_) | (apply gP; refine sP ?_) | (apply gC; refine sC ?_) | (apply gD; refine sD ?_) | fail)
  refine O_d (dy_call ArgsI.pf (by first | exact rfl | trivial | (intro a b; rfl)) (Decode_ct Sc.pf (by omega) hdec)) ?_; rintro _ _ ⟨_, ⟨A5, c5, rfl, rfl⟩, rfl⟩; refine O_n ?_
  rcases herr with h | h | h
  · exact absurd h hno
  · subst h
    repeat' (first | refine go ?_ | intro _ | (apply cG; first | refine cT ?_ | refine cF ?_ | refine cS (fun _ => ?_) fun _ => ?_) | (apply gW; refine sW ?_) | (apply gI; refine sI ?_) | (apply gE; refine sE ?_) | (apply gP; refine sP ?_) | (apply gC; refine sC ?_) | (apply gD; refine sD ?_) | fail)
    refine O_d (dy_call ArgsI.pf (by first | exact rfl | trivial | (intro a b; rfl)) (lives_ct)) ?_; rintro _ _ ⟨_, ⟨rfl, hLL⟩, rfl⟩; replace hLL := hLL.symm; subst hLL; refine O_n ?_
    repeat' (first | refine go ?_ | intro _ | (apply cG; first | refine cT ?_ | refine cF ?_ | refine cS (fun _ => ?_) fun _ => ?_) | (apply gW; refine sW ?_) | (apply gI; refine sI ?_) | (apply gE; refine sE ?_) | (apply gP; refine sP ?_) | (apply gC; refine sC ?_) | (apply gD; refine sD ?_) | fail)
    refine E_res1 (by rfl) (by rfl) ⟨rfl, rfl⟩ Sb
  · subst h
    repeat' (first | refine go ?_ | intro _ | (apply cG; first | refine cT ?_ | refine cF ?_ | refine cS (fun _ => ?_) fun _ => ?_) | (apply gW; refine sW ?_) | (apply gI; refine sI ?_) | (apply gE; refine sE ?_) | (apply gP; refine sP ?_) | (apply gC; refine sC ?_) | (apply gD; refine sD ?_) | fail)
    refine O_d (dy_call ArgsI.pf (by first | exact rfl | trivial | (intro a b; rfl)) (lives_ct)) ?_; rintro _ _ ⟨_, ⟨rfl, hLL⟩, rfl⟩; replace hLL := hLL.symm; subst hLL; refine O_n ?_
    repeat' (first | refine go ?_ | intro _ | (apply cG; first | refine cT ?_ | refine cF ?_ | refine cS (fun _ => ?_) fun _ => ?_) | (apply gW; refine sW ?_) | (apply gI; refine sI ?_) | (apply gE; refine sE ?_) | (apply gP; refine sP ?_) | (apply gC; refine sC ?_) | (apply gD; refine sD ?_) | fail)
    refine E_res1 (by rfl) (by rfl) ⟨rfl, rfl⟩ Sb
theorem ChannelDetects_any {vb : Value} {lb : List UInt8} {seq ack at_ : Int} {by_ : UInt8} {w : World} (s : St w w [rd eB vb lb]) (hbl : lb.length ≤ 9223372036854775807) (hs1 : -9223372036854775808 ≤ seq) (hs2 : seq ≤ 9223372036854775807) (ha1 : -9223372036854775808 ≤ ack) (ha2 : ack ≤ 9223372036854775807) (hn1 : -9223372036854775808 ≤ at_) (hn2 : at_ ≤ 9223372036854775807) :
    Calls Try.prog 9 #[.int .i64 seq, .int .i64 ack, vb, .int .i64 at_, bv by_] w fun e w' => e = .returned (.bool true) ∧ Below w.heap.size w w' :=
  ((ChannelDetects_ct (W0 := w) (.head _) hbl hs1 hs2 ha1 ha2 hn1 hn2).run w s).mono fun e w' h => by
    obtain ⟨v, L', rfl, ⟨rfl, rfl⟩, s⟩ := h
    exact ⟨rfl, s.below⟩
end
end Go.Proofs.Ythbgmnoaaohbcaa
