/-
  Plain: what changes a hash. No program.
-/
import Derived.Test.YtikdelkcpapgdaaMJ
import Derived.Test.YtikdelkcpapgdaaMY
import Derived.Test.YtikdelkcpapgdaaMZA
namespace Go.Proofs.Ytikdelkcpapgdaa
open Go Go.RowKit
set_option linter.unusedVariables false
set_option linter.unusedSimpArgs false
def fold32 (y : UInt64) : UInt64 := y ^^^ (y >>> 32)
theorem fold32_twice (y : UInt64) : fold32 (fold32 y) = y := by
  apply UInt64.eq_of_toBitVec_eq
  simp only [fold32, UInt64.toBitVec_xor, UInt64.toBitVec_shiftRight]
  have e : ((32 : UInt64).toBitVec % 64) = (32 : BitVec 64) := by decide
  rw [e]
  apply BitVec.eq_of_getLsbD_eq
  intro i hi
  have e2 : (32 : BitVec 64).toNat = 32 := by decide
  simp only [BitVec.getLsbD_xor, BitVec.ushiftRight_eq', e2, BitVec.getLsbD_ushiftRight]
  have e3 : y.toBitVec.getLsbD (32 + (32 + i)) = false := BitVec.getLsbD_of_ge _ _ (by omega)
  rw [e3]
  cases y.toBitVec.getLsbD i <;> cases y.toBitVec.getLsbD (32 + i) <;> rfl
theorem mul_inj {x y : UInt64} (h : x * hC = y * hC) : x = y := by
  have hi : hC * 17428512612931826493 = 1 := by decide
  have h2 : (x * hC) * 17428512612931826493 = (y * hC) * 17428512612931826493 := by rw [h]
  rw [UInt64.mul_assoc, UInt64.mul_assoc, hi, UInt64.mul_one, UInt64.mul_one] at h2
  exact h2
theorem mix_fold (s w : UInt64) : mix s w = fold32 ((s ^^^ w) * hC) := rfl
theorem mix_x {a b : UInt64} {s w s' w' : UInt64} (h : mix s w = mix s' w') : s ^^^ w = s' ^^^ w' := by
  rw [mix_fold, mix_fold] at h
  have h2 := congrArg fold32 h
  rw [fold32_twice, fold32_twice] at h2
  exact mul_inj h2
theorem xor_l {s s' w : UInt64} (h : s ^^^ w = s' ^^^ w) : s = s' := by
  have h2 := congrArg (· ^^^ w) h
  simp only [UInt64.xor_assoc, UInt64.xor_self, UInt64.xor_zero] at h2
  exact h2
theorem mix_l {s s' w : UInt64} (h : mix s w = mix s' w) : s = s' := xor_l (mix_x (a := 0) (b := 0) h)
theorem mix_r {s w w' : UInt64} (h : mix s w = mix s w') : w = w' := by
  have := mix_x (a := 0) (b := 0) h
  rw [UInt64.xor_comm s w, UInt64.xor_comm s w'] at this
  exact xor_l this
theorem fold_inj {α : Type} {f : UInt64 → α → UInt64} (hf : ∀ s s' x, f s x = f s' x → s = s') : ∀ (l : List α) {s s' : UInt64}, l.foldl f s = l.foldl f s' → s = s'
  | [], _, _, h => h
  | x :: l, _, _, h => hf _ _ x (fold_inj hf l h)
theorem mixI_l {s s' : UInt64} {n : Int} (h : mixI s n = mixI s' n) : s = s' := mix_l h
theorem ofInt_toI (x : UInt64) : UInt64.ofInt (toI x) = x := by
  have h := u64_lt x
  apply UInt64.toNat_inj.1
  have h2 := ofIntI (toI x)
  have h3 : IntKind.u64.wrap (toI x) = (x.toNat : Int) := by
    rw [IntKind.wrap_u64]
    unfold toI wrap64
    omega
  omega
theorem mixI_toI (s x : UInt64) : mixI s (toI x) = mix s x := by unfold mixI; rw [ofInt_toI]
/-- the start of a sum -/
def start (label : List UInt8) (n : Nat) : UInt64 := mix (mix ((wordsOf label).foldl mix 0) (UInt64.ofNat label.length)) (UInt64.ofNat n)
theorem sumW_eq (label : List UInt8) (l : List Int) : sumW label l = mix (l.foldl mixI (start label l.length)) 0 := rfl
theorem pair_l {a b c : UInt64} (h : pairW a c = pairW b c) : a = b := by
  unfold pairW at h
  rw [sumW_eq, sumW_eq] at h
  have h2 := mixI_l (mix_l h)
  simp only [List.foldl_cons, List.foldl_nil, List.length_cons, List.length_nil] at h2
  rw [mixI_toI, mixI_toI] at h2
  exact mix_r h2
theorem pair_r {a b c : UInt64} (h : pairW c a = pairW c b) : a = b := by
  unfold pairW at h
  rw [sumW_eq, sumW_eq] at h
  have h2 := mix_l h
  simp only [List.foldl_cons, List.foldl_nil, List.length_cons, List.length_nil] at h2
  rw [mixI_toI, mixI_toI, mixI_toI] at h2
  exact mix_r h2
theorem wf_u64 {n : Int} (h : (Lit.int .u64 n).wf = true) : ∃ x : UInt64, n = (x.toNat : Int) := by
  refine ⟨UInt64.ofNat n.toNat, ?_⟩
  simp [Lit.wf, IntKind.min, IntKind.max, IntKind.signed, IntKind.bits] at h
  simp
  omega
theorem wf_i64 {n : Int} (h : (Lit.int .i64 n).wf = true) : -9223372036854775808 ≤ n ∧ n ≤ 9223372036854775807 := by
  simpa [Lit.wf, IntKind.min, IntKind.max, IntKind.signed, IntKind.bits] using h
theorem wf_u8 {n : Int} (h : (Lit.int .u8 n).wf = true) : ∃ x : UInt8, n = (x.toNat : Int) := by
  refine ⟨UInt8.ofNat n.toNat, ?_⟩
  simp [Lit.wf, IntKind.min, IntKind.max, IntKind.signed, IntKind.bits] at h
  simp
  omega
theorem beq_f {x y : UInt64} (h : x ≠ y) : ((x.toNat : Int) == (y.toNat : Int)) = false := by
  simp only [beq_eq_false_iff_ne, ne_eq]
  intro e
  exact h (UInt64.toNat_inj.1 (by omega))
theorem leW_zero : ∀ d : List UInt8, leW (d ++ [0]) = leW d
  | [] => by decide
  | b :: r => by
    have ih := leW_zero r
    simp only [List.cons_append, leW, ih]
theorem words_zero {c : List UInt8} (h : c.length % 8 ≠ 0) : wordsOf (c ++ [0]) = wordsOf c := by
  unfold wordsOf
  have e : ((c ++ [0]).length + 7) / 8 = (c.length + 7) / 8 := by simp; omega
  rw [e]
  refine List.map_congr_left fun j hj => ?_
  rw [List.mem_range] at hj
  have h8 : 8 * j ≤ c.length := by omega
  unfold wordAt
  rw [List.drop_append_of_le_length h8]
  by_cases hd : 8 ≤ (c.drop (8 * j)).length
  · rw [List.take_append_of_le_length hd]
  · rw [List.take_of_length_le (by simp at hd ⊢; omega), List.take_of_length_le (by omega), leW_zero]
theorem ofInt_ne {a b : Nat} (ha : a < 1000000) (hb : b < 1000000) (h : UInt64.ofInt (a : Int) = UInt64.ofInt (b : Int)) : a = b := by
  have h1 := ofIntI (a : Int)
  have h2 := ofIntI (b : Int)
  rw [IntKind.wrap_u64] at h1 h2
  rw [h] at h1
  omega
theorem bytes_zero {t c : List UInt8} (h : c.length % 8 ≠ 0) (hl : c.length ≤ 1000) : bytesW t (c ++ [0]) ≠ bytesW t c := by
  intro e
  unfold bytesW at e
  rw [words_zero h, sumW_eq, sumW_eq] at e
  have e2 := mix_l e
  rw [List.foldl_append, List.foldl_append] at e2
  simp only [List.length_append, List.length_cons, List.length_nil, List.foldl_cons, List.foldl_nil] at e2
  have e3 := ofInt_ne (by omega) (by omega) (mix_r (by simpa [mixI] using e2) : UInt64.ofInt ((c.length + 1 : Nat) : Int) = UInt64.ofInt (c.length : Int))
  omega
end Go.Proofs.Ytikdelkcpapgdaa
namespace Go.Proofs.Ytikdelkcpapgdaa
open Go Go.RowKit
set_option linter.unusedVariables false
set_option linter.unusedSimpArgs false
theorem fold_one {α : Type} {f : UInt64 → α → UInt64} (hf : ∀ s s' x, f s x = f s' x → s = s') : ∀ (l l' : List α) (g : Nat) (s : UInt64), l.length = l'.length →
    (∀ s x x', x ∈ l → x' ∈ l' → f s x = f s x' → x = x') → (∀ i, i ≠ g → l[i]? = l'[i]?) → l.foldl f s = l'.foldl f s → l = l'
  | [], [], _, _, _, _, _, _ => rfl
  | [], _ :: _, _, _, h, _, _, _ => by simp at h
  | _ :: _, [], _, _, h, _, _, _ => by simp at h
  | x :: l, x' :: l', 0, s, h, hr, ha, he => by
    have ht : l = l' := List.ext_getElem? fun i => by simpa using ha (i + 1) (by omega)
    subst ht
    have := hr s x x' List.mem_cons_self List.mem_cons_self (fold_inj hf l he)
    rw [this]
  | x :: l, x' :: l', g + 1, s, h, hr, ha, he => by
    have hx : x = x' := by simpa using ha 0 (by omega)
    subst hx
    have ht := fold_one hf l l' g (f s x) (by simpa using h) (fun s a b ha hb => hr s a b (List.mem_cons_of_mem _ ha) (List.mem_cons_of_mem _ hb)) (fun i hi => by simpa using ha (i + 1) (by omega)) he
    rw [ht]
theorem ofInt_inj {a b : Int} (ha : -9223372036854775808 ≤ a ∧ a ≤ 9223372036854775807) (hb : -9223372036854775808 ≤ b ∧ b ≤ 9223372036854775807) (h : UInt64.ofInt a = UInt64.ofInt b) : a = b := by
  have h1 := ofIntI a
  have h2 := ofIntI b
  rw [IntKind.wrap_u64] at h1 h2
  rw [h] at h1
  omega
theorem toI_rng (x : UInt64) : -9223372036854775808 ≤ toI x ∧ toI x ≤ 9223372036854775807 := by unfold toI wrap64; omega
theorem toI_inj {x y : UInt64} (h : toI x = toI y) : x = y := by rw [← ofInt_toI x, ← ofInt_toI y, h]
theorem leW_cons {b : UInt8} {r : List UInt8} (h : r.length ≤ 7) : (leW (b :: r)).toNat = 256 * (leW r).toNat + b.toNat := by
  have h2 := (leW_lt (l := r) (by omega)).1
  have hb := b.toNat_lt
  have hp2 : 256 ^ r.length ≤ 256 ^ 7 := Nat.pow_le_pow_right (by decide) (by omega)
  have e : (256 : Nat) ^ 7 = 72057594037927936 := by decide
  rw [e] at hp2
  simp only [leW, UInt64.toNat_add, UInt64.toNat_mul, UInt8.toNat_toUInt64]
  have e2 : (256 : UInt64).toNat = 256 := rfl
  rw [e2]
  omega
theorem leW_inj : ∀ {a b : List UInt8}, a.length = b.length → a.length ≤ 8 → leW a = leW b → a = b
  | [], [], _, _, _ => rfl
  | [], _ :: _, h, _, _ => by simp at h
  | _ :: _, [], h, _, _ => by simp at h
  | x :: a, y :: b, h, h8, e => by
    simp at h h8
    have e1 := leW_cons (b := x) (r := a) (by omega)
    have e2 := leW_cons (b := y) (r := b) (by omega)
    rw [e, e2] at e1
    have hx := x.toNat_lt
    have hy := y.toNat_lt
    have hxy : x = y := UInt8.toNat_inj.1 (by omega)
    have hl : leW a = leW b := UInt64.toNat_inj.1 (by omega)
    rw [hxy, leW_inj (a := a) (b := b) (by omega) (by omega) hl]
theorem word_get {x : List UInt8} {j i : Nat} : ((x.drop (8 * j)).take 8)[i]? = if i < 8 then x[8 * j + i]? else none := by
  rw [List.getElem?_take, List.getElem?_drop]
theorem word_ext {x y : List UInt8} {j : Nat} (h : ∀ i, i / 8 = j → x[i]? = y[i]?) : wordAt x j = wordAt y j := by
  unfold wordAt
  congr 1
  refine List.ext_getElem? fun i => ?_
  rw [word_get, word_get]
  split
  · exact h _ (by omega)
  · rfl
theorem words_get {x : List UInt8} {j : Nat} : (wordsOf x)[j]? = if j < (x.length + 7) / 8 then some (wordAt x j) else none := by
  unfold wordsOf
  by_cases h : j < (x.length + 7) / 8
  · rw [if_pos h, List.getElem?_map, List.getElem?_range h]; rfl
  · rw [if_neg h, List.getElem?_eq_none (by simp; omega)]
theorem words_inj {x y : List UInt8} (hl : x.length = y.length) (h : wordsOf x = wordsOf y) : x = y := by
  refine List.ext_getElem? fun i => ?_
  by_cases hi : i < x.length
  · have h1 := words_get (x := x) (j := i / 8)
    have h2 := words_get (x := y) (j := i / 8)
    rw [if_pos (by omega)] at h1 h2
    rw [h, h2] at h1
    have h3 := Option.some.inj h1
    unfold wordAt at h3
    have h4 := leW_inj (a := (y.drop (8 * (i / 8))).take 8) (b := (x.drop (8 * (i / 8))).take 8) (by simp [hl]) (by simp; omega) h3
    have h5 := congrArg (·[i % 8]?) h4
    simp only [word_get] at h5
    rw [if_pos (by omega), if_pos (by omega)] at h5
    have e : 8 * (i / 8) + i % 8 = i := by omega
    rw [e] at h5
    exact h5.symm
  · rw [List.getElem?_eq_none (by omega), List.getElem?_eq_none (by omega)]
theorem sum_one {t : List UInt8} {l l' : List Int} (hl : l.length = l'.length) (g : Nat) (h : ∀ i, i ≠ g → l[i]? = l'[i]?) (hb : ∀ n ∈ l, -9223372036854775808 ≤ n ∧ n ≤ 9223372036854775807) (hb' : ∀ n ∈ l', -9223372036854775808 ≤ n ∧ n ≤ 9223372036854775807)
    (e : sumW t l = sumW t l') : l = l' := by
  rw [sumW_eq, sumW_eq, hl] at e
  exact fold_one (f := mixI) (fun s s' x h => mixI_l h) l l' g _ hl (fun s x x' hx hx' he => ofInt_inj (hb x hx) (hb' x' hx') (mix_r (s := s) (w := UInt64.ofInt x) (w' := UInt64.ofInt x') he)) h (mix_l e)
theorem bytes_one {t x y : List UInt8} (hl : x.length = y.length) (g : Nat) (h : ∀ i, i / 8 ≠ g → x[i]? = y[i]?) (hs : x.length ≤ 1000000) (e : bytesW t x = bytesW t y) : x = y := by
  have hwl : (wordsOf x).length = (wordsOf y).length := by simp [wordsOf, hl]
  have rng : ∀ {z : List UInt8} {n : Int}, z.length ≤ 1000000 → n ∈ (wordsOf z).map toI ++ [(z.length : Int)] → -9223372036854775808 ≤ n ∧ n ≤ 9223372036854775807 := by
    intro z n hz hn
    rw [List.mem_append] at hn
    rcases hn with hn | hn
    · obtain ⟨u, _, rfl⟩ := List.mem_map.1 hn
      exact toI_rng u
    · simp at hn
      omega
  have h2 := sum_one (l := (wordsOf x).map toI ++ [(x.length : Int)]) (l' := (wordsOf y).map toI ++ [(y.length : Int)]) (by simp [hwl]) g (fun i hi => ?_) (fun n hn => rng hs hn) (fun n hn => rng (by omega) hn) e
  · have h3 := List.append_inj_left h2 (by simp [hwl])
    refine words_inj hl ?_
    have h4 := congrArg (List.map UInt64.ofInt) h3
    simp only [List.map_map] at h4
    have e2 : (UInt64.ofInt ∘ toI) = id := funext fun u => ofInt_toI u
    rw [e2, List.map_id, List.map_id] at h4
    exact h4
  · by_cases hi2 : i < (wordsOf x).length
    · rw [List.getElem?_append_left (by simpa using hi2), List.getElem?_append_left (by simpa using hwl ▸ hi2), List.getElem?_map, List.getElem?_map, words_get, words_get, hl]
      rw [word_ext (x := x) (y := y) (j := i) (fun k hk => h k (by omega))]
    · rw [List.getElem?_append_right (by simpa using hi2), List.getElem?_append_right (by simp; omega), hl]
      simp [hwl]
theorem label_one {a b : List UInt8} {l : List Int} (hl : a.length = b.length) (g : Nat) (h : ∀ i, i / 8 ≠ g → a[i]? = b[i]?) (e : sumW a l = sumW b l) : a = b := by
  rw [sumW_eq, sumW_eq] at e
  have e2 := fold_inj (f := mixI) (fun s s' x h => mixI_l h) l (mix_l e)
  unfold start at e2
  rw [hl] at e2
  have e3 := mix_l (mix_l e2)
  have hwl : (wordsOf a).length = (wordsOf b).length := by simp [wordsOf, hl]
  refine words_inj hl (fold_one (f := mix) (fun s s' x h => mix_l h) (wordsOf a) (wordsOf b) g 0 hwl (fun s x x' _ _ he => mix_r he) (fun i hi => ?_) e3)
  rw [words_get, words_get, hl, word_ext (x := a) (y := b) (j := i) (fun k hk => h k (by omega))]
end Go.Proofs.Ytikdelkcpapgdaa
namespace Go.Proofs.Ytikdelkcpapgdaa
open Go Go.RowKit
set_option linter.unusedVariables false
set_option linter.unusedSimpArgs false
set_option maxRecDepth 20000
set_option synthInstance.maxSize 100000
set_option synthInstance.maxHeartbeats 400000
/-- a crash that turns a bit turns a byte -/
theorem turnB_one {z : Int} {D m : Nat} {b : List UInt8} (hz : 0 ≤ z) (hm : 0 < m) (hl : b.length = D + m) : ∃ p y x, D ≤ p ∧ p < b.length ∧ b[p]? = some y ∧ x ≠ y ∧ turnB z D m b = b.set p x := by
  have h1 := Int.emod_nonneg z (b := ((8 * m : Nat) : Int)) (by omega)
  have h2 := Int.emod_lt_of_pos z (b := ((8 * m : Nat) : Int)) (by omega)
  obtain ⟨k, hk⟩ : ∃ k : Nat, (z % ((8 * m : Nat) : Int)).toNat = k := ⟨_, rfl⟩
  have hk8 : k < 8 * m := by omega
  have hp : D + k / 8 < b.length := by omega
  obtain ⟨y, hy⟩ : ∃ y, b[D + k / 8]? = some y := ⟨_, List.getElem?_eq_getElem hp⟩
  refine ⟨D + k / 8, y, fl8 y (7 - k % 8), by omega, hp, hy, (fl8_eq (by omega)).2, ?_⟩
  unfold turnB
  rw [if_pos ⟨hz, hm⟩, hk, List.getD_eq_getElem?_getD, hy]
  rfl
theorem hash_turn {t : List UInt8} {z : Int} {b : List UInt8} (hz : 0 ≤ z) (h0 : 0 < b.length) (h8 : b.length ≤ 8) : bytesW t (turnB z 0 b.length b) ≠ bytesW t b := by
  obtain ⟨p, y, x, _, hp, hy, hxy, e⟩ := turnB_one (D := 0) (m := b.length) (b := b) hz h0 (by omega)
  rw [e]
  intro hb
  have := bytes_one (t := t) (x := b.set p x) (y := b) (by rw [List.length_set]) 0 (fun i hi => List.getElem?_set_ne (fun h => by subst h; omega)) (by rw [List.length_set]; omega) hb
  have h2 : (b.set p x)[p]? = some x := by rw [List.getElem?_set_self hp]
  rw [this, hy] at h2
  injection h2 with h2
  exact hxy h2.symm
theorem keepN_all {b : List UInt8} (h : b.length ≤ 8) : keepN [8] 0 b.length 0 = b.length := by
  unfold keepN
  show (max 0 (min 8 ((b.length : Int) - ((0 : Nat) : Int)))).toNat = b.length
  omega
theorem crB_all {z : Int} {b : List UInt8} (h : b.length ≤ 8) : crB [8] z 0 b = turnB z 0 b.length b := by
  unfold crB
  rw [keepN_all h, Nat.zero_add, List.take_length]
theorem crB_done (kp : List Int) (z : Int) (b : List UInt8) : crB kp z b.length b = b := by
  have h := keepN_le kp 0 b.length b.length (Nat.le_refl _)
  have h0 : keepN kp 0 b.length b.length = 0 := by omega
  unfold crB
  rw [h0, Nat.add_zero, List.take_length]
  unfold turnB
  rw [if_neg (fun h => by omega)]
def lblD : ByteArray := ⟨#[102]⟩
section
variable {W0 : World} {L : List HP}
set_option maxHeartbeats 2000000 in
theorem DiskHash_ct {flip : Int} {synced : Bool} {v : Value} {b : List UInt8} (hz1 : -9223372036854775808 ≤ flip) (hz2 : flip ≤ 9223372036854775807) (hb : rd eB v b ∈ L) (hbl : b.length ≤ 9223372036854775807) :
    CT Try.prog 9 #[v, .int .i64 flip, .bool synced] W0 L fun r L' => r = .bool true ∧ L' = L := by
  refine CT_enter Try.func9 rfl ?_; (simp only [Try.ntmps9, List.size_toArray, List.length_cons, List.length_nil, Nat.reduceAdd, Nat.reduceSub, Array.replicate_succ, Array.replicate_zero, List.push_toArray, List.append_toArray, List.nil_append, List.cons_append])
  repeat' (first | refine go ?_ | intro _ | (apply cG; first | refine cT ?_ | refine cF ?_ | refine cS (fun _ => ?_) fun _ => ?_) | (apply gW; refine sW ?_) | (apply gI; refine sI ?_) | (apply gE; refine sE ?_) | (apply gP; refine sP ?_) | (apply gC; refine sC ?_) | (apply gD; refine sD ?_) | fail)
  refine O_d (dy_call ArgsI.pf (by first | exact rfl | trivial | (intro a b; rfl)) (dNew_ct (room := 100) (by decide) (by decide))) ?_; rintro _ _ ⟨_, ⟨p, rfl, rfl⟩, rfl⟩; refine O_n ?_
  have hj0 : J1 ⟨[], 100, false, false, 0⟩ 0 100 [] 0 := J1.begun (by decide) (by decide) 0
  have hfk : (0 : Int) ≤ 0 ∧ (0 : Int) < 64 := by decide
  repeat' (first | refine go ?_ | intro _ | (apply cG; first | refine cT ?_ | refine cF ?_ | refine cS (fun _ => ?_) fun _ => ?_) | (apply gW; refine sW ?_) | (apply gI; refine sI ?_) | (apply gE; refine sE ?_) | (apply gP; refine sP ?_) | (apply gC; refine sC ?_) | (apply gD; refine sD ?_) | fail)
  refine O_d (dy_call ArgsI.pf (by first | exact rfl | trivial | (intro a b; rfl)) (Few_ct (.tail _ hb) hbl (most := 7) (by decide) (by decide))) ?_; rintro _ _ ⟨_, ⟨A5, c5, rfl, rfl⟩, rfl⟩; refine O_n ?_
  obtain ⟨fb, hfb⟩ : ∃ fb, b.take (Int.toNat 7) = fb := ⟨_, rfl⟩
  have hfbl : fb.length ≤ 7 := by rw [← hfb]; exact List.length_take_le _ _
  rw [hfb]
  repeat' (first | refine go ?_ | intro _ | (apply cG; first | refine cT ?_ | refine cF ?_ | refine cS (fun _ => ?_) fun _ => ?_) | (apply gW; refine sW ?_) | (apply gI; refine sI ?_) | (apply gE; refine sE ?_) | (apply gP; refine sP ?_) | (apply gC; refine sC ?_) | (apply gD; refine sD ?_) | fail)
  refine O_d (dy_lit1 (R := eB) (1 : UInt8) (hcs := by rfl) (hel := fun _ _ _ => by rfl)) ?_; rintro _ _ ⟨_, rfl, rfl⟩; refine O_n ?_
  refine O_d dy_append ?_; rintro _ _ ⟨A7, c7, rfl, rfl⟩; refine O_n ?_
  obtain ⟨ob, hob⟩ : ∃ ob, fb ++ [1] = ob := ⟨_, rfl⟩
  have hobl : ob.length = fb.length + 1 := by rw [← hob, List.length_append]; rfl
  rw [hob, ← hobl]
  refine O_frz 1 ?_
  repeat' (first | refine go ?_ | intro _ | (apply cG; first | refine cT ?_ | refine cF ?_ | refine cS (fun _ => ?_) fun _ => ?_) | (apply gW; refine sW ?_) | (apply gI; refine sI ?_) | (apply gE; refine sE ?_) | (apply gP; refine sP ?_) | (apply gC; refine sC ?_) | (apply gD; refine sD ?_) | fail)
  refine O_d (dy_call ArgsI.pf (by first | exact rfl | trivial | (intro a b; rfl)) (CT.pull (i := 2) (by rfl) (Append_na hj0 hfk (b := ob) (.inl (.tail _ (.head _))) (by simp only [List.length_nil]; omega) (by omega) (by decide) (by decide)))) ?_; rintro _ _ ⟨_, ⟨f1, hj1, rfl, rfl⟩, rfl⟩; refine O_n ?_
  rw [List.nil_append] at hj1
  obtain ⟨z1, hz3⟩ : ∃ z1, bytesW lblD.data.toList ob = z1 := ⟨_, rfl⟩
  cases synced
  · repeat' (first | refine go ?_ | intro _ | (apply cG; first | refine cT ?_ | refine cF ?_ | refine cS (fun _ => ?_) fun _ => ?_) | (apply gW; refine sW ?_) | (apply gI; refine sI ?_) | (apply gE; refine sE ?_) | (apply gP; refine sP ?_) | (apply gC; refine sC ?_) | (apply gD; refine sD ?_) | fail)
    refine O_d (dy_litP (f := iv) (hf := fun _ => rfl) [8] (by rfl)) ?_; rintro _ LI' ⟨_, rfl, hLL⟩; replace hLL : LI' = own _ eI _ _ :: _ := hLL; subst hLL; refine O_n ?_
    refine O_frz 0 ?_
    repeat' (first | refine go ?_ | intro _ | (apply cG; first | refine cT ?_ | refine cF ?_ | refine cS (fun _ => ?_) fun _ => ?_) | (apply gW; refine sW ?_) | (apply gI; refine sI ?_) | (apply gE; refine sE ?_) | (apply gP; refine sP ?_) | (apply gC; refine sC ?_) | (apply gD; refine sD ?_) | fail)
    refine O_front 1 rfl EAt.pf ?_
    refine O_d (dy_call ArgsI.pf (by first | exact rfl | trivial | (intro a b; rfl)) (Crash_na (kp := [8]) (z := flip) hj1 (.head _) (by show 1 ≤ 1000000000; decide) (by decide) hz1 hz2)) ?_; rintro _ _ ⟨_, ⟨f2, hj2, rfl, rfl⟩, rfl⟩; refine O_n ?_
    rw [crB_all (by omega)] at hj2
    by_cases hf0 : flip < 0
    · have ht : turnB flip 0 ob.length ob = ob := by unfold turnB; rw [if_neg (fun h => by omega)]
      rw [ht] at hj2
      repeat' (first | refine go ?_ | intro _ | (apply cG; first | refine cT ?_ | refine cF ?_ | refine cS (fun _ => ?_) fun _ => ?_) | (apply gW; refine sW ?_) | (apply gI; refine sI ?_) | (apply gE; refine sE ?_) | (apply gP; refine sP ?_) | (apply gC; refine sC ?_) | (apply gD; refine sD ?_) | fail)
      refine O_d (dy_call ArgsI.pf (by first | exact rfl | trivial | (intro a b; rfl)) (CT.pull (i := 0) (by rfl) (Read_j hj2 hfk))) ?_; rintro _ _ ⟨_, ⟨A9, c9, rfl, rfl⟩, rfl⟩; refine O_n ?_
      repeat' (first | refine go ?_ | intro _ | (apply cG; first | refine cT ?_ | refine cF ?_ | refine cS (fun _ => ?_) fun _ => ?_) | (apply gW; refine sW ?_) | (apply gI; refine sI ?_) | (apply gE; refine sE ?_) | (apply gP; refine sP ?_) | (apply gC; refine sC ?_) | (apply gD; refine sD ?_) | fail)
      refine O_d (dy_call ArgsI.pf (by first | exact rfl | trivial | (intro a b; rfl)) (hBytes_ct (s := lblD) (l := ob) (.inr ⟨_, .head _⟩) (by decide) (by omega) hz3)) ?_; rintro _ _ ⟨_, ⟨rfl, hLL⟩, rfl⟩; replace hLL := hLL.symm; subst hLL; refine O_n ?_
      repeat' (first | refine go ?_ | intro _ | (apply cG; first | refine cT ?_ | refine cF ?_ | refine cS (fun _ => ?_) fun _ => ?_) | (apply gW; refine sW ?_) | (apply gI; refine sI ?_) | (apply gE; refine sE ?_) | (apply gP; refine sP ?_) | (apply gC; refine sC ?_) | (apply gD; refine sD ?_) | fail)
      refine O_d (dy_call ArgsI.pf (by first | exact rfl | trivial | (intro a b; rfl)) (hBytes_ct (s := lblD) (l := ob) (.inl (by repeat (first | exact .head _ | refine .tail _ ?_))) (by decide) (by omega) hz3)) ?_; rintro _ _ ⟨_, ⟨rfl, hLL⟩, rfl⟩; replace hLL := hLL.symm; subst hLL; refine O_n ?_
      repeat' (first | refine go ?_ | intro _ | (apply cG; first | refine cT ?_ | refine cF ?_ | refine cS (fun _ => ?_) fun _ => ?_) | (apply gW; refine sW ?_) | (apply gI; refine sI ?_) | (apply gE; refine sE ?_) | (apply gP; refine sP ?_) | (apply gC; refine sC ?_) | (apply gD; refine sD ?_) | fail)
      refine O_d (dy_call ArgsI.pf (by first | exact rfl | trivial | (intro a b; rfl)) (lives_ct)) ?_; rintro _ _ ⟨_, ⟨rfl, hLL⟩, rfl⟩; replace hLL := hLL.symm; subst hLL; refine O_n ?_
      repeat' (first | refine go ?_ | intro _ | (apply cG; first | refine cT ?_ | refine cF ?_ | refine cS (fun _ => ?_) fun _ => ?_) | (apply gW; refine sW ?_) | (apply gI; refine sI ?_) | (apply gE; refine sE ?_) | (apply gP; refine sP ?_) | (apply gC; refine sC ?_) | (apply gD; refine sD ?_) | fail)
      refine E_res1 (by rfl) (by rfl) ⟨rfl, rfl⟩ Sb
    · have hne := hash_turn (t := lblD.data.toList) (z := flip) (b := ob) (by omega) (by omega) (by omega)
      have htl := turnB_len flip 0 ob.length ob
      obtain ⟨cb, hcb⟩ : ∃ cb, turnB flip 0 ob.length ob = cb := ⟨_, rfl⟩
      rw [hcb] at hj2 hne htl
      obtain ⟨z2, hz4⟩ : ∃ z2, bytesW lblD.data.toList cb = z2 := ⟨_, rfl⟩
      rw [hz3, hz4] at hne
      have hne2 : ¬ ((z2.toNat : Int) = (z1.toNat : Int)) := fun h => hne (UInt64.toNat_inj.1 (by omega))
      repeat' (first | refine go ?_ | intro _ | (apply cG; first | refine cT ?_ | refine cF ?_ | refine cS (fun _ => ?_) fun _ => ?_) | (apply gW; refine sW ?_) | (apply gI; refine sI ?_) | (apply gE; refine sE ?_) | (apply gP; refine sP ?_) | (apply gC; refine sC ?_) | (apply gD; refine sD ?_) | fail)
      refine O_d (dy_call ArgsI.pf (by first | exact rfl | trivial | (intro a b; rfl)) (CT.pull (i := 0) (by rfl) (Read_j hj2 hfk))) ?_; rintro _ _ ⟨_, ⟨A9, c9, rfl, rfl⟩, rfl⟩; refine O_n ?_
      repeat' (first | refine go ?_ | intro _ | (apply cG; first | refine cT ?_ | refine cF ?_ | refine cS (fun _ => ?_) fun _ => ?_) | (apply gW; refine sW ?_) | (apply gI; refine sI ?_) | (apply gE; refine sE ?_) | (apply gP; refine sP ?_) | (apply gC; refine sC ?_) | (apply gD; refine sD ?_) | fail)
      refine O_d (dy_call ArgsI.pf (by first | exact rfl | trivial | (intro a b; rfl)) (hBytes_ct (s := lblD) (l := cb) (.inr ⟨_, .head _⟩) (by decide) (by omega) hz4)) ?_; rintro _ _ ⟨_, ⟨rfl, hLL⟩, rfl⟩; replace hLL := hLL.symm; subst hLL; refine O_n ?_
      repeat' (first | refine go ?_ | intro _ | (apply cG; first | refine cT ?_ | refine cF ?_ | refine cS (fun _ => ?_) fun _ => ?_) | (apply gW; refine sW ?_) | (apply gI; refine sI ?_) | (apply gE; refine sE ?_) | (apply gP; refine sP ?_) | (apply gC; refine sC ?_) | (apply gD; refine sD ?_) | fail)
      refine O_d (dy_call ArgsI.pf (by first | exact rfl | trivial | (intro a b; rfl)) (hBytes_ct (s := lblD) (l := ob) (.inl (by repeat (first | exact .head _ | refine .tail _ ?_))) (by decide) (by omega) hz3)) ?_; rintro _ _ ⟨_, ⟨rfl, hLL⟩, rfl⟩; replace hLL := hLL.symm; subst hLL; refine O_n ?_
      repeat' (first | refine go ?_ | intro _ | (apply cG; first | refine cT ?_ | refine cF ?_ | refine cS (fun _ => ?_) fun _ => ?_) | (apply gW; refine sW ?_) | (apply gI; refine sI ?_) | (apply gE; refine sE ?_) | (apply gP; refine sP ?_) | (apply gC; refine sC ?_) | (apply gD; refine sD ?_) | fail)
      refine O_d (dy_call ArgsI.pf (by first | exact rfl | trivial | (intro a b; rfl)) (lives_ct)) ?_; rintro _ _ ⟨_, ⟨rfl, hLL⟩, rfl⟩; replace hLL := hLL.symm; subst hLL; refine O_n ?_
      repeat' (first | refine go ?_ | intro _ | (apply cG; first | refine cT ?_ | refine cF ?_ | refine cS (fun _ => ?_) fun _ => ?_) | (apply gW; refine sW ?_) | (apply gI; refine sI ?_) | (apply gE; refine sE ?_) | (apply gP; refine sP ?_) | (apply gC; refine sC ?_) | (apply gD; refine sD ?_) | fail)
      refine E_res1 (by rfl) (by rfl) ⟨rfl, rfl⟩ Sb
  · repeat' (first | refine go ?_ | intro _ | (apply cG; first | refine cT ?_ | refine cF ?_ | refine cS (fun _ => ?_) fun _ => ?_) | (apply gW; refine sW ?_) | (apply gI; refine sI ?_) | (apply gE; refine sE ?_) | (apply gP; refine sP ?_) | (apply gC; refine sC ?_) | (apply gD; refine sD ?_) | fail)
    refine O_d (dy_call ArgsI.pf (by first | exact rfl | trivial | (intro a b; rfl)) (CT.pull (i := 0) (by rfl) (Sync_na hj1 (by decide) (by decide)))) ?_; rintro _ _ ⟨_, ⟨f3, hj3, rfl, rfl⟩, rfl⟩; refine O_n ?_
    repeat' (first | refine go ?_ | intro _ | (apply cG; first | refine cT ?_ | refine cF ?_ | refine cS (fun _ => ?_) fun _ => ?_) | (apply gW; refine sW ?_) | (apply gI; refine sI ?_) | (apply gE; refine sE ?_) | (apply gP; refine sP ?_) | (apply gC; refine sC ?_) | (apply gD; refine sD ?_) | fail)
    refine O_d (dy_litP (f := iv) (hf := fun _ => rfl) [8] (by rfl)) ?_; rintro _ LI' ⟨_, rfl, hLL⟩; replace hLL : LI' = own _ eI _ _ :: _ := hLL; subst hLL; refine O_n ?_
    refine O_frz 0 ?_
    repeat' (first | refine go ?_ | intro _ | (apply cG; first | refine cT ?_ | refine cF ?_ | refine cS (fun _ => ?_) fun _ => ?_) | (apply gW; refine sW ?_) | (apply gI; refine sI ?_) | (apply gE; refine sE ?_) | (apply gP; refine sP ?_) | (apply gC; refine sC ?_) | (apply gD; refine sD ?_) | fail)
    refine O_front 1 rfl EAt.pf ?_
    refine O_d (dy_call ArgsI.pf (by first | exact rfl | trivial | (intro a b; rfl)) (Crash_na (kp := [8]) (z := flip) hj3 (.head _) (by show 1 ≤ 1000000000; decide) (by decide) hz1 hz2)) ?_; rintro _ _ ⟨_, ⟨f2, hj2, rfl, rfl⟩, rfl⟩; refine O_n ?_
    rw [crB_done] at hj2
    repeat' (first | refine go ?_ | intro _ | (apply cG; first | refine cT ?_ | refine cF ?_ | refine cS (fun _ => ?_) fun _ => ?_) | (apply gW; refine sW ?_) | (apply gI; refine sI ?_) | (apply gE; refine sE ?_) | (apply gP; refine sP ?_) | (apply gC; refine sC ?_) | (apply gD; refine sD ?_) | fail)
    refine O_d (dy_call ArgsI.pf (by first | exact rfl | trivial | (intro a b; rfl)) (CT.pull (i := 0) (by rfl) (Read_j hj2 hfk))) ?_; rintro _ _ ⟨_, ⟨A9, c9, rfl, rfl⟩, rfl⟩; refine O_n ?_
    repeat' (first | refine go ?_ | intro _ | (apply cG; first | refine cT ?_ | refine cF ?_ | refine cS (fun _ => ?_) fun _ => ?_) | (apply gW; refine sW ?_) | (apply gI; refine sI ?_) | (apply gE; refine sE ?_) | (apply gP; refine sP ?_) | (apply gC; refine sC ?_) | (apply gD; refine sD ?_) | fail)
    refine O_d (dy_call ArgsI.pf (by first | exact rfl | trivial | (intro a b; rfl)) (hBytes_ct (s := lblD) (l := ob) (.inr ⟨_, .head _⟩) (by decide) (by omega) hz3)) ?_; rintro _ _ ⟨_, ⟨rfl, hLL⟩, rfl⟩; replace hLL := hLL.symm; subst hLL; refine O_n ?_
    repeat' (first | refine go ?_ | intro _ | (apply cG; first | refine cT ?_ | refine cF ?_ | refine cS (fun _ => ?_) fun _ => ?_) | (apply gW; refine sW ?_) | (apply gI; refine sI ?_) | (apply gE; refine sE ?_) | (apply gP; refine sP ?_) | (apply gC; refine sC ?_) | (apply gD; refine sD ?_) | fail)
    refine O_d (dy_call ArgsI.pf (by first | exact rfl | trivial | (intro a b; rfl)) (hBytes_ct (s := lblD) (l := ob) (.inl (by repeat (first | exact .head _ | refine .tail _ ?_))) (by decide) (by omega) hz3)) ?_; rintro _ _ ⟨_, ⟨rfl, hLL⟩, rfl⟩; replace hLL := hLL.symm; subst hLL; refine O_n ?_
    repeat' (first | refine go ?_ | intro _ | (apply cG; first | refine cT ?_ | refine cF ?_ | refine cS (fun _ => ?_) fun _ => ?_) | (apply gW; refine sW ?_) | (apply gI; refine sI ?_) | (apply gE; refine sE ?_) | (apply gP; refine sP ?_) | (apply gC; refine sC ?_) | (apply gD; refine sD ?_) | fail)
    refine O_d (dy_call ArgsI.pf (by first | exact rfl | trivial | (intro a b; rfl)) (lives_ct)) ?_; rintro _ _ ⟨_, ⟨rfl, hLL⟩, rfl⟩; replace hLL := hLL.symm; subst hLL; refine O_n ?_
    repeat' (first | refine go ?_ | intro _ | (apply cG; first | refine cT ?_ | refine cF ?_ | refine cS (fun _ => ?_) fun _ => ?_) | (apply gW; refine sW ?_) | (apply gI; refine sI ?_) | (apply gE; refine sE ?_) | (apply gP; refine sP ?_) | (apply gC; refine sC ?_) | (apply gD; refine sD ?_) | fail)
    refine E_res1 (by rfl) (by rfl) ⟨rfl, rfl⟩ Sb
theorem DiskHash_any {flip : Int} {synced : Bool} {v : Value} {b : List UInt8} {w : World} (s : St w w [rd eB v b]) (hz1 : -9223372036854775808 ≤ flip) (hz2 : flip ≤ 9223372036854775807) (hbl : b.length ≤ 9223372036854775807) :
    Calls Try.prog 9 #[v, .int .i64 flip, .bool synced] w fun e w' => e = .returned (.bool true) ∧ Below w.heap.size w w' :=
  ((DiskHash_ct (W0 := w) hz1 hz2 (.head _) hbl).run w s).mono fun e w' h => by
    obtain ⟨v, L', rfl, ⟨rfl, rfl⟩, s⟩ := h
    exact ⟨rfl, s.below⟩
end
end Go.Proofs.Ytikdelkcpapgdaa
