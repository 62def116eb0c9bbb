/-
  Package label, plain: what Bound returns is a certificate, and no placement exceeds it.
-/
import Derived.Test.YteeapkfakehocaaMZB
import Derived.Test.YteeapkfakehocaaMY
namespace Go.Proofs.Yteeapkfakehocaa
open Go Go.RowKit
set_option linter.unusedVariables false
set_option linter.unusedSimpArgs false
theorem nodup_snoc {l : List Int} {n : Int} (h : l.Nodup) (hn : n ∉ l) : (n :: l).Nodup := List.nodup_cons.2 ⟨hn, h⟩
theorem add_perm {s : List (List Int)} {k : Nat} {x : List Int} {n : Int} (hk : s[k]? = some x) : (s.take k ++ (x ++ [n]) :: s.drop (k + 1)).flatten.Perm (n :: s.flatten) := by
  rw [flat_split hk, List.flatten_append, List.flatten_cons, List.append_assoc]
  have : (s.take k).flatten ++ (x ++ ([n] ++ (s.drop (k + 1)).flatten)) = ((s.take k).flatten ++ x) ++ n :: (s.drop (k + 1)).flatten := by simp
  rw [this]
  refine List.perm_middle.trans ?_
  rw [List.append_assoc]
/-- the sets so far -/
structure PreOk (l : List AK) (t : List BX) (n : Nat) (sets : List (List Int)) : Prop where
  ne : ∀ s ∈ sets, s ≠ []
  ft : ∀ s ∈ sets, ∀ (k : Nat) (m : Int), s[k]? = some m → fitF l t m (s.take k) = true
  nd : sets.flatten.Nodup
  al : ∀ i : Nat, i < n → (i : Int) ∉ sets.flatten → posI l t i = []
theorem setsN_pre (l : List AK) (t : List BX) : ∀ n, PreOk l t n (setsN l t n)
  | 0 => ⟨(fun _ h => (by cases h)), (fun _ h => (by cases h)), (by simp [setsN]), fun i h => absurd h (Nat.not_lt_zero _)⟩
  | n + 1 => by
    have ih := setsN_pre l t n
    obtain ⟨ho1, ho2⟩ := setsN_ok l t n
    have hnot : (n : Int) ∉ (setsN l t n).flatten := fun h => by
      obtain ⟨s, hs, hn⟩ := List.mem_flatten.1 h
      have := (ho2 s hs).2 _ hn
      omega
    rw [setsN_succ]
    rcases addF_cases l t (setsN l t n) (n : Int) with ⟨hp, e⟩ | ⟨_, _, e⟩ | ⟨k, x, _, _, hk, hf, e⟩
    · rw [e]
      refine ⟨ih.ne, ih.ft, ih.nd, fun i hi hm => ?_⟩
      by_cases h : i = n
      · rw [h]; exact hp
      · exact ih.al i (by omega) hm
    · rw [e]
      have hfl : ((setsN l t n) ++ [[(n : Int)]]).flatten = (setsN l t n).flatten ++ [(n : Int)] := by simp
      have hpm : ((setsN l t n) ++ [[(n : Int)]]).flatten.Perm ((n : Int) :: (setsN l t n).flatten) := by
        rw [hfl]
        exact List.perm_append_comm
      refine ⟨fun s hs => ?_, fun s hs k m hm => ?_, hpm.nodup_iff.2 (nodup_snoc ih.nd hnot), fun i hi hm => ?_⟩
      · rcases List.mem_append.1 hs with h | h
        · exact ih.ne s h
        · simp only [List.mem_cons, List.not_mem_nil, or_false] at h
          subst h
          simp
      · rcases List.mem_append.1 hs with h | h
        · exact ih.ft s h k m hm
        · simp only [List.mem_cons, List.not_mem_nil, or_false] at h
          subst h
          have : k = 0 := by have := (List.getElem?_eq_some_iff.1 hm).1; simpa using this
          subst this
          rfl
      · by_cases h : i = n
        · exact absurd (hpm.mem_iff.2 (by rw [h]; exact .head _)) hm
        · exact ih.al i (by omega) fun h2 => hm (hpm.mem_iff.2 (.tail _ h2))
    · rw [e]
      have hpm := add_perm (n := (n : Int)) hk
      have hxm := List.mem_of_getElem? hk
      refine ⟨fun s hs => ?_, fun s hs k' m hm => ?_, hpm.nodup_iff.2 (nodup_snoc ih.nd hnot), fun i hi hm => ?_⟩
      · rcases List.mem_append.1 hs with h | h
        · exact ih.ne s (List.mem_of_mem_take h)
        · rcases List.mem_cons.1 h with h | h
          · rw [h]; simp
          · exact ih.ne s (List.mem_of_mem_drop h)
      · rcases List.mem_append.1 hs with h | h
        · exact ih.ft s (List.mem_of_mem_take h) k' m hm
        · rcases List.mem_cons.1 h with h | h
          · subst h
            by_cases hk' : k' < x.length
            · rw [List.getElem?_append_left hk'] at hm
              rw [List.take_append_of_le_length (by omega)]
              exact ih.ft x hxm k' m hm
            · have hkl := (List.getElem?_eq_some_iff.1 hm).1
              rw [List.length_append] at hkl
              have hke : k' = x.length := by
                have : [(n : Int)].length = 1 := rfl
                omega
              subst hke
              rw [List.getElem?_append_right (Nat.le_refl _), Nat.sub_self] at hm
              have hmn : m = (n : Int) := (Option.some.inj hm).symm
              rw [hmn, List.take_left]
              exact hf
          · exact ih.ft s (List.mem_of_mem_drop h) k' m hm
      · by_cases h : i = n
        · exact absurd (hpm.mem_iff.2 (by rw [h]; exact .head _)) hm
        · exact ih.al i (by omega) fun h2 => hm (hpm.mem_iff.2 (.tail _ h2))
/-- what Bound returns is a certificate -/
theorem setsF_chk (l : List AK) (t : List BX) : ChkOk l t (setsF l t) := by
  have h := setsN_pre l t l.length
  obtain ⟨_, ho⟩ := setsN_ok l t l.length
  exact ⟨h.ne, fun s hs n hn => (ho s hs).2 n hn, h.ft, h.nd, h.al⟩
/-! ### sums -/
theorem sum_perm {α : Type} {f : α → Int} {l k : List α} (h : l.Perm k) : (l.map f).sum = (k.map f).sum := by
  induction h with
  | nil => rfl
  | cons x _ ih => rw [List.map_cons, List.map_cons, List.sum_cons, List.sum_cons, ih]
  | swap x y l => simp only [List.map_cons, List.sum_cons]; omega
  | trans _ _ h1 h2 => rw [h1, h2]
theorem sum_zero {α : Type} {f : α → Int} : ∀ {l : List α}, (∀ x ∈ l, f x = 0) → (l.map f).sum = 0
  | [], _ => rfl
  | x :: l, h => by
    rw [List.map_cons, List.sum_cons, h x (.head _), sum_zero fun y hy => h y (.tail _ hy)]
    rfl
theorem sum_nn {α : Type} {f : α → Int} : ∀ {l : List α}, (∀ x ∈ l, 0 ≤ f x) → 0 ≤ (l.map f).sum
  | [], _ => Int.le_refl _
  | x :: l, h => by
    rw [List.map_cons, List.sum_cons]
    have h1 := h x (.head _)
    have h2 := sum_nn fun y hy => h y (.tail _ hy)
    omega
theorem sum_sub {f : Int → Int} : ∀ {A B : List Int}, A.Nodup → B.Nodup → (∀ x ∈ A, x ∈ B) → (∀ x ∈ B, 0 ≤ f x) → (A.map f).sum ≤ (B.map f).sum ∧ ((∀ x ∈ B, x ∉ A → f x = 0) → (A.map f).sum = (B.map f).sum)
  | [], B, _, _, _, h => ⟨sum_nn h, fun h0 => (sum_zero fun x hx => h0 x hx (fun h => (by cases h))).symm⟩
  | a :: A, B, hA, hB, hs, h => by
    have hp := List.perm_cons_erase (hs a (.head _))
    obtain ⟨ha, hA'⟩ := List.nodup_cons.1 hA
    have hne : ∀ x ∈ A, x ∈ B.erase a := fun x hx => (List.Nodup.mem_erase_iff hB).2 ⟨fun e => ha (e ▸ hx), hs x (.tail _ hx)⟩
    obtain ⟨h1, h2⟩ := sum_sub hA' (hB.erase a) hne fun x hx => h x (List.mem_of_mem_erase hx)
    rw [sum_perm hp, List.map_cons, List.map_cons, List.sum_cons, List.sum_cons]
    refine ⟨by omega, fun h0 => ?_⟩
    rw [h2 fun x hx hn => h0 x (List.mem_of_mem_erase hx) fun hm => ?_]
    rcases List.mem_cons.1 hm with e | hm
    · subst e
      exact ((List.Nodup.mem_erase_iff hB).1 hx).1 rfl
    · exact hn hm
theorem mxF_ge {l : List AK} : ∀ {s : List Int} {z : Int}, z ≤ s.foldl (fun m n => max m (wtI l n)) z ∧ ∀ n ∈ s, wtI l n ≤ s.foldl (fun m n => max m (wtI l n)) z
  | [], z => ⟨Int.le_refl _, fun _ h => (by cases h)⟩
  | a :: s, z => by
    rw [List.foldl_cons]
    obtain ⟨h1, h2⟩ := mxF_ge (l := l) (s := s) (z := max z (wtI l a))
    refine ⟨by omega, fun n hn => ?_⟩
    rcases List.mem_cons.1 hn with rfl | hn
    · omega
    · exact h2 n hn
theorem mxF_le {l : List AK} : ∀ {s : List Int} {z : Int}, 0 ≤ z → (∀ n ∈ s, 0 ≤ wtI l n) → s.foldl (fun m n => max m (wtI l n)) z ≤ z + (s.map (wtI l)).sum
  | [], z, _, _ => by simp
  | a :: s, z, h0, h => by
    rw [List.foldl_cons, List.map_cons, List.sum_cons]
    have ha := h a (.head _)
    have h1 := mxF_le (l := l) (s := s) (z := max z (wtI l a)) (by omega) fun n hn => h n (.tail _ hn)
    have h2 : max z (wtI l a) ≤ z + wtI l a := by omega
    omega
theorem sumF_eq (l : List AK) : ∀ (sets : List (List Int)) (z : Int), sets.foldl (fun z s => z + mxF l s) z = z + (sets.map (mxF l)).sum
  | [], z => by simp
  | s :: sets, z => by
    rw [List.foldl_cons, sumF_eq l sets, List.map_cons, List.sum_cons]
    omega
theorem flat_sum {f : Int → Int} : ∀ (sets : List (List Int)), (sets.flatten.map f).sum = (sets.map fun s => (s.map f).sum).sum
  | [] => rfl
  | s :: sets => by
    rw [List.flatten_cons, List.map_append, List.sum_append, flat_sum sets, List.map_cons, List.sum_cons]
theorem sum_mono {α : Type} {f g : α → Int} : ∀ {l : List α}, (∀ x ∈ l, f x ≤ g x) → (l.map f).sum ≤ (l.map g).sum
  | [], _ => Int.le_refl _
  | x :: l, h => by
    rw [List.map_cons, List.map_cons, List.sum_cons, List.sum_cons]
    have h1 := h x (.head _)
    have h2 := sum_mono fun y hy => h y (.tail _ hy)
    omega
/-- all numbers of labels -/
def nums (n : Nat) : List Int := (List.range n).map fun k : Nat => (k : Int)
theorem nums_mem {n : Nat} {z : Int} : z ∈ nums n ↔ 0 ≤ z ∧ z < n := by
  unfold nums
  rw [List.mem_map]
  constructor
  · rintro ⟨k, hk, rfl⟩
    have := List.mem_range.1 hk
    omega
  · intro h
    exact ⟨z.toNat, List.mem_range.2 (by omega), by omega⟩
theorem nums_nodup (n : Nat) : (nums n).Nodup := by
  unfold nums
  refine List.Pairwise.map _ (fun a b h => ?_) List.nodup_range
  omega
theorem wt_nn {l : List AK} (hg : ∀ a ∈ l, a.good) (n : Int) : 0 ≤ wtI l n := by
  unfold wtI
  split
  · rename_i a ha
    have := (hg a (List.mem_of_getElem? ha)).2.2.2.2
    omega
  · exact Int.le_refl _
/-! ### no placement exceeds it -/
theorem ovF_comm (a b : BX) : ovF a b = ovF b a := by
  unfold ovF
  rw [Int.max_comm a.x0, Int.min_comm a.x1, Int.max_comm a.y0, Int.min_comm a.y1]
theorem okc_sum (t : List BX) : ∀ {ls : List AK} {ps : List Int} {bx : List BX} {w : Int}, okc t ls ps bx = some w → w = (List.zipWith (fun (a : AK) (p : Int) => if p = -1 then 0 else a.g) ls ps).sum
  | [], [], bx, w, h => by simp [okc] at h; simp [h]
  | [], p :: ps, bx, w, h => by simp [okc] at h
  | a :: ls, [], bx, w, h => by simp [okc] at h
  | a :: ls, p :: ps, bx, w, h => by
    rw [List.zipWith_cons_cons, List.sum_cons]
    unfold okc at h
    by_cases hp : p = -1
    · rw [if_pos hp] at h
      rw [if_pos hp, Int.zero_add]
      exact okc_sum t h
    · rw [if_neg hp] at h
      rw [if_neg hp]
      split at h
      · obtain ⟨w', hw', e⟩ := Option.map_eq_some_iff.1 h
        rw [← okc_sum t hw', ← e]
      · cases h
/-- what a placement says of each label that it places -/
theorem okc_placed (t : List BX) : ∀ {ls : List AK} {ps : List Int} {bx : List BX} {w : Int}, okc t ls ps bx = some w → ∀ {i : Nat} {a : AK} {p : Int}, ls[i]? = some a → ps[i]? = some p → p ≠ -1 →
    (p, (boxF a p).1) ∈ choF a t ∧ ∀ c ∈ bx, ovF (boxF a p).1 c = false
  | [], _, bx, w, h, i, a, p, ha, _, _ => by simp at ha
  | a0 :: ls, [], bx, w, h, i, a, p, _, hp, _ => by simp at hp
  | a0 :: ls, p0 :: ps, bx, w, h, i, a, p, ha, hp, hne => by
    unfold okc at h
    by_cases hp0 : p0 = -1
    · rw [if_pos hp0] at h
      cases i with
      | zero =>
        simp only [List.getElem?_cons_zero, Option.some.injEq] at hp
        exact absurd (hp ▸ hp0) hne
      | succ i => exact okc_placed t h (by simpa using ha) (by simpa using hp) hne
    · rw [if_neg hp0] at h
      split at h
      · rename_i hc
        obtain ⟨w', hw', e⟩ := Option.map_eq_some_iff.1 h
        cases i with
        | zero =>
          simp only [List.getElem?_cons_zero, Option.some.injEq] at hp ha
          subst hp ha
          refine ⟨mem_cho.2 ⟨boxF_in hc.1, rfl, hc.1, hc.2.1⟩, fun c hcb => ?_⟩
          have := List.all_eq_true.1 hc.2.2 c hcb
          simpa using this
        | succ i =>
          obtain ⟨h1, h2⟩ := okc_placed t hw' (i := i) (by simpa using ha) (by simpa using hp) hne
          exact ⟨h1, fun c hcb => h2 c (List.mem_append_left _ hcb)⟩
      · cases h
theorem okc_apart (t : List BX) : ∀ {ls : List AK} {ps : List Int} {bx : List BX} {w : Int}, okc t ls ps bx = some w → ∀ {i j : Nat} {a b : AK} {p q : Int}, i < j → ls[i]? = some a → ps[i]? = some p → p ≠ -1 → ls[j]? = some b → ps[j]? = some q → q ≠ -1 →
    ovF (boxF b q).1 (boxF a p).1 = false
  | [], _, bx, w, h, i, j, a, b, p, q, _, ha, _, _, _, _, _ => by simp at ha
  | a0 :: ls, [], bx, w, h, i, j, a, b, p, q, _, _, hp, _, _, _, _ => by simp at hp
  | a0 :: ls, p0 :: ps, bx, w, h, i, j, a, b, p, q, hij, ha, hp, hne, hb, hq, hqe => by
    cases j with
    | zero => omega
    | succ j =>
      unfold okc at h
      by_cases hp0 : p0 = -1
      · rw [if_pos hp0] at h
        cases i with
        | zero =>
          simp only [List.getElem?_cons_zero, Option.some.injEq] at hp
          exact absurd (hp ▸ hp0) hne
        | succ i => exact okc_apart t h (i := i) (j := j) (by omega) (by simpa using ha) (by simpa using hp) hne (by simpa using hb) (by simpa using hq) hqe
      · rw [if_neg hp0] at h
        split at h
        · obtain ⟨w', hw', e⟩ := Option.map_eq_some_iff.1 h
          cases i with
          | zero =>
            simp only [List.getElem?_cons_zero, Option.some.injEq] at hp ha
            subst hp ha
            exact (okc_placed t hw' (i := j) (by simpa using hb) (by simpa using hq) hqe).2 _ (List.mem_append_right _ (.head _))
          | succ i => exact okc_apart t hw' (i := i) (j := j) (by omega) (by simpa using ha) (by simpa using hp) hne (by simpa using hb) (by simpa using hq) hqe
        · cases h
/-- no placement is heavier than a certificate says -/
theorem best_le {l : List AK} {t : List BX} {sets : List (List Int)} (hg : ∀ a ∈ l, a.good) (hc : ChkOk l t sets) {ps : List Int} {w : Int} (h : okc t l ps [] = some w) : w ≤ sumF25 l sets := by
  have hlen := (okc_len t h).1
  obtain ⟨f, hf⟩ : ∃ f : Int → Int, f = fun n => if ps[n.toNat]? = some (-1) then 0 else wtI l n := ⟨_, rfl⟩
  have hfn : ∀ n, 0 ≤ f n ∧ f n ≤ wtI l n := fun n => by
    have := wt_nn hg n
    rw [hf]
    dsimp only
    split <;> omega
  have hw : w = ((nums l.length).map f).sum := by
    rw [okc_sum t h]
    congr 1
    apply List.ext_getElem?
    intro i
    unfold nums
    rw [List.getElem?_map, List.getElem?_map, List.getElem?_zipWith]
    by_cases hi : i < l.length
    · obtain ⟨a, ha⟩ : ∃ a, l[i]? = some a := ⟨_, List.getElem?_eq_getElem hi⟩
      obtain ⟨p, hp⟩ : ∃ p, ps[i]? = some p := ⟨_, List.getElem?_eq_getElem (by omega)⟩
      rw [ha, hp, List.getElem?_range hi]
      simp only [Option.map_some, Option.some.injEq, hf, Int.toNat_natCast, hp, wtI_at ha]
    · rw [List.getElem?_eq_none (by omega : l.length ≤ i), List.getElem?_eq_none (by simpa using hi : (List.range l.length).length ≤ i)]
      rfl
  have hin : ∀ x ∈ sets.flatten, x ∈ nums l.length := fun x hx => by
    obtain ⟨s, hs, hxs⟩ := List.mem_flatten.1 hx
    exact nums_mem.2 (hc.rg s hs x hxs)
  -- a label that is placed has a possible position
  have hpl : ∀ {i : Nat} {a : AK}, l[i]? = some a → f (i : Int) ≠ 0 → ∃ p, ps[i]? = some p ∧ p ≠ -1 := fun {i a} ha hne => by
    obtain ⟨p, hp⟩ : ∃ p, ps[i]? = some p := ⟨_, List.getElem?_eq_getElem (by have := (List.getElem?_eq_some_iff.1 ha).1; omega)⟩
    refine ⟨p, hp, fun e => hne ?_⟩
    rw [hf]
    dsimp only
    rw [Int.toNat_natCast, hp, e, if_pos rfl]
  have heq := (sum_sub (f := f) hc.nd (nums_nodup l.length) hin fun x _ => (hfn x).1).2 fun x hx hn => by
    obtain ⟨h0, h1⟩ := nums_mem.1 hx
    obtain ⟨i, rfl⟩ : ∃ i : Nat, x = (i : Int) := ⟨x.toNat, by omega⟩
    obtain ⟨a, ha⟩ : ∃ a, l[i]? = some a := ⟨_, List.getElem?_eq_getElem (by omega)⟩
    refine Classical.byContradiction fun hne => ?_
    obtain ⟨p, hp, hpe⟩ := hpl ha hne
    have h2 := (okc_placed t h ha hp hpe).1
    have h3 := hc.al i (by omega) hn
    rw [posI_at ha] at h3
    rw [h3] at h2
    cases h2
  rw [hw, ← heq, flat_sum, sumF25, sumF_eq, Int.zero_add]
  refine sum_mono fun s hs => ?_
  -- within a set at most one label is placed
  have hsn : s.Nodup := by
    obtain ⟨k, hk⟩ := List.getElem?_of_mem hs
    have h1 := hc.nd
    rw [flat_split hk] at h1
    exact (List.nodup_append.1 (List.nodup_append.1 h1).2.1).1
  have key : ∀ k, k ≤ s.length → (((s.take k).map f).sum = 0 ∧ ∀ m ∈ s.take k, f m = 0) ∨ ∃ m ∈ s.take k, ((s.take k).map f).sum = f m ∧ f m ≠ 0 ∧ ∀ x ∈ s.take k, f x ≠ 0 → x = m := by
    intro k
    induction k with
    | zero => intro _; exact .inl ⟨by simp, fun m hm => absurd hm (by simp)⟩
    | succ k ih =>
      intro hk
      obtain ⟨n, hn⟩ : ∃ n, s[k]? = some n := ⟨_, List.getElem?_eq_getElem (by omega)⟩
      have htk : s.take (k + 1) = s.take k ++ [n] := by rw [List.take_add_one, hn]; rfl
      rw [htk, List.map_append, List.sum_append]
      have hs1 : ([n].map f).sum = f n := by simp
      rw [hs1]
      by_cases hfn0 : f n = 0
      · rcases ih (by omega) with ⟨h1, h2⟩ | ⟨m, hm, h1, h2, h3⟩
        · refine .inl ⟨by omega, fun m hm => ?_⟩
          rcases List.mem_append.1 hm with hm | hm
          · exact h2 m hm
          · simp only [List.mem_cons, List.not_mem_nil, or_false] at hm
            rw [hm]; exact hfn0
        · refine .inr ⟨m, List.mem_append_left _ hm, by omega, h2, fun x hx hxe => ?_⟩
          rcases List.mem_append.1 hx with hx | hx
          · exact h3 x hx hxe
          · simp only [List.mem_cons, List.not_mem_nil, or_false] at hx
            subst hx
            exact absurd hfn0 hxe
      · have hno : ∀ m ∈ s.take k, f m = 0 := fun m hm => Classical.byContradiction fun hmf => by
          have hfit := List.all_eq_true.1 (hc.ft s hs k n hn) m hm
          have hms := List.mem_of_mem_take hm
          have hmr := hc.rg s hs m hms
          have hnr := hc.rg s hs n (List.mem_of_getElem? hn)
          obtain ⟨i, rfl⟩ : ∃ i : Nat, m = (i : Int) := ⟨m.toNat, by omega⟩
          obtain ⟨j, rfl⟩ : ∃ j : Nat, n = (j : Int) := ⟨n.toNat, by omega⟩
          obtain ⟨a, ha⟩ : ∃ a, l[i]? = some a := ⟨_, List.getElem?_eq_getElem (by omega)⟩
          obtain ⟨b, hb⟩ : ∃ b, l[j]? = some b := ⟨_, List.getElem?_eq_getElem (by omega)⟩
          obtain ⟨p, hp, hpe⟩ := hpl ha hmf
          obtain ⟨q, hq, hqe⟩ := hpl hb hfn0
          have hij : i ≠ j := fun e => by
            subst e
            obtain ⟨i1, hi1⟩ := List.getElem?_of_mem hm
            have hlt := (List.getElem?_eq_some_iff.1 hi1).1
            rw [List.length_take] at hlt
            rw [List.getElem?_take, if_pos (by omega)] at hi1
            have := (List.getElem?_inj (by omega) hsn).1 (hi1.trans hn.symm)
            omega
          have h1 := (okc_placed t h ha hp hpe).1
          have h2 := (okc_placed t h hb hq hqe).1
          rw [posI_at ha, posI_at hb] at hfit
          have h3 := List.all_eq_true.1 (List.all_eq_true.1 hfit _ h2) _ h1
          dsimp only at h3
          rcases Nat.lt_or_gt_of_ne hij with hlt | hlt
          · rw [okc_apart t h hlt ha hp hpe hb hq hqe] at h3
            cases h3
          · rw [ovF_comm, okc_apart t h hlt hb hq hqe ha hp hpe] at h3
            cases h3
        have h0 := sum_zero hno
        refine .inr ⟨n, List.mem_append_right _ (.head _), by omega, hfn0, fun x hx hxe => ?_⟩
        rcases List.mem_append.1 hx with hx | hx
        · exact absurd (hno x hx) hxe
        · simpa using hx
  have := key s.length (Nat.le_refl _)
  rw [List.take_length] at this
  rcases this with ⟨h1, _⟩ | ⟨m, hm, h1, _⟩
  · rw [h1]
    exact mxF_ge.1
  · rw [h1]
    exact Int.le_trans (hfn m).2 (mxF_ge.2 m hm)
/-! ### sets of one label each -/
def singles (n : Nat) : List (List Int) := (nums n).map fun k => [k]
theorem singles_flat (n : Nat) : (singles n).flatten = nums n := by
  unfold singles
  induction nums n with
  | nil => rfl
  | cons a r ih => rw [List.map_cons, List.flatten_cons, ih]; rfl
theorem singles_chk (l : List AK) (t : List BX) : ChkOk l t (singles l.length) := by
  have hs : ∀ s ∈ singles l.length, ∃ k ∈ nums l.length, s = [k] := fun s h => by
    obtain ⟨k, hk, e⟩ := List.mem_map.1 h
    exact ⟨k, hk, e.symm⟩
  refine ⟨fun s h => ?_, fun s h n hn => ?_, fun s h k n hn => ?_, ?_, fun i hi hm => ?_⟩
  · obtain ⟨k, _, rfl⟩ := hs s h
    simp
  · obtain ⟨k, hk, rfl⟩ := hs s h
    simp only [List.mem_cons, List.not_mem_nil, or_false] at hn
    subst hn
    exact nums_mem.1 hk
  · obtain ⟨m, _, rfl⟩ := hs s h
    have : k = 0 := by have := (List.getElem?_eq_some_iff.1 hn).1; simpa using this
    subst this
    rfl
  · rw [singles_flat]
    exact nums_nodup _
  · rw [singles_flat] at hm
    exact absurd (nums_mem.2 ⟨by omega, by omega⟩) hm
theorem bound_le_singles {l : List AK} {t : List BX} (hg : ∀ a ∈ l, a.good) : sumF25 l (setsF l t) ≤ sumF25 l (singles l.length) := by
  have hc := setsF_chk l t
  unfold sumF25
  rw [sumF_eq, sumF_eq, Int.zero_add, Int.zero_add]
  have h1 : ((setsF l t).map (mxF l)).sum ≤ ((setsF l t).map fun s => (s.map (wtI l)).sum).sum := sum_mono fun s hs => by
    have := mxF_le (l := l) (s := s) (z := 0) (Int.le_refl _) fun n _ => wt_nn hg n
    rw [Int.zero_add] at this
    exact this
  rw [← flat_sum] at h1
  have h2 := (sum_sub (f := wtI l) hc.nd (nums_nodup l.length) (fun x hx => by
    obtain ⟨s, hs, hxs⟩ := List.mem_flatten.1 hx
    exact nums_mem.2 (hc.rg s hs x hxs)) fun x _ => wt_nn hg x).1
  have h3 : ((singles l.length).map (mxF l)).sum = ((nums l.length).map (wtI l)).sum := by
    unfold singles
    rw [List.map_map]
    congr 1
    apply List.map_congr_left
    intro n hn
    show max 0 (wtI l n) = wtI l n
    have := wt_nn hg n
    omega
  omega
/-! ### moved -/
section
variable {dx dy : Int}
theorem posI_mv {l : List AK} {t : List BX} (h : ∀ a ∈ l, MvOk dx dy a) (n : Int) : posI (l.map (AK.mv dx dy)) (t.map (BX.mv dx dy)) n = (posI l t n).map fun c => (c.1, c.2.mv dx dy) := by
  unfold posI
  rw [List.getElem?_map]
  cases ha : l[n.toNat]? with
  | none => rfl
  | some a => exact choF_mv (h a (List.mem_of_getElem? ha))
theorem exF_mv (a b : List CHO) : exF (a.map fun c => (c.1, c.2.mv dx dy)) (b.map fun c => (c.1, c.2.mv dx dy)) = exF a b := by
  unfold exF
  rw [List.all_map]
  congr 1
  funext x
  show ((b.map fun c => (c.1, c.2.mv dx dy)).all fun y => ovF (x.2.mv dx dy) y.2) = _
  rw [List.all_map]
  congr 1
  funext y
  exact ovF_mv
theorem fitF_mv {l : List AK} {t : List BX} (h : ∀ a ∈ l, MvOk dx dy a) (n : Int) : fitF (l.map (AK.mv dx dy)) (t.map (BX.mv dx dy)) n = fitF l t n := by
  funext s
  unfold fitF
  congr 1
  funext m
  rw [posI_mv h, posI_mv h, exF_mv]
theorem setsN_mv {l : List AK} {t : List BX} (h : ∀ a ∈ l, MvOk dx dy a) : ∀ n, setsN (l.map (AK.mv dx dy)) (t.map (BX.mv dx dy)) n = setsN l t n
  | 0 => rfl
  | n + 1 => by
    rw [setsN_succ, setsN_succ, setsN_mv h n]
    unfold addF
    simp only [fitF_mv h, posI_mv h, List.map_eq_nil_iff]
theorem bound_mv {l : List AK} {t : List BX} (h : ∀ a ∈ l, MvOk dx dy a) : sumF25 (l.map (AK.mv dx dy)) (setsF (l.map (AK.mv dx dy)) (t.map (BX.mv dx dy))) = sumF25 l (setsF l t) := by
  unfold setsF
  rw [setsN_mv h, List.length_map]
  have hw : wtI (l.map (AK.mv dx dy)) = wtI l := by
    funext n
    unfold wtI
    rw [List.getElem?_map]
    cases l[n.toNat]? <;> rfl
  unfold sumF25 mxF
  rw [hw]
end
end Go.Proofs.Yteeapkfakehocaa
namespace Go.Proofs.Yteeapkfakehocaa
open Go Go.RowKit
set_option linter.unusedVariables false
set_option linter.unusedSimpArgs false
set_option maxRecDepth 20000
set_option synthInstance.maxSize 100000
set_option synthInstance.maxHeartbeats 400000
theorem good_some {a : AK} (h : SomeOk a) : a.good := by
  dsimp only [AK.good]
  omega
theorem good_bx {b : BX} (h : BxOk b) : b.good := by
  dsimp only [BX.good]
  omega
theorem check_some {x : List AK} {t : List BX} (hx : ∀ a ∈ x, SomeOk a) (ht : ∀ b ∈ t, BxOk b) (h1 : x.length ≤ 64) (h2 : t.length ≤ 256) : checkF x t = 0 := by
  unfold checkF
  rw [if_neg (by omega), if_pos fun a ha => good_some (hx a ha), if_pos fun b hb => good_bx (ht b hb)]
theorem place_some {x : List AK} {t : List BX} (hx : ∀ a ∈ x, SomeOk a) (ht : ∀ b ∈ t, BxOk b) (h1 : x.length ≤ 7) (h2 : t.length ≤ 256) : placeF x t 1048576 = ((bestF x t).1, (bestF x t).2, 0) := by
  refine placeF_ok (check_some hx ht (by omega) h2) ?_
  have := enterR_steps t x 0 [] [] ⟨[], -1, 0⟩
  have hm : stepsB x.length ≤ 100000 := by
    have : ∀ n : Fin 8, stepsB n.val ≤ 100000 := by decide
    exact this ⟨x.length, by omega⟩
  dsimp only at this
  omega
theorem bfF_drop {a b : List Int} {i : Nat} {x y : Int} (ha : a[i]? = some x) (hb : b[i]? = some y) : bfF (a.drop i) (b.drop i) = if x ≠ y then decide (y < 0 ∨ (0 ≤ x ∧ x < y)) else bfF (a.drop (i + 1)) (b.drop (i + 1)) := by
  rw [List.drop_eq_getElem_cons (List.getElem?_eq_some_iff.1 ha).1, (List.getElem?_eq_some_iff.1 ha).2, List.drop_eq_getElem_cons (List.getElem?_eq_some_iff.1 hb).1, (List.getElem?_eq_some_iff.1 hb).2]
  rfl
section
variable {W0 : World} {L : List HP}
theorem positions_ct {N m : Nat} (hN : N ≤ 1000000000) (hm : m ≤ 1000) : CT Try.prog 20 #[.int .i64 (N : Int), .int .i64 (m : Int)] W0 L fun r L' => ∃ A c p, r = .slice A p.length c ∧ p.length = m ∧ (∀ z ∈ p, -1 ≤ z ∧ z ≤ 3) ∧ L' = own 3 eI (.slice A p.length c) p :: L := by
  refine CT_enter Try.func20 rfl ?_; (simp only [Try.ntmps20, List.size_toArray, List.length_cons, List.length_nil, Nat.reduceAdd, Nat.reduceSub, Array.replicate_succ, Array.replicate_zero, List.push_toArray, List.append_toArray, List.nil_append, List.cons_append])
  repeat' (first | refine go ?_ | intro _ | (apply cG; first | refine cT ?_ | refine cF ?_ | refine cS (fun _ => ?_) fun _ => ?_) | (apply gW; refine sW ?_) | (apply gI; refine sI ?_) | (apply gE; refine sE ?_) | (apply gP; refine sP ?_) | (apply gC; refine sC ?_) | (apply gD; refine sD ?_) | fail)
  refine C_ownnil 3 eI ?_
  refine C_loopS (κ := Nat × List Int × Option Addr × Nat) [true, false, false, false, false, true, true, true, true, true, true, true, true, true, true, true, true, true, true, true, true, true, false] (fun k => [(0, .int .i64 (k.1 : Int)), (5, .slice k.2.2.1 k.2.1.length k.2.2.2), (6, .int .i64 (k.2.1.length : Int))]) (fun k => [(0, own 3 eI (.slice k.2.2.1 k.2.1.length k.2.2.2) k.2.1)]) (fun k => k.1 ≤ 1000000000 ∧ k.2.1.length ≤ m ∧ ∀ z ∈ k.2.1, -1 ≤ z ∧ z ≤ 3) (fun k => m - k.2.1.length) (N, [], none, 0) ⟨hN, Nat.zero_le _, fun _ h => (by cases h)⟩ ⟨rfl, rfl, rfl, trivial⟩ ?_
  rintro ⟨n, p, A, c⟩ u ⟨hn, hp, hok⟩
  dsimp only at hn hp hok
  dsimp only
  ((try dsimp only); refine C_n ?_; (try simp only [Nat.reduceAdd, Nat.zero_add]))
  by_cases hlt : p.length < m
  rotate_left
  · repeat' (first | refine go ?_ | intro _ | (apply cG; first | refine cT ?_ | refine cF ?_ | refine cS (fun _ => ?_) fun _ => ?_) | (apply gW; refine sW ?_) | (apply gI; refine sI ?_) | (apply gE; refine sE ?_) | (apply gP; refine sP ?_) | (apply gC; refine sC ?_) | (apply gD; refine sD ?_) | fail)
    refine E_res1 (by rfl) (by rfl) ⟨A, c, p, rfl, by omega, hok, rfl⟩ Sb
  have h5 : n % 5 < 5 := Nat.mod_lt _ (by decide)
  obtain ⟨z, hz⟩ : ∃ z, [0, 1, 2, 3, (-1 : Int)][n % 5]? = some z := ⟨_, List.getElem?_eq_getElem h5⟩
  have hzok : ∀ z ∈ [0, 1, 2, 3, (-1 : Int)], -1 ≤ z ∧ z ≤ 3 := by decide
  have haz : At [0, 1, 2, 3, (-1 : Int)] (n % 5) z := ⟨hz⟩
  have hz1 := hzok z (List.mem_of_getElem? hz)
  repeat' (first | refine go ?_ | intro _ | (apply cG; first | refine cT ?_ | refine cF ?_ | refine cS (fun _ => ?_) fun _ => ?_) | (apply gW; refine sW ?_) | (apply gI; refine sI ?_) | (apply gE; refine sE ?_) | (apply gP; refine sP ?_) | (apply gC; refine sC ?_) | (apply gD; refine sD ?_) | fail)
  refine O_d (dy_litP (f := iv) (hf := fun _ => rfl) [0, 1, 2, 3, (-1 : Int)] (by rfl)) ?_; rintro _ LI' ⟨_, rfl, hLL⟩; replace hLL : LI' = own _ eI _ _ :: _ := hLL; subst hLL; refine O_n ?_
  repeat' (first | refine go ?_ | intro _ | (apply cG; first | refine cT ?_ | refine cF ?_ | refine cS (fun _ => ?_) fun _ => ?_) | (apply gI; refine sI ?_) | (apply gE; refine sE ?_) | (apply gP; refine sP ?_) | (apply gC; refine sC ?_) | (apply gD; refine sD ?_) | fail)
  apply gW; refine sW (r := ((n % 5 : Nat) : Int)) ?_ ⟨by decide, rfl⟩
  repeat' (first | refine go ?_ | intro _ | (apply cG; first | refine cT ?_ | refine cF ?_ | refine cS (fun _ => ?_) fun _ => ?_) | (apply gW; refine sW ?_) | (apply gI; refine sI ?_) | (apply gE; refine sE ?_) | (apply gP; refine sP ?_) | (apply gC; refine sC ?_) | (apply gD; refine sD ?_) | fail)
  refine O_d (dy_lit1 (R := eI) z (hcs := by rfl) (hel := fun _ _ _ => by rfl)) ?_; rintro _ _ ⟨_, rfl, rfl⟩; refine O_n ?_
  repeat' (first | refine go ?_ | intro _ | (apply cG; first | refine cT ?_ | refine cF ?_ | refine cS (fun _ => ?_) fun _ => ?_) | (apply gI; refine sI ?_) | (apply gE; refine sE ?_) | (apply gP; refine sP ?_) | (apply gC; refine sC ?_) | (apply gD; refine sD ?_) | fail)
  apply gW; refine sW (r := ((n / 5 : Nat) : Int)) ?_ ⟨by decide, by show IntKind.i64.wrap ((n / 5 : Nat) : Int) = ((n / 5 : Nat) : Int); exact wr_i64 (by omega) (by omega)⟩
  repeat' (first | refine go ?_ | intro _ | (apply cG; first | refine cT ?_ | refine cF ?_ | refine cS (fun _ => ?_) fun _ => ?_) | (apply gW; refine sW ?_) | (apply gI; refine sI ?_) | (apply gE; refine sE ?_) | (apply gP; refine sP ?_) | (apply gC; refine sC ?_) | (apply gD; refine sD ?_) | fail)
  rename_i A5 c5
  exact E_round (n / 5, p ++ [z], A5, c5) ⟨by dsimp only; omega, by dsimp only; rw [List.length_append]; exact hlt, fun y hy => by
    rcases List.mem_append.1 hy with hy | hy
    · exact hok y hy
    · simp only [List.mem_cons, List.not_mem_nil, or_false] at hy
      subst hy
      exact hz1⟩ (by dsimp only; rw [List.length_append]; show m - (p.length + 1) < _; omega) ⟨rfl, by dsimp only; rw [List.length_append]; rfl, by dsimp only; rw [List.length_append]; rfl, trivial⟩ (by dsimp only; rw [List.length_append]; exact Sb)
theorem before_ct {A B : Option Addr} {c d : Nat} {a b : List Int} (ha : rd eI (.slice A a.length c) a ∈ L) (hb : rd eI (.slice B b.length d) b ∈ L) (hal : a.length ≤ 1000000000) : CT Try.prog 23 #[.slice A a.length c, .slice B b.length d] W0 L fun r L' => r = .bool (bfF a b) ∧ L' = L := by
  refine CT.sub ?_ (sub_dup hb)
  refine CT.sub ?_ (sub_dup (.tail _ ha))
  refine CT_enter Try.func23 rfl ?_; (simp only [Try.ntmps23, List.size_toArray, List.length_cons, List.length_nil, Nat.reduceAdd, Nat.reduceSub, Array.replicate_succ, Array.replicate_zero, List.push_toArray, List.append_toArray, List.nil_append, List.cons_append])
  repeat' (first | refine go ?_ | intro _ | (apply cG; first | refine cT ?_ | refine cF ?_ | refine cS (fun _ => ?_) fun _ => ?_) | (apply gW; refine sW ?_) | (apply gI; refine sI ?_) | (apply gE; refine sE ?_) | (apply gP; refine sP ?_) | (apply gC; refine sC ?_) | (apply gD; refine sD ?_) | fail)
  refine C_loopS (κ := Nat) [false, false, false, false, true, true, true, true, true, true, true, true, true, true, true, true, true, true, true, true, true, true, true, true, true, true, true, true, true, true, true, true, true, true, true, true, true, true, true, true, true, true, true, true, true, true, true, true, true, true] (fun k => [(5, .int .i64 (k : Int))]) (fun k => []) (fun k => k ≤ a.length ∧ k ≤ b.length ∧ bfF (a.drop k) (b.drop k) = bfF a b) (fun k => a.length - k) 0 ⟨Nat.zero_le _, Nat.zero_le _, rfl⟩ ⟨rfl, trivial⟩ ?_
  rintro i u ⟨hi, hi2, hbf⟩
  ((try dsimp only); refine C_n ?_; (try simp only [Nat.reduceAdd, Nat.zero_add]))
  by_cases h1 : i < a.length
  rotate_left
  · obtain rfl : i = a.length := by omega
    rw [List.drop_length] at hbf
    replace hbf : false = bfF a b := hbf
    rw [← hbf]
    repeat' (first | refine go ?_ | intro _ | (apply cG; first | refine cT ?_ | refine cF ?_ | refine cS (fun _ => ?_) fun _ => ?_) | (apply gW; refine sW ?_) | (apply gI; refine sI ?_) | (apply gE; refine sE ?_) | (apply gP; refine sP ?_) | (apply gC; refine sC ?_) | (apply gD; refine sD ?_) | fail)
    refine E_res1 (by rfl) (by rfl) ⟨rfl, rfl⟩ Sb
  by_cases h2 : i < b.length
  rotate_left
  · obtain rfl : i = b.length := by omega
    rw [List.drop_length] at hbf
    have : bfF (a.drop b.length) [] = false := by cases a.drop b.length <;> rfl
    rw [this] at hbf
    rw [← hbf]
    repeat' (first | refine go ?_ | intro _ | (apply cG; first | refine cT ?_ | refine cF ?_ | refine cS (fun _ => ?_) fun _ => ?_) | (apply gW; refine sW ?_) | (apply gI; refine sI ?_) | (apply gE; refine sE ?_) | (apply gP; refine sP ?_) | (apply gC; refine sC ?_) | (apply gD; refine sD ?_) | fail)
    refine E_res1 (by rfl) (by rfl) ⟨rfl, rfl⟩ Sb
  obtain ⟨x, hx⟩ : ∃ x, a[i]? = some x := ⟨_, List.getElem?_eq_getElem h1⟩
  obtain ⟨y, hy⟩ : ∃ y, b[i]? = some y := ⟨_, List.getElem?_eq_getElem h2⟩
  have hax : At a i x := ⟨hx⟩
  have hay : At b i y := ⟨hy⟩
  rw [bfF_drop hx hy] at hbf
  repeat' (first | refine go ?_ | intro _ | (apply cG; first | refine cT ?_ | refine cF ?_ | refine cS (fun _ => ?_) fun _ => ?_) | (apply gW; refine sW ?_) | (apply gI; refine sI ?_) | (apply gE; refine sE ?_) | (apply gP; refine sP ?_) | (apply gC; refine sC ?_) | (apply gD; refine sD ?_) | fail)
  refine C_draw (n := 99) [rd eI (.slice A a.length c) a, rd eI (.slice B b.length d) b] [(0, 1), (1, 1), (2, 1), (3, 1), (4, 1), (5, 1), (6, 1), (7, 1), (8, 1)] (by kernel_rfl) (by kernel_rfl) Sb ?_
  by_cases hxy : x = y
  · rw [if_neg (fun h => h hxy)] at hbf
    repeat' (first | refine go ?_ | intro _ | (apply cG; first | refine cT ?_ | refine cF ?_ | refine cS (fun _ => ?_) fun _ => ?_) | (apply gW; refine sW ?_) | (apply gI; refine sI ?_) | (apply gE; refine sE ?_) | (apply gP; refine sP ?_) | (apply gC; refine sC ?_) | (apply gD; refine sD ?_) | fail)
    exact E_round (i + 1) ⟨h1, h2, hbf⟩ (by omega) ⟨rfl, trivial⟩ Sb
  rw [if_pos hxy] at hbf
  rw [← hbf]
  repeat' (first | refine go ?_ | intro _ | (apply cG; first | refine cT ?_ | refine cF ?_ | refine cS (fun _ => ?_) fun _ => ?_) | (apply gW; refine sW ?_) | (apply gI; refine sI ?_) | (apply gE; refine sE ?_) | (apply gP; refine sP ?_) | (apply gC; refine sC ?_) | (apply gD; refine sD ?_) | fail)
  refine C_draw (n := 99) [rd eI (.slice A a.length c) a, rd eI (.slice B b.length d) b] [(0, 1), (1, 1), (2, 1), (3, 1), (4, 1), (5, 1), (6, 1), (7, 1), (8, 1), (9, 1), (10, 1), (11, 1), (12, 1), (13, 1), (14, 1), (15, 1), (16, 1), (17, 1), (18, 1), (19, 1), (20, 1), (21, 1), (22, 1), (23, 1)] (by kernel_rfl) (by kernel_rfl) Sb ?_
  by_cases hy0 : y < 0
  · rw [decide_eq_true (.inl hy0)]
    repeat' (first | refine go ?_ | intro _ | (apply cG; first | refine cT ?_ | refine cF ?_ | refine cS (fun _ => ?_) fun _ => ?_) | (apply gW; refine sW ?_) | (apply gI; refine sI ?_) | (apply gE; refine sE ?_) | (apply gP; refine sP ?_) | (apply gC; refine sC ?_) | (apply gD; refine sD ?_) | fail)
    refine E_res1 (by rfl) (by rfl) ⟨rfl, rfl⟩ Sb
  by_cases hx0 : 0 ≤ x
  · by_cases hlt : x < y
    · rw [decide_eq_true (.inr ⟨hx0, hlt⟩)]
      repeat' (first | refine go ?_ | intro _ | (apply cG; first | refine cT ?_ | refine cF ?_ | refine cS (fun _ => ?_) fun _ => ?_) | (apply gW; refine sW ?_) | (apply gI; refine sI ?_) | (apply gE; refine sE ?_) | (apply gP; refine sP ?_) | (apply gC; refine sC ?_) | (apply gD; refine sD ?_) | fail)
      refine E_res1 (by rfl) (by rfl) ⟨rfl, rfl⟩ Sb
    · rw [decide_eq_false (by omega)]
      repeat' (first | refine go ?_ | intro _ | (apply cG; first | refine cT ?_ | refine cF ?_ | refine cS (fun _ => ?_) fun _ => ?_) | (apply gW; refine sW ?_) | (apply gI; refine sI ?_) | (apply gE; refine sE ?_) | (apply gP; refine sP ?_) | (apply gC; refine sC ?_) | (apply gD; refine sD ?_) | fail)
      refine E_res1 (by rfl) (by rfl) ⟨rfl, rfl⟩ Sb
  · rw [decide_eq_false (by omega)]
    repeat' (first | refine go ?_ | intro _ | (apply cG; first | refine cT ?_ | refine cF ?_ | refine cS (fun _ => ?_) fun _ => ?_) | (apply gW; refine sW ?_) | (apply gI; refine sI ?_) | (apply gE; refine sE ?_) | (apply gP; refine sP ?_) | (apply gC; refine sC ?_) | (apply gD; refine sD ?_) | fail)
    refine E_res1 (by rfl) (by rfl) ⟨rfl, rfl⟩ Sb
end
end Go.Proofs.Yteeapkfakehocaa
