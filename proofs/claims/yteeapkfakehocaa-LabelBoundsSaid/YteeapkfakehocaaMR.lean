/-
  Package label, plain: what the search finds, said by a list of all placements.
-/
import Derived.Test.YteeapkfakehocaaMI
import Derived.Test.YteeapkfakehocaaMJ
import Derived.Test.YteeapkfakehocaaMO
namespace Go.Proofs.Yteeapkfakehocaa
open Go Go.RowKit
set_option linter.unusedVariables false
set_option linter.unusedSimpArgs false
/-- all placements of the labels left, in the order of the search, with their weights -/
def comps (t : List BX) : List AK → List BX → List (List Int × Int)
  | [], _ => [([], 0)]
  | a :: ls, bx => ((choF a t).flatMap fun c => if freeF c.2 bx then (comps t ls (bx ++ [c.2])).map (fun q => (c.1 :: q.1, a.g + q.2)) else []) ++ (comps t ls bx).map fun q => (-1 :: q.1, q.2)
def updB (w : Int) (now : List Int) (s : List Int × Int) (q : List Int × Int) : List Int × Int := if w + q.2 > s.2 then (now ++ q.1, w + q.2) else s
/-- the weight of a placement -/
def okc (t : List BX) : List AK → List Int → List BX → Option Int
  | [], [], _ => some 0
  | a :: ls, p :: ps, bx => if p = -1 then okc t ls ps bx else if (boxF a p).2 = 0 ∧ freeF (boxF a p).1 t = true ∧ freeF (boxF a p).1 bx = true then (okc t ls ps (bx ++ [(boxF a p).1])).map (a.g + ·) else none
  | _, _, _ => none
theorem restF_nn : ∀ {ls : List AK}, (∀ a ∈ ls, 0 ≤ a.g) → 0 ≤ restF ls
  | [], _ => Int.le_refl _
  | a :: ls, h => by
    have h1 := restF_nn (ls := ls) fun b hb => h b (.tail _ hb)
    have h2 := h a (.head _)
    show 0 ≤ (((a :: ls).map AK.g).sum : Int)
    rw [List.map_cons, List.sum_cons]
    unfold restF at h1
    omega
theorem restF_cons {a : AK} {ls : List AK} : restF (a :: ls) = a.g + restF ls := by unfold restF; rw [List.map_cons, List.sum_cons]
theorem comps_le (t : List BX) : ∀ {ls : List AK} {bx : List BX} {q : List Int × Int}, (∀ a ∈ ls, 0 ≤ a.g) → q ∈ comps t ls bx → q.2 ≤ restF ls
  | [], bx, q, _, hq => by
    simp only [comps, List.mem_cons, List.not_mem_nil, or_false] at hq
    subst hq
    exact Int.le_refl _
  | a :: ls, bx, q, h, hq => by
    have h2 := h a (.head _)
    rw [restF_cons]
    unfold comps at hq
    rcases List.mem_append.1 hq with hq | hq
    · obtain ⟨c, hc, hq⟩ := List.mem_flatMap.1 hq
      split at hq
      · obtain ⟨q', hq', rfl⟩ := List.mem_map.1 hq
        have := comps_le t (fun b hb => h b (.tail _ hb)) hq'
        dsimp only
        omega
      · cases hq
    · obtain ⟨q', hq', rfl⟩ := List.mem_map.1 hq
      have := comps_le t (fun b hb => h b (.tail _ hb)) hq'
      dsimp only
      omega
theorem fold_keep {w : Int} {now : List Int} : ∀ {qs : List (List Int × Int)} {s : List Int × Int}, (∀ q ∈ qs, w + q.2 ≤ s.2) → qs.foldl (updB w now) s = s
  | [], _, _ => rfl
  | q :: qs, s, h => by
    have h1 := h q (.head _)
    rw [List.foldl_cons, show updB w now s q = s from if_neg (by omega)]
    exact fold_keep fun q hq => h q (.tail _ hq)
theorem fold_map {w g : Int} {now : List Int} {p : Int} : ∀ (qs : List (List Int × Int)) (s : List Int × Int), (qs.map fun q => (p :: q.1, g + q.2)).foldl (updB w now) s = qs.foldl (updB (w + g) (now ++ [p])) s
  | [], _ => rfl
  | q :: qs, s => by
    rw [List.map_cons, List.foldl_cons, List.foldl_cons]
    have : updB w now s (p :: q.1, g + q.2) = updB (w + g) (now ++ [p]) s q := by
      unfold updB
      simp only [List.append_assoc, List.singleton_append, Int.add_assoc]
    rw [this]
    exact fold_map qs _
theorem enterR_fold (t : List BX) : ∀ (ls : List AK) (w : Int) (now : List Int) (bx : List BX) (s : SrS), (∀ a ∈ ls, 0 ≤ a.g) →
    ((enterR t ls w now bx s).best, (enterR t ls w now bx s).most) = (comps t ls bx).foldl (updB w now) (s.best, s.most)
  | [], w, now, bx, s, h => by
    unfold enterR comps
    rw [List.foldl_cons, List.foldl_nil]
    unfold updB
    simp only [Int.add_zero, List.append_nil]
    split <;> rfl
  | a :: ls, w, now, bx, s, h => by
    have h' : ∀ b ∈ ls, 0 ≤ b.g := fun b hb => h b (.tail _ hb)
    unfold enterR
    by_cases hp : w + restF (a :: ls) ≤ s.most
    · rw [if_pos hp, fold_keep fun q hq => ?_]
      have := comps_le t h hq
      dsimp only
      omega
    rw [if_neg hp]
    unfold comps
    rw [enterR_fold t ls w (now ++ [-1]) bx _ h', List.foldl_append]
    have e0 : ∀ (qs : List (List Int × Int)) (s : List Int × Int), (qs.map fun q => ((-1 : Int) :: q.1, q.2)).foldl (updB w now) s = qs.foldl (updB w (now ++ [-1])) s := by
      intro qs s
      have := fold_map (w := w) (g := 0) (now := now) (p := -1) qs s
      simp only [Int.zero_add, Int.add_zero] at this
      exact this
    rw [e0]
    congr 1
    have key : ∀ (cs : List (Int × BX)) (s : SrS), ((cs.foldl (fun s c => if freeF c.2 bx then enterR t ls (w + a.g) (now ++ [c.1]) (bx ++ [c.2]) s else s) s).best, (cs.foldl (fun s c => if freeF c.2 bx then enterR t ls (w + a.g) (now ++ [c.1]) (bx ++ [c.2]) s else s) s).most) =
        (cs.flatMap fun c => if freeF c.2 bx then (comps t ls (bx ++ [c.2])).map (fun q => (c.1 :: q.1, a.g + q.2)) else []).foldl (updB w now) (s.best, s.most) := by
      intro cs
      induction cs with
      | nil => intro s; rfl
      | cons c cs ih =>
        intro s
        rw [List.foldl_cons, List.flatMap_cons, List.foldl_append, ih]
        congr 1
        by_cases hf : freeF c.2 bx = true
        · rw [if_pos hf, if_pos hf, fold_map, ← enterR_fold t ls (w + a.g) (now ++ [c.1]) (bx ++ [c.2]) s h']
        · rw [if_neg hf, if_neg hf]
          rfl
    exact key _ _
/-- the first greatest -/
theorem first_max : ∀ (qs : List (List Int × Int)) (s : List Int × Int), (qs.foldl (updB 0 []) s = s ∧ ∀ q ∈ qs, q.2 ≤ s.2) ∨
    ∃ pre post, qs = pre ++ qs.foldl (updB 0 []) s :: post ∧ (∀ q ∈ pre, q.2 < (qs.foldl (updB 0 []) s).2) ∧ (∀ q ∈ post, q.2 ≤ (qs.foldl (updB 0 []) s).2) ∧ s.2 < (qs.foldl (updB 0 []) s).2
  | [], s => .inl ⟨rfl, fun _ h => (by cases h)⟩
  | q :: qs, s => by
    rw [List.foldl_cons]
    by_cases h : q.2 > s.2
    · have hu : updB 0 [] s q = q := by
        unfold updB
        rw [Int.zero_add, if_pos h, List.nil_append]
      rw [hu]
      rcases first_max qs q with ⟨h1, h2⟩ | ⟨pre, post, h1, h2, h3, h4⟩
      · right
        rw [h1]
        exact ⟨[], qs, rfl, (fun _ h => (by cases h)), h2, h⟩
      · right
        refine ⟨q :: pre, post, ?_, ?_, h3, by omega⟩
        · rw [List.cons_append, ← h1]
        · intro x hx
          rcases List.mem_cons.1 hx with rfl | hx
          · exact h4
          · exact h2 x hx
    · have hu : updB 0 [] s q = s := by
        unfold updB
        rw [Int.zero_add, if_neg h]
      rw [hu]
      rcases first_max qs s with ⟨h1, h2⟩ | ⟨pre, post, h1, h2, h3, h4⟩
      · left
        refine ⟨h1, fun x hx => ?_⟩
        rcases List.mem_cons.1 hx with rfl | hx
        · omega
        · exact h2 x hx
      · right
        refine ⟨q :: pre, post, ?_, ?_, h3, h4⟩
        · rw [List.cons_append, ← h1]
        · intro x hx
          rcases List.mem_cons.1 hx with rfl | hx
          · omega
          · exact h2 x hx
theorem mem_cho {a : AK} {t : List BX} {c : Int × BX} : c ∈ choF a t ↔ (0 ≤ c.1 ∧ c.1 ≤ 3) ∧ c.2 = (boxF a c.1).1 ∧ (boxF a c.1).2 = 0 ∧ freeF (boxF a c.1).1 t = true := by
  unfold choF
  rw [List.mem_filterMap]
  constructor
  · rintro ⟨p, hp, h⟩
    split at h
    · rename_i hc
      have := Option.some.inj h
      subst this
      simp only [List.mem_cons, List.not_mem_nil, or_false] at hp
      exact ⟨by dsimp only; omega, rfl, hc⟩
    · cases h
  · rintro ⟨hp, hb, h1, h2⟩
    refine ⟨c.1, ?_, ?_⟩
    · simp only [List.mem_cons, List.not_mem_nil, or_false]
      omega
    · rw [if_pos ⟨h1, h2⟩, ← hb]
theorem boxF_in {a : AK} {p : Int} (h : (boxF a p).2 = 0) : 0 ≤ p ∧ p ≤ 3 := by
  unfold boxF at h
  split at h
  · rename_i hc; exact hc.2
  · cases h
theorem mem_comps (t : List BX) : ∀ {ls : List AK} {bx : List BX} {ps : List Int} {w : Int}, (ps, w) ∈ comps t ls bx ↔ okc t ls ps bx = some w
  | [], bx, [], w => by simp [comps, okc, eq_comm]
  | [], bx, p :: ps, w => by simp [comps, okc]
  | a :: ls, bx, [], w => by
    constructor
    · intro h
      unfold comps at h
      rcases List.mem_append.1 h with h | h
      · obtain ⟨c, _, h⟩ := List.mem_flatMap.1 h
        split at h
        · obtain ⟨q, _, h⟩ := List.mem_map.1 h
          cases h
        · cases h
      · obtain ⟨q, _, h⟩ := List.mem_map.1 h
        cases h
    · intro h
      simp [okc] at h
  | a :: ls, bx, p :: ps, w => by
    unfold comps okc
    rw [List.mem_append]
    constructor
    · rintro (h | h)
      · obtain ⟨c, hc, h⟩ := List.mem_flatMap.1 h
        obtain ⟨hc0, hc1, hc2⟩ := mem_cho.1 hc
        split at h
        · rename_i hf
          obtain ⟨q, hq, e⟩ := List.mem_map.1 h
          injection e with e1 e2
          injection e1 with e1 e3
          subst e1 e2 e3
          rw [if_neg (by omega), if_pos ⟨hc2.1, hc2.2, by rw [← hc1]; exact hf⟩, ← hc1, (mem_comps t (ls := ls) (bx := bx ++ [c.2]) (ps := q.1) (w := q.2)).1 hq]
          rfl
        · cases h
      · obtain ⟨q, hq, e⟩ := List.mem_map.1 h
        injection e with e1 e2
        injection e1 with e1 e3
        subst e1 e2 e3
        rw [if_pos rfl]
        exact (mem_comps t (ls := ls) (bx := bx) (ps := q.1) (w := q.2)).1 hq
    · intro h
      by_cases hp : p = -1
      · right
        rw [if_pos hp] at h
        exact List.mem_map.2 ⟨(ps, w), (mem_comps t).2 h, by rw [hp]⟩
      · left
        rw [if_neg hp] at h
        split at h
        · rename_i hc
          obtain ⟨w', hw', e⟩ := Option.map_eq_some_iff.1 h
          refine List.mem_flatMap.2 ⟨(p, (boxF a p).1), mem_cho.2 ⟨boxF_in hc.1, rfl, hc.1, hc.2.1⟩, ?_⟩
          dsimp only
          rw [if_pos hc.2.2]
          exact List.mem_map.2 ⟨(ps, w'), (mem_comps t).2 hw', by rw [← e]⟩
        · cases h
theorem okc_len (t : List BX) : ∀ {ls : List AK} {bx : List BX} {ps : List Int} {w : Int}, okc t ls ps bx = some w → ps.length = ls.length ∧ ∀ p ∈ ps, -1 ≤ p ∧ p ≤ 3
  | [], bx, [], w, _ => ⟨rfl, fun _ h => (by cases h)⟩
  | [], bx, p :: ps, w, h => by simp [okc] at h
  | a :: ls, bx, [], w, h => by simp [okc] at h
  | a :: ls, bx, p :: ps, w, h => by
    unfold okc at h
    have fin : (ps.length = ls.length ∧ ∀ p ∈ ps, -1 ≤ p ∧ p ≤ 3) → (-1 ≤ p ∧ p ≤ 3) → (p :: ps).length = (a :: ls).length ∧ ∀ q ∈ p :: ps, -1 ≤ q ∧ q ≤ 3 := fun h1 h2 => ⟨by rw [List.length_cons, List.length_cons, h1.1], fun q hq => by
      rcases List.mem_cons.1 hq with rfl | hq
      · exact h2
      · exact h1.2 q hq⟩
    by_cases hp : p = -1
    · rw [if_pos hp] at h
      exact fin (okc_len t h) (by omega)
    · rw [if_neg hp] at h
      split at h
      · rename_i hc
        obtain ⟨w', hw', e⟩ := Option.map_eq_some_iff.1 h
        have := boxF_in hc.1
        exact fin (okc_len t hw') (by omega)
      · cases h
/-- what Place returns, when the fuel lasts -/
def bestF (l : List AK) (t : List BX) : List Int × Int := (comps t l []).foldl (updB 0 []) ([], -1)
theorem okc_none (t : List BX) : ∀ (ls : List AK) (bx : List BX), okc t ls (ls.map fun _ => (-1 : Int)) bx = some 0
  | [], _ => rfl
  | a :: ls, bx => by
    show (if (-1 : Int) = -1 then _ else _) = _
    rw [if_pos rfl]
    exact okc_none t ls bx
theorem best_split (l : List AK) (t : List BX) : ∃ pre post, comps t l [] = pre ++ bestF l t :: post ∧ (∀ q ∈ pre, q.2 < (bestF l t).2) ∧ (∀ q ∈ post, q.2 ≤ (bestF l t).2) := by
  rcases first_max (comps t l []) ([], -1) with ⟨h1, h2⟩ | ⟨pre, post, h1, h2, h3, h4⟩
  · have := h2 _ ((mem_comps t).2 (okc_none t l []))
    dsimp only at this
    omega
  · exact ⟨pre, post, h1, h2, h3⟩
theorem best_ok (l : List AK) (t : List BX) : okc t l (bestF l t).1 [] = some (bestF l t).2 := by
  obtain ⟨pre, post, h1, _, _⟩ := best_split l t
  exact (mem_comps t).1 (by rw [h1]; exact List.mem_append_right _ (.head _))
theorem best_max {l : List AK} {t : List BX} {ps : List Int} {w : Int} (h : okc t l ps [] = some w) : w ≤ (bestF l t).2 := by
  obtain ⟨pre, post, h1, h2, h3⟩ := best_split l t
  have := (mem_comps t).2 h
  rw [h1] at this
  rcases List.mem_append.1 this with h | h
  · have := h2 _ h
    dsimp only at this
    omega
  · rcases List.mem_cons.1 h with h | h
    · rw [← h]; exact Int.le_refl _
    · exact h3 _ h
theorem enterR_best (l : List AK) (t : List BX) (h : ∀ a ∈ l, 0 ≤ a.g) : ((enterR t l 0 [] [] ⟨[], -1, 0⟩).best, (enterR t l 0 [] [] ⟨[], -1, 0⟩).most) = bestF l t := enterR_fold t l 0 [] [] _ h
/-- how many steps there are at most -/
def stepsB : Nat → Nat
  | 0 => 0
  | n + 1 => 1 + 5 * stepsB n
theorem cho_len (a : AK) (t : List BX) : (choF a t).length ≤ 4 := by
  unfold choF
  exact List.length_filterMap_le _ _
theorem enterR_steps (t : List BX) : ∀ (ls : List AK) (w : Int) (now : List Int) (bx : List BX) (s : SrS), (enterR t ls w now bx s).steps ≤ s.steps + stepsB ls.length
  | [], w, now, bx, s => by
    unfold enterR
    split <;> exact Nat.le_refl _
  | a :: ls, w, now, bx, s => by
    unfold enterR
    rw [List.length_cons]
    show _ ≤ s.steps + (1 + 5 * stepsB ls.length)
    split
    · show s.steps + 1 ≤ _
      omega
    have key : ∀ (cs : List (Int × BX)) (s : SrS), (cs.foldl (fun s c => if freeF c.2 bx then enterR t ls (w + a.g) (now ++ [c.1]) (bx ++ [c.2]) s else s) s).steps ≤ s.steps + cs.length * stepsB ls.length := by
      intro cs
      induction cs with
      | nil => intro s; simp
      | cons c cs ih =>
        intro s
        rw [List.foldl_cons, List.length_cons, Nat.succ_mul]
        refine Nat.le_trans (ih _) ?_
        split
        · have := enterR_steps t ls (w + a.g) (now ++ [c.1]) (bx ++ [c.2]) s
          omega
        · omega
    have h1 := key (choF a t) ⟨s.best, s.most, s.steps + 1⟩
    have h2 := enterR_steps t ls w (now ++ [-1]) bx ((choF a t).foldl (fun s c => if freeF c.2 bx then enterR t ls (w + a.g) (now ++ [c.1]) (bx ++ [c.2]) s else s) ⟨s.best, s.most, s.steps + 1⟩)
    have h3 := Nat.mul_le_mul_right (stepsB ls.length) (cho_len a t)
    dsimp only at h1
    omega
/-- before -/
def bfF : List Int → List Int → Bool
  | x :: a, y :: b => if x ≠ y then decide (y < 0 ∨ (0 ≤ x ∧ x < y)) else bfF a b
  | _, _ => false
theorem bfF_refl : ∀ a : List Int, bfF a a = false
  | [] => rfl
  | x :: a => by
    unfold bfF
    rw [if_neg (fun h => h rfl)]
    exact bfF_refl a
theorem cho_sorted (a : AK) (t : List BX) : (choF a t).Pairwise fun c d => c.1 < d.1 := by
  unfold choF
  rw [List.pairwise_filterMap]
  have : ([0, 1, 2, 3] : List Int).Pairwise (· < ·) := by decide
  refine this.imp ?_
  intro p q hpq b hb b' hb'
  split at hb <;> split at hb'
  · rw [← Option.some.inj hb, ← Option.some.inj hb']
    exact hpq
  · cases hb'
  · cases hb
  · cases hb
theorem comps_sorted (t : List BX) : ∀ (ls : List AK) (bx : List BX), (comps t ls bx).Pairwise fun q r => bfF r.1 q.1 = false
  | [], _ => by simp [comps]
  | a :: ls, bx => by
    unfold comps
    have hin : ∀ (p g : Int) (bx : List BX), ((comps t ls bx).map fun q => (p :: q.1, g + q.2)).Pairwise fun q r => bfF r.1 q.1 = false := by
      intro p g bx
      rw [List.pairwise_map]
      refine (comps_sorted t ls bx).imp ?_
      intro q r h
      show bfF (p :: r.1) (p :: q.1) = false
      unfold bfF
      rw [if_neg (fun h => h rfl)]
      exact h
    rw [List.pairwise_append]
    refine ⟨?_, ?_, ?_⟩
    · rw [List.pairwise_flatMap]
      refine ⟨fun c hc => ?_, (cho_sorted a t).imp_of_mem fun {c d} hc hd hcd x hx y hy => ?_⟩
      · split
        · exact hin _ _ _
        · exact .nil
      · have h1 := (mem_cho.1 hc).1
        have h2 := (mem_cho.1 hd).1
        split at hx <;> split at hy
        · obtain ⟨q, _, rfl⟩ := List.mem_map.1 hx
          obtain ⟨r, _, rfl⟩ := List.mem_map.1 hy
          show bfF (d.1 :: r.1) (c.1 :: q.1) = false
          unfold bfF
          rw [if_pos (by omega)]
          exact decide_eq_false (by omega)
        · cases hy
        · cases hx
        · cases hx
    · have := hin (-1) 0 bx
      simp only [Int.zero_add] at this
      exact this
    · intro x hx y hy
      obtain ⟨r, _, rfl⟩ := List.mem_map.1 hy
      obtain ⟨c, hc, hx⟩ := List.mem_flatMap.1 hx
      have h1 := (mem_cho.1 hc).1
      split at hx
      · obtain ⟨q, _, rfl⟩ := List.mem_map.1 hx
        show bfF (-1 :: r.1) (c.1 :: q.1) = false
        unfold bfF
        rw [if_pos (by omega)]
        exact decide_eq_false (by omega)
      · cases hx
theorem best_first {l : List AK} {t : List BX} {ps : List Int} (h : okc t l ps [] = some (bestF l t).2) : bfF ps (bestF l t).1 = false := by
  obtain ⟨pre, post, h1, h2, h3⟩ := best_split l t
  have hm := (mem_comps t).2 h
  have hs := comps_sorted t l []
  rw [h1] at hm hs
  rcases List.mem_append.1 hm with h | h
  · have := h2 _ h
    dsimp only at this
    omega
  · rcases List.mem_cons.1 h with h | h
    · rw [← h]; exact bfF_refl _
    · exact (List.pairwise_cons.1 (List.pairwise_append.1 hs).2.1).1 _ h
/-! ### one box more, one label less -/
theorem freeF_append {b : BX} {l k : List BX} : freeF b (l ++ k) = true ↔ freeF b l = true ∧ freeF b k = true := by
  unfold freeF
  rw [List.all_append, Bool.and_eq_true]
theorem okc_more (t m : List BX) : ∀ {ls : List AK} {ps : List Int} {bx : List BX} {w : Int}, okc (t ++ m) ls ps bx = some w → okc t ls ps bx = some w
  | [], [], bx, w, h => h
  | [], p :: ps, bx, w, h => by simp [okc] at h
  | a :: ls, [], bx, w, h => by simp [okc] at h
  | a :: ls, p :: ps, bx, w, h => by
    unfold okc at h ⊢
    by_cases hp : p = -1
    · rw [if_pos hp] at h ⊢
      exact okc_more t m h
    · rw [if_neg hp] at h ⊢
      split at h
      · rename_i hc
        rw [if_pos ⟨hc.1, (freeF_append.1 hc.2.1).1, hc.2.2⟩]
        obtain ⟨w', hw', e⟩ := Option.map_eq_some_iff.1 h
        rw [okc_more t m hw', ← e]
        rfl
      · cases h
theorem best_more (l : List AK) (t m : List BX) : (bestF l (t ++ m)).2 ≤ (bestF l t).2 := best_max (okc_more t m (best_ok l (t ++ m)))
theorem okc_ext (t : List BX) (b : AK) : ∀ {ls : List AK} {ps : List Int} {bx : List BX} {w : Int}, okc t ls ps bx = some w → okc t (ls ++ [b]) (ps ++ [-1]) bx = some w
  | [], [], bx, w, h => by
    show (if (-1 : Int) = -1 then _ else _) = _
    rw [if_pos rfl]
    exact h
  | [], p :: ps, bx, w, h => by simp [okc] at h
  | a :: ls, [], bx, w, h => by simp [okc] at h
  | a :: ls, p :: ps, bx, w, h => by
    rw [List.cons_append, List.cons_append]
    unfold okc at h ⊢
    by_cases hp : p = -1
    · rw [if_pos hp] at h ⊢
      exact okc_ext t b h
    · rw [if_neg hp] at h ⊢
      split at h
      · rename_i hc
        rw [if_pos hc]
        obtain ⟨w', hw', e⟩ := Option.map_eq_some_iff.1 h
        rw [okc_ext t b hw', ← e]
        rfl
      · cases h
theorem okc_cut (t : List BX) (b : AK) (hb : 0 ≤ b.g) : ∀ {ls : List AK} {ps : List Int} {bx : List BX} {w : Int}, okc t (ls ++ [b]) ps bx = some w → ∃ ps' w', okc t ls ps' bx = some w' ∧ w ≤ w' + b.g
  | [], [], bx, w, h => by simp [okc] at h
  | [], p :: ps, bx, w, h => by
    refine ⟨[], 0, rfl, ?_⟩
    rw [List.nil_append] at h
    unfold okc at h
    have h0 : ∀ {bx : List BX} {w : Int}, okc t [] ps bx = some w → w = 0 := by
      intro bx w h
      cases ps with
      | nil => simp only [okc, Option.some.injEq] at h; exact h.symm
      | cons p ps => simp [okc] at h
    by_cases hp : p = -1
    · rw [if_pos hp] at h
      have := h0 h
      omega
    · rw [if_neg hp] at h
      split at h
      · obtain ⟨w', hw', e⟩ := Option.map_eq_some_iff.1 h
        have := h0 hw'
        omega
      · cases h
  | a :: ls, [], bx, w, h => by simp [okc] at h
  | a :: ls, p :: ps, bx, w, h => by
    rw [List.cons_append] at h
    unfold okc at h
    by_cases hp : p = -1
    · rw [if_pos hp] at h
      obtain ⟨ps', w', h1, h2⟩ := okc_cut t b hb h
      refine ⟨-1 :: ps', w', ?_, h2⟩
      unfold okc
      rw [if_pos rfl]
      exact h1
    · rw [if_neg hp] at h
      split at h
      · rename_i hc
        obtain ⟨w1, hw1, e⟩ := Option.map_eq_some_iff.1 h
        obtain ⟨ps', w', h1, h2⟩ := okc_cut t b hb hw1
        refine ⟨p :: ps', a.g + w', ?_, by omega⟩
        unfold okc
        rw [if_neg hp, if_pos hc, h1]
        rfl
      · cases h
theorem best_less {l : List AK} {b : AK} {t : List BX} (hb : 0 ≤ b.g) : (bestF l t).2 ≤ (bestF (l ++ [b]) t).2 ∧ (bestF (l ++ [b]) t).2 ≤ (bestF l t).2 + b.g := by
  refine ⟨best_max (okc_ext t b (best_ok l t)), ?_⟩
  obtain ⟨ps', w', h1, h2⟩ := okc_cut t b hb (best_ok (l ++ [b]) t)
  have := best_max h1
  omega
theorem best_nil (t : List BX) : (bestF [] t).2 = 0 := rfl
end Go.Proofs.Yteeapkfakehocaa
namespace Go.Proofs.Yteeapkfakehocaa
open Go Go.RowKit
set_option linter.unusedVariables false
set_option linter.unusedSimpArgs false
section
variable {P : Program} {W0 w : World} {L L' S : List HP} {ops : Array Oper} {o : Oper} {a a' : Act} {Q : Exit → Act → World → Prop}
theorem Oper.wp_convN {K K' : Act → World → Prop} {Q Q' : Exit → Act → World → Prop} (hK : ∀ a w, K a w → K' a w) (hQ : ∀ e a w, e ≠ .normal → Q e a w → Q' e a w) (h : o.wp P a w K Q) : o.wp P a w K' Q' := by
  unfold Oper.wp at *
  generalize (execOp a.eval o).run P w = r at *
  cases r with
  | ok n w' =>
    cases n <;> simp only [Oper.upon] at h ⊢
    case value v => exact hK _ _ h
    case skip => exact hK _ _ h
    case defer d => exact hK _ _ h
    case enter f args =>
      exact Calls.mono h fun e w'' he => by
        cases e with
        | returned v => exact hK _ _ he
        | panicked c => exact hQ _ _ _ (by simp) he
        | outgrown => exact let ⟨a, w, hq⟩ := he; ⟨a, w, hQ _ _ _ (by simp) hq⟩
    case row r args => exact Rows.mono h fun v w'' he => hK _ _ he
  | halt x w' => cases x <;> simp only [Oper.upon] at h ⊢; exact hQ _ _ _ (by simp) h
theorem QN_off {K : Act → World → Prop} {e : Exit} (he : e ≠ .normal) {a : Act} {w : World} : ¬ QN K e a w := by
  cases e <;> first | exact absurd rfl he | exact fun h => h
theorem wpOp_QN {K K1 K2 : Act → World → Prop} {i : Nat} (h : wpOp P ops (QN K1) i K a w) : wpOp P ops (QN K2) i K a w := by
  unfold wpOp at *
  split
  · simpa [*] using h
  · rename_i o ho
    simp only [ho] at h
    split
    · rename_i hw
      simp only [hw, if_true] at h
      rcases h with h | ⟨_, a1, w1, hq⟩
      · exact .inl (Oper.wp_convN (fun _ _ h => h) (fun e a w he hq => absurd hq (QN_off he)) h)
      · exact absurd hq (QN_off (by simp))
    · rename_i hw
      simp only [hw] at h
      exact h
/-- a plan with ways -/
inductive PT where
  | leaf (pl : List (Nat × Nat)) : PT
  | two (pl : List (Nat × Nat)) (i : Nat) (t1 : PT) (j : Nat) (t2 : PT) : PT
def PT.len : PT → Nat
  | .leaf pl => pl.length
  | .two pl _ t1 _ _ => pl.length + (1 + t1.len)
def planC (md : Region.Mode) (ops : Array Oper) (n : Nat) (fin : Array Bool → Bool) : List (Nat × Nat) → Array Bool → Bool
  | [], listed => fin listed
  | (i, 0) :: r, listed => decide (Region.ready md ops listed = [i]) && planC md ops n fin r (listed.setIfInBounds i true)
  | (i, m + 1) :: r, listed => (Region.ready md ops listed).contains i && Region.free md ops listed i && decide (i ≠ n) && (decide (0 < m) || waitsT md ops ops.size n i || decide (ops.size ≤ n)) && planC md ops n fin r (listed.setIfInBounds i true)
def planT (md : Region.Mode) (ops : Array Oper) (n : Nat) : PT → Array Bool → Bool
  | .leaf pl, listed => planB md ops n pl listed
  | .two pl i t1 j t2, listed => planC md ops n (fun l => decide (Region.ready md ops l = [i, j]) && decide (t1.len = t2.len) && planT md ops n t1 (l.setIfInBounds i true) && planT md ops n t2 (l.setIfInBounds j true)) pl listed
def wpT (P : Program) (ops : Array Oper) (K : Act → World → Prop) (S : World → Prop) (n : Nat) : PT → Act → World → Prop
  | .leaf pl, a, w => wpPl P ops K S n false pl a w
  | .two pl i t1 j t2, a, w => wpPl P ops (fun a w => wpPl P ops (wpT P ops K S n t1) S n false [(i, 0)] a w ∧ wpPl P ops (wpT P ops K S n t2) S n false [(j, 0)] a w) S n false pl a w
theorem wpAnyB_planC {md : Region.Mode} {K K0 : Act → World → Prop} {S : World → Prop} {n f : Nat} {fin : Array Bool → Bool} (hsel : Region.noSelect ops = true) (hn : ops.size ≤ n)
    (hfin : ∀ listed a w, Inv md ops listed → fin listed = true → S w → K a w → wpAnyB P md ops (QN K0) S n f listed a w) : ∀ (pl : List (Nat × Nat)) (listed : Array Bool) (a : Act) (w : World), Inv md ops listed →
    planC md ops n fin pl listed = true → S w → wpPl P ops K S n false pl a w → wpAnyB P md ops (QN K0) S n (pl.length + f) listed a w
  | [], listed, a, w, inv, hB, hS, h => by
    rw [List.length_nil, Nat.zero_add]
    exact hfin listed a w inv hB hS h
  | (i, 0) :: r, listed, a, w, inv, hB, hS, h => by
    simp only [planC, Bool.and_eq_true, decide_eq_true_eq] at hB
    have e : ((i, 0) :: r).length + f = (r.length + f) + 1 := by simp only [List.length_cons]; omega
    rw [e]
    refine ⟨fun h0 => (by rw [h0] at hB; cases hB.1), fun j hj => ?_⟩
    have hji : j = i := by rw [hB.1] at hj; simpa using hj
    subst hji
    have hin : j < ops.size := let ⟨_, o, ho, _⟩ := mem_ready.1 hj; (Array.getElem?_eq_some_iff.1 ho).1
    have hjn : (j == n) = false := by simp; omega
    refine wpOp_QN (wpOp_mono (fun a' w' h' => ?_) h)
    obtain ⟨h1, h2⟩ := h'
    simp only [hjn, Bool.or_self] at h1 h2
    exact ⟨fun _ => h1 trivial, wpAnyB_planC hsel hn hfin r _ a' w' (inv.set hj) hB.2 (h1 trivial) h2⟩
  | (i, 1) :: r, listed, a, w, inv, hB, hS, h => by
    simp only [planC, Bool.and_eq_true, Bool.or_eq_true, decide_eq_true_eq] at hB
    obtain ⟨⟨⟨⟨hr, hf⟩, hne⟩, hT⟩, hB'⟩ := hB
    obtain ⟨o, v, hi, hy, h'⟩ := h
    have hr' : i ∈ Region.ready md ops listed := by simpa using hr
    have e : ((i, 1) :: r).length + f = (r.length + f) + 1 := by simp only [List.length_cons]; omega
    rw [e]
    exact wpAnyB_first (T := S) hi (Region.noSelect_spec hsel) (fun _ _ _ h => h.elim) hne (.inl ⟨rfl, .inr hn⟩) (r.length + f) listed a w inv (Region.free_spec hi hf) hr' hy (fun _ => hS) (wpAnyB_planC hsel hn hfin r _ _ w (inv.set hr') hB' hS h')
  | (i, m + 2) :: r, listed, a, w, inv, hB, hS, h => by
    simp only [planC, Bool.and_eq_true, Bool.or_eq_true, decide_eq_true_eq] at hB
    obtain ⟨⟨⟨⟨hr, hf⟩, hne⟩, hT⟩, hB'⟩ := hB
    obtain ⟨o, v, hi, hy, h'⟩ := h
    have hr' : i ∈ Region.ready md ops listed := by simpa using hr
    have e : ((i, m + 2) :: r).length + f = (r.length + f) + 1 := by simp only [List.length_cons]; omega
    rw [e]
    exact wpAnyB_first (T := fun _ => True) hi (Region.noSelect_spec hsel) (fun _ _ _ h => h.elim) hne (.inr rfl) (r.length + f) listed a w inv (Region.free_spec hi hf) hr' hy (fun _ => hS) (wpAnyB_planC hsel hn hfin r _ _ w (inv.set hr') hB' hS h')
theorem wpAnyB_planT {md : Region.Mode} {K : Act → World → Prop} {S : World → Prop} {n : Nat} (hsel : Region.noSelect ops = true) (hn : ops.size ≤ n) : ∀ (t : PT) (listed : Array Bool) (a : Act) (w : World), Inv md ops listed →
    planT md ops n t listed = true → S w → wpT P ops K S n t a w → wpAnyB P md ops (QN K) S n t.len listed a w
  | .leaf pl, listed, a, w, inv, hB, hS, h => by
    have hl : listed.getD n false = false := by
      have : ¬ n < listed.size := by rw [inv.size]; omega
      simp [this]
    exact wpAnyB_plan hsel pl listed a w false inv hB hl (fun _ => hS) h
  | .two pl i t1 j t2, listed, a, w, inv, hB, hS, h => by
    refine wpAnyB_planC (f := 1 + t1.len) hsel hn ?_ pl listed a w inv hB hS h
    intro listed a w inv hfin hS ⟨h1, h2⟩
    simp only [Bool.and_eq_true, decide_eq_true_eq] at hfin
    obtain ⟨⟨⟨hr, hlen⟩, hB1⟩, hB2⟩ := hfin
    rw [Nat.add_comm]
    refine ⟨fun h0 => (by rw [h0] at hr; cases hr), fun k hk => ?_⟩
    have hin : k < ops.size := let ⟨_, o, ho, _⟩ := mem_ready.1 hk; (Array.getElem?_eq_some_iff.1 ho).1
    have hkn : (k == n) = false := by simp; omega
    have hk2 := hk
    rw [hr] at hk2
    simp only [List.mem_cons, List.not_mem_nil, or_false] at hk2
    rcases hk2 with rfl | rfl
    · refine wpOp_QN (wpOp_mono (fun a' w' h' => ?_) h1)
      obtain ⟨g1, g2⟩ := h'
      simp only [hkn, Bool.or_self] at g1 g2
      exact ⟨fun _ => g1 trivial, wpAnyB_planT hsel hn t1 _ a' w' (inv.set hk) hB1 (g1 trivial) g2⟩
    · refine wpOp_QN (wpOp_mono (fun a' w' h' => ?_) h2)
      obtain ⟨g1, g2⟩ := h'
      simp only [hkn, Bool.or_self] at g1 g2
      rw [hlen]
      exact ⟨fun _ => g1 trivial, wpAnyB_planT hsel hn t2 _ a' w' (inv.set hk) hB2 (g1 trivial) g2⟩
/-- the walk of a plan with ways -/
structure DT (P : Program) (W0 : World) (S : List HP) (n : Nat) (l : List Oper) (Q : Exit → Act → World → Prop) (t : PT) (L : List HP) (a : Act) : Prop where
  run : ∀ w, St W0 w L → wpT P l.toArray (fun a w => Q .normal a w) (fun w => St W0 w S) n t a w
theorem C_drawT {id n : Nat} {l : List Oper} (S : List HP) (t : PT) (hm : P.follows .mixedOrders = true)
    (hB : (Region.noSelect l.toArray && decide (t.len = l.length) && decide (l.length ≤ n) && planT .any l.toArray n t (Array.replicate l.toArray.size false)) = true) (hS : Sub L S) (h : DT P W0 S n l Q t L a) : CL P W0 L (.region id l.toArray true) Q a := by
  refine ⟨fun w s => ?_⟩
  simp only [Bool.and_eq_true, decide_eq_true_eq] at hB
  obtain ⟨⟨⟨h1, h2⟩, hnl⟩, h3⟩ := hB
  refine Code.wp_mono (Q := QN fun a w => Q .normal a w) (fun e a w he => ?_) (wp_region_any hm ?_)
  · cases e <;> first | exact he | exact he.elim
  · have inv : Inv .any l.toArray (Array.replicate l.toArray.size false) := ⟨by simp, fun j oj _ hl => by
      exfalso
      by_cases hj : j < l.toArray.size
      · simp at hl; rename_i x; simp at hj; simp [hj] at hl
      · simp at hl; simp at hj; have : ¬ j < l.length := by omega
        simp [this] at hl⟩
    have s' : St W0 w.drew L := s.drew
    have := wpAnyB_planT (P := P) (K := fun a w => Q .normal a w) (S := fun w => St W0 w S) h1 (by simpa using hnl) t _ a w.drew inv h3 (hS.st s') (h.run _ s')
    rw [h2] at this
    exact wpAny_of_B _ _ _ _ (by simpa using this)
theorem DT_leaf {n : Nat} {l : List Oper} {pl : List (Nat × Nat)} (k : DL P W0 S n l Q false pl L a) : DT P W0 S n l Q (.leaf pl) L a := ⟨k.run⟩
/-- where two ways part -/
def QB (P : Program) (W0 : World) (S : List HP) (n : Nat) (l : List Oper) (Q : Exit → Act → World → Prop) (i : Nat) (t1 : PT) (j : Nat) (t2 : PT) : Exit → Act → World → Prop :=
  QN fun a w => wpPl P l.toArray (wpT P l.toArray (fun a w => Q .normal a w) (fun w => St W0 w S) n t1) (fun w => St W0 w S) n false [(i, 0)] a w ∧ wpPl P l.toArray (wpT P l.toArray (fun a w => Q .normal a w) (fun w => St W0 w S) n t2) (fun w => St W0 w S) n false [(j, 0)] a w
/-- where a way goes on -/
def QD (P : Program) (W0 : World) (S : List HP) (n : Nat) (l : List Oper) (Q : Exit → Act → World → Prop) (t : PT) : Exit → Act → World → Prop :=
  QN (wpT P l.toArray (fun a w => Q .normal a w) (fun w => St W0 w S) n t)
theorem DT_two {n : Nat} {l : List Oper} {pl : List (Nat × Nat)} {i j : Nat} {t1 t2 : PT} (k : DL P W0 S n l (QB P W0 S n l Q i t1 j t2) false pl L a) : DT P W0 S n l Q (.two pl i t1 j t2) L a := ⟨k.run⟩
theorem E_two {n : Nat} {l : List Oper} {i j : Nat} {t1 t2 : PT} (k1 : DL P W0 S n l (QD P W0 S n l Q t1) false [(i, 0)] L a) (k2 : DL P W0 S n l (QD P W0 S n l Q t2) false [(j, 0)] L a) : EL W0 L (QB P W0 S n l Q i t1 j t2) .normal a :=
  ⟨fun w s => ⟨k1.run w s, k2.run w s⟩⟩
theorem E_way {n : Nat} {l : List Oper} {t : PT} (k : DT P W0 S n l Q t L a) : EL W0 L (QD P W0 S n l Q t) .normal a := ⟨k.run⟩
end
end Go.Proofs.Yteeapkfakehocaa
namespace Go.Proofs.Yteeapkfakehocaa
open Go Go.RowKit
set_option linter.unusedVariables false
set_option linter.unusedSimpArgs false
section
variable {P : Program} {W0 w : World} {L L' S : List HP} {ops : Array Oper} {o : Oper} {a a' : Act} {Q : Exit → Act → World → Prop}
def planC2 (md : Region.Mode) (ops : Array Oper) (n : Nat) (fin : Array Bool → Bool) : List (Nat × Nat) → Array Bool → Bool
  | [], listed => fin listed
  | (i, 0) :: r, listed => decide (Region.ready md ops listed = [i]) && decide (i ≠ n) && planC2 md ops n fin r (listed.setIfInBounds i true)
  | (i, m + 1) :: r, listed => (Region.ready md ops listed).contains i && Region.free md ops listed i && decide (i ≠ n) && (decide (0 < m) || waitsT md ops ops.size n i || decide (ops.size ≤ n)) && planC2 md ops n fin r (listed.setIfInBounds i true)
def planT2 (md : Region.Mode) (ops : Array Oper) (n : Nat) : PT → Array Bool → Bool
  | .leaf pl, listed => planB md ops n pl listed
  | .two pl i t1 j t2, listed => planC2 md ops n (fun l => decide (Region.ready md ops l = [i, j]) && decide (t1.len = t2.len) && decide (i ≠ n) && decide (j ≠ n) && planT2 md ops n t1 (l.setIfInBounds i true) && planT2 md ops n t2 (l.setIfInBounds j true)) pl listed
theorem wpAnyB_planC2 {md : Region.Mode} {K K0 : Act → World → Prop} {S : World → Prop} {n f : Nat} {fin : Array Bool → Bool} (hsel : Region.noSelect ops = true)
    (hfin : ∀ listed a w, Inv md ops listed → listed.getD n false = false → fin listed = true → S w → K a w → wpAnyB P md ops (QN K0) S n f listed a w) : ∀ (pl : List (Nat × Nat)) (listed : Array Bool) (a : Act) (w : World), Inv md ops listed → listed.getD n false = false →
    planC2 md ops n fin pl listed = true → S w → wpPl P ops K S n false pl a w → wpAnyB P md ops (QN K0) S n (pl.length + f) listed a w
  | [], listed, a, w, inv, hl, hB, hS, h => by
    rw [List.length_nil, Nat.zero_add]
    exact hfin listed a w inv hl hB hS h
  | (i, 0) :: r, listed, a, w, inv, hl, hB, hS, h => by
    simp only [planC2, Bool.and_eq_true, decide_eq_true_eq] at hB
    have e : ((i, 0) :: r).length + f = (r.length + f) + 1 := by simp only [List.length_cons]; omega
    rw [e]
    refine ⟨fun h0 => (by rw [h0] at hB; cases hB.1.1), fun j hj => ?_⟩
    have hji : j = i := by rw [hB.1.1] at hj; simpa using hj
    subst hji
    have hjne : j ≠ n := hB.1.2
    have hjn : (j == n) = false := by simp [hjne]
    refine wpOp_QN (wpOp_mono (fun a' w' h' => ?_) h)
    obtain ⟨h1, h2⟩ := h'
    simp only [hjn, Bool.or_self] at h1 h2
    exact ⟨fun _ => h1 trivial, wpAnyB_planC2 hsel hfin r _ a' w' (inv.set hj) (by rw [getD_set_ne false hjne]; exact hl) hB.2 (h1 trivial) h2⟩
  | (i, 1) :: r, listed, a, w, inv, hl, hB, hS, h => by
    simp only [planC2, Bool.and_eq_true, Bool.or_eq_true, decide_eq_true_eq] at hB
    obtain ⟨⟨⟨⟨hr, hf⟩, hne⟩, hT⟩, hB'⟩ := hB
    obtain ⟨o, v, hi, hy, h'⟩ := h
    have hr' : i ∈ Region.ready md ops listed := by simpa using hr
    have e : ((i, 1) :: r).length + f = (r.length + f) + 1 := by simp only [List.length_cons]; omega
    rw [e]
    exact wpAnyB_first (T := S) hi (Region.noSelect_spec hsel) (fun _ _ _ h => h.elim) hne (.inl ⟨rfl, hT.elim (fun h => h.elim (fun h0 => absurd h0 (Nat.lt_irrefl _)) fun h1 => .inl ⟨_, h1⟩) .inr⟩) (r.length + f) listed a w inv (Region.free_spec hi hf) hr' hy (fun _ => hS) (wpAnyB_planC2 hsel hfin r _ _ w (inv.set hr') (by rw [getD_set_ne false hne]; exact hl) hB' hS h')
  | (i, m + 2) :: r, listed, a, w, inv, hl, hB, hS, h => by
    simp only [planC2, Bool.and_eq_true, Bool.or_eq_true, decide_eq_true_eq] at hB
    obtain ⟨⟨⟨⟨hr, hf⟩, hne⟩, hT⟩, hB'⟩ := hB
    obtain ⟨o, v, hi, hy, h'⟩ := h
    have hr' : i ∈ Region.ready md ops listed := by simpa using hr
    have e : ((i, m + 2) :: r).length + f = (r.length + f) + 1 := by simp only [List.length_cons]; omega
    rw [e]
    exact wpAnyB_first (T := fun _ => True) hi (Region.noSelect_spec hsel) (fun _ _ _ h => h.elim) hne (.inr rfl) (r.length + f) listed a w inv (Region.free_spec hi hf) hr' hy (fun _ => hS) (wpAnyB_planC2 hsel hfin r _ _ w (inv.set hr') (by rw [getD_set_ne false hne]; exact hl) hB' hS h')
theorem wpAnyB_planT2 {md : Region.Mode} {K : Act → World → Prop} {S : World → Prop} {n : Nat} (hsel : Region.noSelect ops = true) : ∀ (t : PT) (listed : Array Bool) (a : Act) (w : World), Inv md ops listed → listed.getD n false = false →
    planT2 md ops n t listed = true → S w → wpT P ops K S n t a w → wpAnyB P md ops (QN K) S n t.len listed a w
  | .leaf pl, listed, a, w, inv, hl, hB, hS, h => by
    exact wpAnyB_plan hsel pl listed a w false inv hB hl (fun _ => hS) h
  | .two pl i t1 j t2, listed, a, w, inv, hl, hB, hS, h => by
    refine wpAnyB_planC2 (f := 1 + t1.len) hsel ?_ pl listed a w inv hl hB hS h
    intro listed a w inv hl hfin hS ⟨h1, h2⟩
    simp only [Bool.and_eq_true, decide_eq_true_eq] at hfin
    obtain ⟨⟨⟨⟨⟨hr, hlen⟩, hin⟩, hjn0⟩, hB1⟩, hB2⟩ := hfin
    rw [Nat.add_comm]
    refine ⟨fun h0 => (by rw [h0] at hr; cases hr), fun k hk => ?_⟩
    have hk2 := hk
    rw [hr] at hk2
    simp only [List.mem_cons, List.not_mem_nil, or_false] at hk2
    rcases hk2 with rfl | rfl
    · refine wpOp_QN (wpOp_mono (fun a' w' h' => ?_) h1)
      obtain ⟨g1, g2⟩ := h'
      have hkn : (k == n) = false := by simp [hin]
      simp only [hkn, Bool.or_self] at g1 g2
      exact ⟨fun _ => g1 trivial, wpAnyB_planT2 hsel t1 _ a' w' (inv.set hk) (by rw [getD_set_ne false hin]; exact hl) hB1 (g1 trivial) g2⟩
    · refine wpOp_QN (wpOp_mono (fun a' w' h' => ?_) h2)
      obtain ⟨g1, g2⟩ := h'
      have hkn : (k == n) = false := by simp [hjn0]
      simp only [hkn, Bool.or_self] at g1 g2
      rw [hlen]
      exact ⟨fun _ => g1 trivial, wpAnyB_planT2 hsel t2 _ a' w' (inv.set hk) (by rw [getD_set_ne false hjn0]; exact hl) hB2 (g1 trivial) g2⟩
theorem C_drawU {id n : Nat} {l : List Oper} (S : List HP) (t : PT) (hm : P.follows .mixedOrders = true)
    (hB : (Region.noSelect l.toArray && decide (t.len = l.length) && planT2 .any l.toArray n t (Array.replicate l.toArray.size false)) = true) (hS : Sub L S) (h : DT P W0 S n l Q t L a) : CL P W0 L (.region id l.toArray true) Q a := by
  refine ⟨fun w s => ?_⟩
  simp only [Bool.and_eq_true, decide_eq_true_eq] at hB
  obtain ⟨⟨h1, h2⟩, h3⟩ := hB
  refine Code.wp_mono (Q := QN fun a w => Q .normal a w) (fun e a w he => ?_) (wp_region_any hm ?_)
  · cases e <;> first | exact he | exact he.elim
  · have inv : Inv .any l.toArray (Array.replicate l.toArray.size false) := ⟨by simp, fun j oj _ hl => by
      exfalso
      by_cases hj : j < l.toArray.size
      · simp at hl; rename_i x; simp at hj; simp [hj] at hl
      · simp at hl; simp at hj; have : ¬ j < l.length := by omega
        simp [this] at hl⟩
    have hn : (Array.replicate l.toArray.size false).getD n false = false := by
      by_cases hj : n < l.toArray.size
      · simp at hj; simp [hj]
      · simp at hj; have : ¬ n < l.length := by omega
        simp [this]
    have s' : St W0 w.drew L := s.drew
    have := wpAnyB_planT2 (P := P) (K := fun a w => Q .normal a w) (S := fun w => St W0 w S) h1 t _ a w.drew inv hn h3 (hS.st s') (h.run _ s')
    rw [h2] at this
    exact wpAny_of_B _ _ _ _ (by simpa using this)
end
end Go.Proofs.Yteeapkfakehocaa
namespace Go.Proofs.Yteeapkfakehocaa
open Go Go.RowKit
set_option linter.unusedVariables false
set_option linter.unusedSimpArgs false
set_option maxRecDepth 20000
set_option synthInstance.maxSize 100000
set_option synthInstance.maxHeartbeats 400000
section
variable {W0 : World} {L : List HP}
theorem own_ct {A : Option Addr} {c : Nat} {l : List AK} (hv : rd eAK (.slice A l.length c) l ∈ L) (hl : l.length ≤ 1000000) : CT Try.prog 13 #[.slice A l.length c] W0 L fun r L' => ∃ A2 c2, r = .slice A2 l.length c2 ∧ L' = own 37 eAK (.slice A2 l.length c2) l :: L := by
  refine CT.sub ?_ (sub_dup hv)
  refine CT_enter Try.func13 rfl ?_; (simp only [Try.ntmps13, List.size_toArray, List.length_cons, List.length_nil, Nat.reduceAdd, Nat.reduceSub, Array.replicate_succ, Array.replicate_zero, List.push_toArray, List.append_toArray, List.nil_append, List.cons_append])
  repeat' (first | refine go ?_ | intro _ | (apply cG; first | refine cT ?_ | refine cF ?_ | refine cS (fun _ => ?_) fun _ => ?_) | (apply gW; refine sW ?_) | (apply gI; refine sI ?_) | (apply gE; refine sE ?_) | (apply gP; refine sP ?_) | (apply gC; refine sC ?_) | (apply gD; refine sD ?_) | fail)
  refine C_ownnil 37 eAK ?_
  refine C_loopS (κ := Nat × Option Addr × Nat) [false, false, false, true, true, true, true, true, true, true, true, true, true, true, true, true, true, true, true, true, true, true, true, true, true, true, true, true, true, true, true, true, true, true, true, false] (fun k => [(3, .slice k.2.1 (l.take k.1).length k.2.2), (4, .int .i64 (k.1 : Int))]) (fun k => [(0, own 37 eAK (.slice k.2.1 (l.take k.1).length k.2.2) (l.take k.1))]) (fun k => k.1 ≤ l.length) (fun k => l.length - k.1) (0, none, 0) (Nat.zero_le _) ⟨rfl, rfl, trivial⟩ ?_
  rintro ⟨i, A2, c2⟩ u hi
  dsimp only at hi
  dsimp only
  ((try dsimp only); refine C_n ?_; (try simp only [Nat.reduceAdd, Nat.zero_add]))
  by_cases hlt : i < l.length
  · obtain ⟨x, hxi⟩ : ∃ x, l[i]? = some x := ⟨_, List.getElem?_eq_getElem hlt⟩
    have hax : At l i x := ⟨hxi⟩
    have hit : (l.take i).length = i := by rw [List.length_take]; omega
    repeat' (first | refine go ?_ | intro _ | (apply cG; first | refine cT ?_ | refine cF ?_ | refine cS (fun _ => ?_) fun _ => ?_) | (apply gW; refine sW ?_) | (apply gI; refine sI ?_) | (apply gE; refine sE ?_) | (apply gP; refine sP ?_) | (apply gC; refine sC ?_) | (apply gD; refine sD ?_) | fail)
    refine C_draw (n := 99) [rd eAK (.slice A l.length c) l] [(0, 1), (1, 1), (2, 1), (3, 1), (4, 1), (5, 1), (6, 1), (7, 1), (8, 1), (9, 1), (10, 1), (11, 1), (12, 1), (13, 1), (14, 1), (15, 1), (16, 1), (17, 1), (18, 1), (19, 1), (20, 1), (21, 1), (22, 0), (23, 0), (24, 1)] (by kernel_rfl) (by kernel_rfl) Sb ?_
    repeat' (first | refine go ?_ | intro _ | (apply cG; first | refine cT ?_ | refine cF ?_ | refine cS (fun _ => ?_) fun _ => ?_) | (apply gW; refine sW ?_) | (apply gI; refine sI ?_) | (apply gE; refine sE ?_) | (apply gP; refine sP ?_) | (apply gC; refine sC ?_) | (apply gD; refine sD ?_) | fail)
    refine D_d rfl (dy_lit1 (R := eAK) x (hcs := by rfl) (hel := fun m h hs => rfl)) ?_; rintro _ _ ⟨_, rfl, rfl⟩; refine ⟨(by first | exact .inl rfl | exact .inr Sb), D_n ?_⟩
    repeat' (first | refine go ?_ | intro _ | (apply cG; first | refine cT ?_ | refine cF ?_ | refine cS (fun _ => ?_) fun _ => ?_) | (apply gW; refine sW ?_) | (apply gI; refine sI ?_) | (apply gE; refine sE ?_) | (apply gP; refine sP ?_) | (apply gC; refine sC ?_) | (apply gD; refine sD ?_) | fail)
    rename_i A9 c9
    have htk : l.take (i + 1) = l.take i ++ [x] := by rw [List.take_add_one, hxi]; rfl
    refine E_round (i + 1, A9, c9) hlt (by dsimp only; omega) ⟨by dsimp only; rw [htk, List.length_append]; rfl, rfl, trivial⟩ (by dsimp only; rw [htk, List.length_append]; exact Sb)
  obtain rfl : i = l.length := by omega
  rw [List.take_length]
  repeat' (first | refine go ?_ | intro _ | (apply cG; first | refine cT ?_ | refine cF ?_ | refine cS (fun _ => ?_) fun _ => ?_) | (apply gW; refine sW ?_) | (apply gI; refine sI ?_) | (apply gE; refine sE ?_) | (apply gP; refine sP ?_) | (apply gC; refine sC ?_) | (apply gD; refine sD ?_) | fail)
  refine E_res1 (by rfl) (by rfl) ⟨A2, c2, rfl, rfl⟩ Sb
end
end Go.Proofs.Yteeapkfakehocaa
