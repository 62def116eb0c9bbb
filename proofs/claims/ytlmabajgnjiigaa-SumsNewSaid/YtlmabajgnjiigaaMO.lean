/-
  Sums: the reference's table read. The plain words of it.
-/
import Derived.Test.YtlmabajgnjiigaaMK
import Derived.Test.YtlmabajgnjiigaaMN
namespace Go.Proofs.Ytlmabajgnjiigaa
open Go Go.RowKit
set_option linter.unusedVariables false
set_option linter.unusedSimpArgs false
set_option maxRecDepth 20000
set_option synthInstance.maxSize 100000
set_option synthInstance.maxHeartbeats 400000
/-- the greatest face, and one -/
def facF (l : List Int) : Int := l.foldl (fun n x => max n (x + 1)) 0
def sumL (l : List Int) : Int := l.foldl (· + ·) 0
theorem foldl_take {α β : Type} {f : β → α → β} {b : β} {l : List α} {i : Nat} {x : α} (h : l[i]? = some x) : (l.take (i + 1)).foldl f b = f ((l.take i).foldl f b) x := by
  rw [List.take_add_one, h, List.foldl_append]
  rfl
theorem facF_take {l : List Int} {i : Nat} {x : Int} (h : l[i]? = some x) : facF (l.take (i + 1)) = max (facF (l.take i)) (x + 1) := foldl_take h
theorem sumL_take {l : List Int} {i : Nat} {x : Int} (h : l[i]? = some x) : sumL (l.take (i + 1)) = sumL (l.take i) + x := foldl_take h
theorem sumL_le {l : List Int} (h : ∀ x ∈ l, 0 ≤ x ∧ x ≤ 1099511627776) : ∀ i : Nat, 0 ≤ sumL (l.take i) ∧ sumL (l.take i) ≤ 1099511627776 * (i : Int)
  | 0 => by simp [sumL]
  | i + 1 => by
    have ih := sumL_le h i
    cases hx : l[i]? with
    | none =>
      have : l.take (i + 1) = l.take i := by
        rw [List.take_add_one, hx]
        simp
      rw [this]
      omega
    | some x =>
      have := h x (List.mem_of_getElem? hx)
      rw [sumL_take hx]
      omega
/-- groups numbered by their least face: how many, or none -/
def numF : List Int → Nat → Option Nat
  | [], n => some n
  | g :: r, n => if g < 0 ∨ (n : Int) < g then none else numF r (if g = (n : Int) then n + 1 else n)
theorem numF_drop {l : List Int} {i n : Nat} {g : Int} (h : l[i]? = some g) : numF (l.drop i) n = if g < 0 ∨ (n : Int) < g then none else numF (l.drop (i + 1)) (if g = (n : Int) then n + 1 else n) := by
  have : l.drop i = g :: l.drop (i + 1) := (List.drop_eq_getElem_cons (List.getElem?_eq_some_iff.1 h).1).trans (by rw [(List.getElem?_eq_some_iff.1 h).2])
  rw [this]
  rfl
/-- faces of one group in one group of the next scale -/
def CoaOk (a b : List Int) : Prop := ∀ (i k : Nat) (x u v : Int), k < i → a[i]? = some x → a[k]? = some x → b[i]? = some u → b[k]? = some v → u = v
def memB (l : List Int) (x : Int) : Bool := decide (x ∈ l)
def wthF (l some : List Int) : List Int := l.filter fun x => !memB some x
theorem filter_take {α : Type} {f : α → Bool} {l : List α} {i : Nat} {x : α} (h : l[i]? = some x) : (l.take (i + 1)).filter f = (l.take i).filter f ++ (if f x then [x] else []) := by
  rw [List.take_add_one, h, List.filter_append]
  congr 1
  cases hf : f x <;> simp [hf]
theorem all_drop {α : Type} {f : α → Bool} {l : List α} {i : Nat} {x : α} (h : l[i]? = some x) : (l.drop i).all f = (f x && (l.drop (i + 1)).all f) := by
  have : l.drop i = x :: l.drop (i + 1) := (List.drop_eq_getElem_cons (List.getElem?_eq_some_iff.1 h).1).trans (by rw [(List.getElem?_eq_some_iff.1 h).2])
  rw [this]
  rfl
section
variable {W0 : World} {L : List HP}
theorem rNumbered_ct {A : Option Addr} {c : Nat} {l : List Int} (hv : Src L eI (.slice A l.length c) l) (hl : l.length ≤ 1000000) :
    CT Try.prog 36 #[.slice A l.length c] W0 L fun r L' => r = .bool (numF l 0).isSome ∧ L' = L := by
  have hs : ScA A L l.length c eI l := ⟨hv⟩
  refine CT_enter Try.func36 rfl ?_; (simp only [Try.ntmps36, List.size_toArray, List.length_cons, List.length_nil, Nat.reduceAdd, Nat.reduceSub, Array.replicate_succ, Array.replicate_zero, List.push_toArray, List.append_toArray, List.nil_append, List.cons_append])
  repeat' (first | refine go ?_ | intro _ | (apply cG; first | refine cT ?_ | refine cF ?_ | refine cS (fun _ => ?_) fun _ => ?_) | (apply gW; refine sW ?_) | (apply gI; refine sI ?_) | (apply gE; refine sE ?_) | (apply gP; refine sP ?_) | (apply gC; refine sC ?_) | (apply gD; refine sD ?_) | fail)
  refine C_loopS (κ := Nat × Nat) [false, false, true, true, true, true, true, true, true, true, true, true, true, true, true, true, true, true, true, true, true, true, true, true, true, true, true, true, true, true, true, true] (fun k => [(3, .int .i64 (k.2 : Int)), (4, .int .i64 (k.1 : Int))]) (fun k => []) (fun k => k.1 ≤ l.length ∧ k.2 ≤ k.1 ∧ numF (l.drop k.1) k.2 = numF l 0) (fun k => l.length - k.1) (0, 0) ⟨Nat.zero_le _, Nat.le_refl _, rfl⟩ ⟨rfl, rfl, trivial⟩ ?_
  rintro ⟨i, n⟩ u ⟨hi, hn, hf⟩
  dsimp only at hi hn hf
  ((try dsimp only); refine C_n ?_; (try simp only [Nat.reduceAdd, Nat.zero_add]))
  by_cases hil : i < l.length
  rotate_left
  · obtain rfl : i = l.length := by omega
    rw [List.drop_length] at hf
    rw [← hf]
    repeat' (first | refine go ?_ | intro _ | (apply cG; first | refine cT ?_ | refine cF ?_ | refine cS (fun _ => ?_) fun _ => ?_) | (apply gW; refine sW ?_) | (apply gI; refine sI ?_) | (apply gE; refine sE ?_) | (apply gP; refine sP ?_) | (apply gC; refine sC ?_) | (apply gD; refine sD ?_) | fail)
    refine E_res1 (by rfl) (by rfl) ⟨rfl, rfl⟩ Sb
  obtain ⟨g, hg⟩ : ∃ g, l[i]? = some g := ⟨_, List.getElem?_eq_getElem (by omega)⟩
  have hag : At l i g := ⟨hg⟩
  rw [numF_drop hg] at hf
  by_cases h0 : g < 0
  · rw [if_pos (.inl h0)] at hf
    rw [← hf]
    repeat' (first | refine go ?_ | intro _ | (apply cG; first | refine cT ?_ | refine cF ?_ | refine cS (fun _ => ?_) fun _ => ?_) | (apply gW; refine sW ?_) | (apply gI; refine sI ?_) | (apply gE; refine sE ?_) | (apply gP; refine sP ?_) | (apply gC; refine sC ?_) | (apply gD; refine sD ?_) | fail)
    refine E_res1 (by rfl) (by rfl) ⟨rfl, rfl⟩ Sb
  by_cases h1 : (n : Int) < g
  · rw [if_pos (.inr h1)] at hf
    rw [← hf]
    repeat' (first | refine go ?_ | intro _ | (apply cG; first | refine cT ?_ | refine cF ?_ | refine cS (fun _ => ?_) fun _ => ?_) | (apply gW; refine sW ?_) | (apply gI; refine sI ?_) | (apply gE; refine sE ?_) | (apply gP; refine sP ?_) | (apply gC; refine sC ?_) | (apply gD; refine sD ?_) | fail)
    refine E_res1 (by rfl) (by rfl) ⟨rfl, rfl⟩ Sb
  rw [if_neg (by omega)] at hf
  by_cases h2 : g = (n : Int)
  · rw [if_pos h2] at hf
    repeat' (first | refine go ?_ | intro _ | (apply cG; first | refine cT ?_ | refine cF ?_ | refine cS (fun _ => ?_) fun _ => ?_) | (apply gW; refine sW ?_) | (apply gI; refine sI ?_) | (apply gE; refine sE ?_) | (apply gP; refine sP ?_) | (apply gC; refine sC ?_) | (apply gD; refine sD ?_) | fail)
    exact E_round (i + 1, n + 1) ⟨hil, by dsimp only; omega, hf⟩ (by dsimp only; omega) ⟨rfl, rfl, trivial⟩ Sb
  · rw [if_neg h2] at hf
    repeat' (first | refine go ?_ | intro _ | (apply cG; first | refine cT ?_ | refine cF ?_ | refine cS (fun _ => ?_) fun _ => ?_) | (apply gW; refine sW ?_) | (apply gI; refine sI ?_) | (apply gE; refine sE ?_) | (apply gP; refine sP ?_) | (apply gC; refine sC ?_) | (apply gD; refine sD ?_) | fail)
    exact E_round (i + 1, n) ⟨hil, by dsimp only; omega, hf⟩ (by dsimp only; omega) ⟨rfl, rfl, trivial⟩ Sb
theorem Numbered_ct {A : Option Addr} {c : Nat} {l : List Int} (hv : Src L eI (.slice A l.length c) l) (hl : l.length ≤ 1000000) :
    CT Try.prog 43 #[.slice A l.length c] W0 L fun r L' => r = .tuple #[.int .i64 (((numF l 0).getD 0 : Nat) : Int), .bool (numF l 0).isSome] ∧ L' = L := by
  have hs : ScA A L l.length c eI l := ⟨hv⟩
  refine CT_enter Try.func43 rfl ?_; (simp only [Try.ntmps43, List.size_toArray, List.length_cons, List.length_nil, Nat.reduceAdd, Nat.reduceSub, Array.replicate_succ, Array.replicate_zero, List.push_toArray, List.append_toArray, List.nil_append, List.cons_append])
  repeat' (first | refine go ?_ | intro _ | (apply cG; first | refine cT ?_ | refine cF ?_ | refine cS (fun _ => ?_) fun _ => ?_) | (apply gW; refine sW ?_) | (apply gI; refine sI ?_) | (apply gE; refine sE ?_) | (apply gP; refine sP ?_) | (apply gC; refine sC ?_) | (apply gD; refine sD ?_) | fail)
  refine C_loopS (κ := Nat × Nat) [false, false, true, true, true, false, true, false, false, true, true, true, true, true, true, true, true, true, true, true, true, true, true, true, true, true, false] (fun k => [(4, .int .i64 (k.2 : Int)), (9, .int .i64 (k.1 : Int))]) (fun k => []) (fun k => k.1 ≤ l.length ∧ k.2 ≤ k.1 ∧ numF (l.drop k.1) k.2 = numF l 0) (fun k => l.length - k.1) (0, 0) ⟨Nat.zero_le _, Nat.le_refl _, rfl⟩ ⟨rfl, rfl, trivial⟩ ?_
  rintro ⟨i, n⟩ u ⟨hi, hn, hf⟩
  dsimp only at hi hn hf
  ((try dsimp only); refine C_n ?_; (try simp only [Nat.reduceAdd, Nat.zero_add]))
  by_cases hil : i < l.length
  rotate_left
  · obtain rfl : i = l.length := by omega
    rw [List.drop_length] at hf
    rw [← hf]
    repeat' (first | refine go ?_ | intro _ | (apply cG; first | refine cT ?_ | refine cF ?_ | refine cS (fun _ => ?_) fun _ => ?_) | (apply gW; refine sW ?_) | (apply gI; refine sI ?_) | (apply gE; refine sE ?_) | (apply gP; refine sP ?_) | (apply gC; refine sC ?_) | (apply gD; refine sD ?_) | fail)
    refine E_res2 (by rfl) (by rfl) ⟨rfl, rfl⟩ Sb
  obtain ⟨g, hg⟩ : ∃ g, l[i]? = some g := ⟨_, List.getElem?_eq_getElem (by omega)⟩
  have hag : At l i g := ⟨hg⟩
  rw [numF_drop hg] at hf
  by_cases h0 : g < 0
  · rw [if_pos (.inl h0)] at hf
    rw [← hf]
    repeat' (first | refine go ?_ | intro _ | (apply cG; first | refine cT ?_ | refine cF ?_ | refine cS (fun _ => ?_) fun _ => ?_) | (apply gW; refine sW ?_) | (apply gI; refine sI ?_) | (apply gE; refine sE ?_) | (apply gP; refine sP ?_) | (apply gC; refine sC ?_) | (apply gD; refine sD ?_) | fail)
    refine E_res2 (by rfl) (by rfl) ⟨rfl, rfl⟩ Sb
  by_cases h1 : (n : Int) < g
  · rw [if_pos (.inr h1)] at hf
    rw [← hf]
    repeat' (first | refine go ?_ | intro _ | (apply cG; first | refine cT ?_ | refine cF ?_ | refine cS (fun _ => ?_) fun _ => ?_) | (apply gW; refine sW ?_) | (apply gI; refine sI ?_) | (apply gE; refine sE ?_) | (apply gP; refine sP ?_) | (apply gC; refine sC ?_) | (apply gD; refine sD ?_) | fail)
    refine E_res2 (by rfl) (by rfl) ⟨rfl, rfl⟩ Sb
  rw [if_neg (by omega)] at hf
  by_cases h2 : g = (n : Int)
  · rw [if_pos h2] at hf
    repeat' (first | refine go ?_ | intro _ | (apply cG; first | refine cT ?_ | refine cF ?_ | refine cS (fun _ => ?_) fun _ => ?_) | (apply gW; refine sW ?_) | (apply gI; refine sI ?_) | (apply gE; refine sE ?_) | (apply gP; refine sP ?_) | (apply gC; refine sC ?_) | (apply gD; refine sD ?_) | fail)
    exact E_round (i + 1, n + 1) ⟨hil, by dsimp only; omega, hf⟩ (by dsimp only; omega) ⟨rfl, rfl, trivial⟩ Sb
  · rw [if_neg h2] at hf
    repeat' (first | refine go ?_ | intro _ | (apply cG; first | refine cT ?_ | refine cF ?_ | refine cS (fun _ => ?_) fun _ => ?_) | (apply gW; refine sW ?_) | (apply gI; refine sI ?_) | (apply gE; refine sE ?_) | (apply gP; refine sP ?_) | (apply gC; refine sC ?_) | (apply gD; refine sD ?_) | fail)
    exact E_round (i + 1, n) ⟨hil, by dsimp only; omega, hf⟩ (by dsimp only; omega) ⟨rfl, rfl, trivial⟩ Sb
theorem rCoarser_ct {A B : Option Addr} {c d : Nat} {a b : List Int} {q : Bool} (hv : rd eI (.slice A a.length c) a ∈ L) (hv2 : rd eI (.slice B b.length d) b ∈ L) (hab : b.length = a.length) (hl : a.length ≤ 1000000) (hq : q = true ↔ CoaOk a b) :
    CT Try.prog 37 #[.slice A a.length c, .slice B b.length d] W0 L fun r L' => r = .bool q ∧ L' = L := by
  refine CT.sub ?_ (sub_dup hv)
  refine CT.sub ?_ (sub_dup (.tail _ hv2))
  refine CT_enter Try.func37 rfl ?_; (simp only [Try.ntmps37, List.size_toArray, List.length_cons, List.length_nil, Nat.reduceAdd, Nat.reduceSub, Array.replicate_succ, Array.replicate_zero, List.push_toArray, List.append_toArray, List.nil_append, List.cons_append])
  repeat' (first | refine go ?_ | intro _ | (apply cG; first | refine cT ?_ | refine cF ?_ | refine cS (fun _ => ?_) fun _ => ?_) | (apply gW; refine sW ?_) | (apply gI; refine sI ?_) | (apply gE; refine sE ?_) | (apply gP; refine sP ?_) | (apply gC; refine sC ?_) | (apply gD; refine sD ?_) | fail)
  refine C_loopS (κ := Nat) [false, false, false, false, true, true, true, true, true, true, true, true, true, true, true, true, true, true, true, true, true, true, true, true, true, true, true, true, true, true, true, true, true, true, true, true, true, true] (fun k => [(5, .int .i64 (k : Int))]) (fun k => []) (fun k => k ≤ a.length ∧ ∀ (i j : Nat) (x u v : Int), i < k → j < i → a[i]? = some x → a[j]? = some x → b[i]? = some u → b[j]? = some v → u = v) (fun k => a.length - k) 0 ⟨Nat.zero_le _, fun i j x u v h => absurd h (Nat.not_lt_zero _)⟩ ⟨rfl, trivial⟩ ?_
  rintro i u ⟨hi, hf⟩
  ((try dsimp only); refine C_n ?_; (try simp only [Nat.reduceAdd, Nat.zero_add]))
  by_cases hil : i < a.length
  rotate_left
  · obtain rfl : q = true := hq.2 fun i j x u v hj h1 h2 h3 h4 => hf i j x u v (by have := (List.getElem?_eq_some_iff.1 h1).1; omega) hj h1 h2 h3 h4
    repeat' (first | refine go ?_ | intro _ | (apply cG; first | refine cT ?_ | refine cF ?_ | refine cS (fun _ => ?_) fun _ => ?_) | (apply gW; refine sW ?_) | (apply gI; refine sI ?_) | (apply gE; refine sE ?_) | (apply gP; refine sP ?_) | (apply gC; refine sC ?_) | (apply gD; refine sD ?_) | fail)
    refine E_res1 (by rfl) (by rfl) ⟨rfl, rfl⟩ Sb
  obtain ⟨x, hx⟩ : ∃ x, a[i]? = some x := ⟨_, List.getElem?_eq_getElem (by omega)⟩
  obtain ⟨y, hy⟩ : ∃ y, b[i]? = some y := ⟨_, List.getElem?_eq_getElem (by omega)⟩
  have hax : At a i x := ⟨hx⟩
  have hay : At b i y := ⟨hy⟩
  repeat' (first | refine go ?_ | intro _ | (apply cG; first | refine cT ?_ | refine cF ?_ | refine cS (fun _ => ?_) fun _ => ?_) | (apply gW; refine sW ?_) | (apply gI; refine sI ?_) | (apply gE; refine sE ?_) | (apply gP; refine sP ?_) | (apply gC; refine sC ?_) | (apply gD; refine sD ?_) | fail)
  refine C_loopS (κ := Nat) [false, false, false, false, true, false, true, false, false, false, false, false, false, true, true, true, true, true, true, true, true, true, true, true, true, true, true, true, true, true, true, true, true, true, true, true, true, true] (fun k => [(6, .int .i64 (k : Int))]) (fun k => []) (fun k => k ≤ i ∧ ∀ (j : Nat) (v : Int), j < k → a[j]? = some x → b[j]? = some v → y = v) (fun k => i - k) 0 ⟨Nat.zero_le _, fun j v h => absurd h (Nat.not_lt_zero _)⟩ ⟨rfl, trivial⟩ ?_
  rintro j u2 ⟨hj, hg⟩
  ((try dsimp only); refine C_n ?_; (try simp only [Nat.reduceAdd, Nat.zero_add]))
  by_cases hji : j < i
  rotate_left
  · obtain rfl : j = i := by omega
    repeat' (first | refine go ?_ | intro _ | (apply cG; first | refine cT ?_ | refine cF ?_ | refine cS (fun _ => ?_) fun _ => ?_) | (apply gW; refine sW ?_) | (apply gI; refine sI ?_) | (apply gE; refine sE ?_) | (apply gP; refine sP ?_) | (apply gC; refine sC ?_) | (apply gD; refine sD ?_) | fail)
    exact E_round (j + 1) ⟨hil, fun i2 k x2 u3 v h1 h2 h3 h4 h5 h6 => by
      rcases Nat.lt_or_eq_of_le (Nat.le_of_lt_succ h1) with h | rfl
      · exact hf i2 k x2 u3 v h h2 h3 h4 h5 h6
      · rw [hx] at h3
        rw [hy] at h5
        injection h3 with h3
        injection h5 with h5
        subst h3 h5
        exact hg k v h2 h4 h6⟩ (by omega) ⟨rfl, trivial⟩ Sb
  obtain ⟨x2, hx2⟩ : ∃ x, a[j]? = some x := ⟨_, List.getElem?_eq_getElem (by omega)⟩
  obtain ⟨y2, hy2⟩ : ∃ y, b[j]? = some y := ⟨_, List.getElem?_eq_getElem (by omega)⟩
  have hax2 : At a j x2 := ⟨hx2⟩
  have hay2 : At b j y2 := ⟨hy2⟩
  by_cases h1 : x = x2
  · by_cases h2 : y = y2
    · repeat' (first | refine go ?_ | intro _ | (apply cG; first | refine cT ?_ | refine cF ?_ | refine cS (fun _ => ?_) fun _ => ?_) | (apply gW; refine sW ?_) | (apply gI; refine sI ?_) | (apply gE; refine sE ?_) | (apply gP; refine sP ?_) | (apply gC; refine sC ?_) | (apply gD; refine sD ?_) | fail)
      refine C_draw (n := 99) [rd eI (.slice A a.length c) a, rd eI (.slice B b.length d) b] [(0, 1), (1, 1), (2, 1), (3, 1), (4, 1), (5, 1), (6, 1), (7, 1), (8, 1), (9, 1), (10, 1), (11, 1), (12, 1), (13, 1), (14, 1), (15, 1), (16, 1), (17, 1), (18, 1), (19, 1)] (by kernel_rfl) (by kernel_rfl) Sb ?_
      repeat' (first | refine go ?_ | intro _ | (apply cG; first | refine cT ?_ | refine cF ?_ | refine cS (fun _ => ?_) fun _ => ?_) | (apply gW; refine sW ?_) | (apply gI; refine sI ?_) | (apply gE; refine sE ?_) | (apply gP; refine sP ?_) | (apply gC; refine sC ?_) | (apply gD; refine sD ?_) | fail)
      exact E_round (j + 1) ⟨hji, fun k v h3 h4 h5 => by
        rcases Nat.lt_or_eq_of_le (Nat.le_of_lt_succ h3) with h | rfl
        · exact hg k v h h4 h5
        · rw [hy2] at h5
          injection h5 with h5
          rw [← h5]
          exact h2⟩ (by omega) ⟨rfl, trivial⟩ Sb
    · obtain rfl : q = false := by
        cases hqq : q with
        | false => rfl
        | true => exact absurd (hq.1 hqq i j x y y2 hji hx (by rw [hx2, h1]) hy hy2) h2
      repeat' (first | refine go ?_ | intro _ | (apply cG; first | refine cT ?_ | refine cF ?_ | refine cS (fun _ => ?_) fun _ => ?_) | (apply gW; refine sW ?_) | (apply gI; refine sI ?_) | (apply gE; refine sE ?_) | (apply gP; refine sP ?_) | (apply gC; refine sC ?_) | (apply gD; refine sD ?_) | fail)
      refine C_draw (n := 99) [rd eI (.slice A a.length c) a, rd eI (.slice B b.length d) b] [(0, 1), (1, 1), (2, 1), (3, 1), (4, 1), (5, 1), (6, 1), (7, 1), (8, 1), (9, 1), (10, 1), (11, 1), (12, 1), (13, 1), (14, 1), (15, 1), (16, 1), (17, 1), (18, 1), (19, 1)] (by kernel_rfl) (by kernel_rfl) Sb ?_
      repeat' (first | refine go ?_ | intro _ | (apply cG; first | refine cT ?_ | refine cF ?_ | refine cS (fun _ => ?_) fun _ => ?_) | (apply gW; refine sW ?_) | (apply gI; refine sI ?_) | (apply gE; refine sE ?_) | (apply gP; refine sP ?_) | (apply gC; refine sC ?_) | (apply gD; refine sD ?_) | fail)
      refine E_res1 (by rfl) (by rfl) ⟨rfl, rfl⟩ Sb
  · repeat' (first | refine go ?_ | intro _ | (apply cG; first | refine cT ?_ | refine cF ?_ | refine cS (fun _ => ?_) fun _ => ?_) | (apply gW; refine sW ?_) | (apply gI; refine sI ?_) | (apply gE; refine sE ?_) | (apply gP; refine sP ?_) | (apply gC; refine sC ?_) | (apply gD; refine sD ?_) | fail)
    refine C_draw (n := 99) [rd eI (.slice A a.length c) a, rd eI (.slice B b.length d) b] [(0, 1), (1, 1), (2, 1), (3, 1), (4, 1), (5, 1), (6, 1), (7, 1), (8, 1), (9, 1), (10, 1), (11, 1), (12, 1), (13, 1), (14, 1), (15, 1), (16, 1), (17, 1), (18, 1), (19, 1)] (by kernel_rfl) (by kernel_rfl) Sb ?_
    repeat' (first | refine go ?_ | intro _ | (apply cG; first | refine cT ?_ | refine cF ?_ | refine cS (fun _ => ?_) fun _ => ?_) | (apply gW; refine sW ?_) | (apply gI; refine sI ?_) | (apply gE; refine sE ?_) | (apply gP; refine sP ?_) | (apply gC; refine sC ?_) | (apply gD; refine sD ?_) | fail)
    exact E_round (j + 1) ⟨hji, fun k v h3 h4 h5 => by
      rcases Nat.lt_or_eq_of_le (Nat.le_of_lt_succ h3) with h | rfl
      · exact hg k v h h4 h5
      · rw [hx2] at h4
        injection h4 with h4
        exact absurd h4.symm h1⟩ (by omega) ⟨rfl, trivial⟩ Sb
theorem rTotal_ct {p : Nat} {A B C : Option Addr} {ca cb cc nb nc : Nat} {U : List Int} (hp : cel p [.slice A U.length ca, .slice B nb cb, .slice C nc cc] 32 ∈ L) (hU : rd eI (.slice A U.length ca) U ∈ L) (hl : U.length ≤ 1000) (hu : ∀ x ∈ U, 0 ≤ x ∧ x ≤ 1099511627776) :
    CT Try.prog 16 #[.pointer (some ⟨p, 0, none⟩)] W0 L fun r L' => r = .int .i64 (sumL U) ∧ L' = L := by
  have hip : InC p L _ _ := ⟨hp⟩
  have hsU : ScA A L U.length ca eI U := ⟨.inl hU⟩
  refine CT_enter Try.func16 rfl ?_; (simp only [Try.ntmps16, List.size_toArray, List.length_cons, List.length_nil, Nat.reduceAdd, Nat.reduceSub, Array.replicate_succ, Array.replicate_zero, List.push_toArray, List.append_toArray, List.nil_append, List.cons_append])
  repeat' (first | refine go ?_ | intro _ | (apply cG; first | refine cT ?_ | refine cF ?_ | refine cS (fun _ => ?_) fun _ => ?_) | (apply gW; refine sW ?_) | (apply gI; refine sI ?_) | (apply gE; refine sE ?_) | (apply gP; refine sP ?_) | (apply gC; refine sC ?_) | (apply gD; refine sD ?_) | fail)
  refine C_loopS (κ := Nat) [false, false, false, true, true, true, true, true, true, true, true, true, true, true, true, true, true, true, true, true, true, true, true, true, false] (fun k => [(3, .int .i64 (sumL (U.take k))), (4, .int .i64 (k : Int))]) (fun k => []) (fun k => k ≤ U.length) (fun k => U.length - k) 0 (Nat.zero_le _) ⟨rfl, rfl, trivial⟩ ?_
  rintro i u hi
  ((try dsimp only); refine C_n ?_; (try simp only [Nat.reduceAdd, Nat.zero_add]))
  by_cases hil : i < U.length
  rotate_left
  · obtain rfl : i = U.length := by omega
    repeat' (first | refine go ?_ | intro _ | (apply cG; first | refine cT ?_ | refine cF ?_ | refine cS (fun _ => ?_) fun _ => ?_) | (apply gW; refine sW ?_) | (apply gI; refine sI ?_) | (apply gE; refine sE ?_) | (apply gP; refine sP ?_) | (apply gC; refine sC ?_) | (apply gD; refine sD ?_) | fail)
    rw [List.take_length]
    refine E_res1 (by rfl) (by rfl) ⟨rfl, rfl⟩ Sb
  obtain ⟨x, hx⟩ : ∃ x, U[i]? = some x := ⟨_, List.getElem?_eq_getElem (by omega)⟩
  have hax : At U i x := ⟨hx⟩
  have hs := sumL_le hu i
  have hx2 := hu x (List.mem_of_getElem? hx)
  repeat' (first | refine go ?_ | intro _ | (apply cG; first | refine cT ?_ | refine cF ?_ | refine cS (fun _ => ?_) fun _ => ?_) | (apply gW; refine sW ?_) | (apply gI; refine sI ?_) | (apply gE; refine sE ?_) | (apply gP; refine sP ?_) | (apply gC; refine sC ?_) | (apply gD; refine sD ?_) | fail)
  exact E_round (i + 1) hil (by omega) ⟨by rw [sumL_take hx]; rfl, rfl, trivial⟩ Sb
end
end Go.Proofs.Ytlmabajgnjiigaa
namespace Go.Proofs.Ytlmabajgnjiigaa
open Go Go.RowKit
set_option linter.unusedVariables false
set_option linter.unusedSimpArgs false
set_option maxRecDepth 20000
set_option synthInstance.maxSize 100000
set_option synthInstance.maxHeartbeats 400000
theorem sub_mem1 {A : HP} {L : List HP} (h : A ∈ L) : Sub L [A] := fun m x s => by
  obtain ⟨a, ha, hs⟩ := s.mem h
  exact ⟨a, Hp.none, (Hp.none_dj _).symm, ha, Hp.none_le _, hs, trivial⟩
theorem C_form {W0 : World} {L : List HP} {P : Program} {α : Type} {R : Enc α} {v : Value} {l : List α} {cd : Code} {a : Act} {Q : Exit → Act → World → Prop} (h : rd R v l ∈ L) (k : ∀ A c, v = .slice A l.length c → CL P W0 L cd Q a) : CL P W0 L cd Q a := by
  refine C_fact (φ := ∃ A c, v = .slice A l.length c) (fun w s => ?_) fun ⟨A, c, e⟩ => k A c e
  obtain ⟨A, c, e, _⟩ := ((Src.sl (.inl h : Src L R v l) s).form)
  exact ⟨A, c, e⟩
/-- the reference's table, where it lies -/
structure RT where
  p : Nat
  A : Option Addr
  B : Option Addr
  C : Option Addr
  ca : Nat
  cb : Nat
  cc : Nat
  U : List Int
  F : List Int
  xs : List (SX Int)
structure RTin (t : RT) (L : List HP) : Prop where
  cell : cel t.p [.slice t.A t.U.length t.ca, .slice t.B t.F.length t.cb, .slice t.C t.xs.length t.cc] 32 ∈ L
  u : rd eI (.slice t.A t.U.length t.ca) t.U ∈ L
  f : rd eI (.slice t.B t.F.length t.cb) t.F ∈ L
  g : rd (eSX eI) (.slice t.C t.xs.length t.cc) t.xs ∈ L
/-- the members of a group, given the groups of the faces -/
def memN (F R : List Int) (g : Int) (n : Nat) : List Int := ((List.range n).filter fun i => decide (R.getD (F.getD i 0).toNat 0 = g)).map fun (i : Nat) => (i : Int)
theorem memN_succ {F R : List Int} {g : Int} {n : Nat} {f r : Int} (hf : F[n]? = some f) (hr : R[f.toNat]? = some r) : memN F R g (n + 1) = memN F R g n ++ (if r = g then [(n : Int)] else []) := by
  unfold memN
  rw [List.range_succ, List.filter_append, List.map_append]
  congr 1
  have e : R.getD (F.getD n 0).toNat 0 = r := by
    rw [List.getD_eq_getElem?_getD, List.getD_eq_getElem?_getD, hf, Option.getD_some, hr, Option.getD_some]
  by_cases h : r = g
  · rw [List.filter_cons_of_pos (by rw [e]; exact decide_eq_true h), if_pos h]
    rfl
  · rw [List.filter_cons_of_neg (by rw [e]; simpa using h), if_neg h]
    rfl
theorem memN_len {F R : List Int} {g : Int} (n : Nat) : (memN F R g n).length ≤ n := by
  unfold memN
  rw [List.length_map]
  exact Nat.le_trans (List.length_filter_le _ _) (by simp)
/-- the sum over atoms -/
def sumAt (U l : List Int) : Int := l.foldl (fun n i => n + U.getD i.toNat 0) 0
theorem sumAt_take {U l : List Int} {i : Nat} {x y : Int} (h : l[i]? = some x) (hx : U[x.toNat]? = some y) : sumAt U (l.take (i + 1)) = sumAt U (l.take i) + y := by
  unfold sumAt
  rw [foldl_take h, List.getD_eq_getElem?_getD, hx, Option.getD_some]
theorem sumAt_le {U l : List Int} (hu : ∀ x ∈ U, 0 ≤ x ∧ x ≤ 1099511627776) (hl : ∀ x ∈ l, 0 ≤ x ∧ x < (U.length : Int)) : ∀ i : Nat, 0 ≤ sumAt U (l.take i) ∧ sumAt U (l.take i) ≤ 1099511627776 * (i : Int)
  | 0 => by simp [sumAt]
  | i + 1 => by
    have ih := sumAt_le hu hl i
    cases hx : l[i]? with
    | none =>
      have : l.take (i + 1) = l.take i := by
        rw [List.take_add_one, hx]
        simp
      rw [this]
      omega
    | some x =>
      have h1 := hl x (List.mem_of_getElem? hx)
      obtain ⟨y, hy⟩ : ∃ y, U[x.toNat]? = some y := ⟨_, List.getElem?_eq_getElem (by omega)⟩
      have := hu y (List.mem_of_getElem? hy)
      rw [sumAt_take hx hy]
      omega
section
variable {W0 : World} {L : List HP}
theorem Has_ct {A : Option Addr} {c : Nat} {l : List Int} {n : Int} (hv : Src L eI (.slice A l.length c) l) (hl : l.length ≤ 1000000000000) :
    CT Try.prog 21 #[.slice A l.length c, .int .i64 n] W0 L fun r L' => r = .bool (memB l n) ∧ L' = L := by
  have hs : ScA A L l.length c eI l := ⟨hv⟩
  refine CT_enter Try.func21 rfl ?_; (simp only [Try.ntmps21, List.size_toArray, List.length_cons, List.length_nil, Nat.reduceAdd, Nat.reduceSub, Array.replicate_succ, Array.replicate_zero, List.push_toArray, List.append_toArray, List.nil_append, List.cons_append])
  repeat' (first | refine go ?_ | intro _ | (apply cG; first | refine cT ?_ | refine cF ?_ | refine cS (fun _ => ?_) fun _ => ?_) | (apply gW; refine sW ?_) | (apply gI; refine sI ?_) | (apply gE; refine sE ?_) | (apply gP; refine sP ?_) | (apply gC; refine sC ?_) | (apply gD; refine sD ?_) | fail)
  refine C_loopS (κ := Nat) [false, false, false, false, true, true, true, true, true, true, true, true, true, true, true, true, true, true] (fun k => [(5, .int .i64 (k : Int))]) (fun k => []) (fun k => k ≤ l.length ∧ ∀ j, j < k → l[j]? ≠ some n) (fun k => l.length - k) 0 ⟨Nat.zero_le _, fun j h => absurd h (Nat.not_lt_zero _)⟩ ⟨rfl, trivial⟩ ?_
  rintro i u ⟨hi, hf⟩
  ((try dsimp only); refine C_n ?_; (try simp only [Nat.reduceAdd, Nat.zero_add]))
  by_cases hil : i < l.length
  rotate_left
  · have : memB l n = false := decide_eq_false fun h => by
      obtain ⟨j, hj⟩ := List.getElem?_of_mem h
      exact hf j (by have := (List.getElem?_eq_some_iff.1 hj).1; omega) hj
    rw [this]
    repeat' (first | refine go ?_ | intro _ | (apply cG; first | refine cT ?_ | refine cF ?_ | refine cS (fun _ => ?_) fun _ => ?_) | (apply gW; refine sW ?_) | (apply gI; refine sI ?_) | (apply gE; refine sE ?_) | (apply gP; refine sP ?_) | (apply gC; refine sC ?_) | (apply gD; refine sD ?_) | fail)
    refine E_res1 (by rfl) (by rfl) ⟨rfl, rfl⟩ Sb
  obtain ⟨g, hg⟩ : ∃ g, l[i]? = some g := ⟨_, List.getElem?_eq_getElem (by omega)⟩
  have hag : At l i g := ⟨hg⟩
  by_cases h0 : g = n
  · have : memB l n = true := decide_eq_true (h0 ▸ List.mem_of_getElem? hg)
    rw [this]
    repeat' (first | refine go ?_ | intro _ | (apply cG; first | refine cT ?_ | refine cF ?_ | refine cS (fun _ => ?_) fun _ => ?_) | (apply gW; refine sW ?_) | (apply gI; refine sI ?_) | (apply gE; refine sE ?_) | (apply gP; refine sP ?_) | (apply gC; refine sC ?_) | (apply gD; refine sD ?_) | fail)
    refine E_res1 (by rfl) (by rfl) ⟨rfl, rfl⟩ Sb
  · repeat' (first | refine go ?_ | intro _ | (apply cG; first | refine cT ?_ | refine cF ?_ | refine cS (fun _ => ?_) fun _ => ?_) | (apply gW; refine sW ?_) | (apply gI; refine sI ?_) | (apply gE; refine sE ?_) | (apply gP; refine sP ?_) | (apply gC; refine sC ?_) | (apply gD; refine sD ?_) | fail)
    exact E_round (i + 1) ⟨hil, fun j hj => by
      rcases Nat.lt_or_eq_of_le (Nat.le_of_lt_succ hj) with h | rfl
      · exact hf j h
      · rw [hg]
        exact fun e => h0 (Option.some.inj e)⟩ (by omega) ⟨rfl, trivial⟩ Sb
theorem rAll_ct {A B : Option Addr} {c d : Nat} {l s : List Int} (hv : Src L eI (.slice A l.length c) l) (hv2 : Src L eI (.slice B s.length d) s) (hl : l.length ≤ 1000000000000) (hl2 : s.length ≤ 1000000000000) :
    CT Try.prog 38 #[.slice A l.length c, .slice B s.length d] W0 L fun r L' => r = .bool (s.all (memB l)) ∧ L' = L := by
  have hs : ScA B L s.length d eI s := ⟨hv2⟩
  refine CT_enter Try.func38 rfl ?_; (simp only [Try.ntmps38, List.size_toArray, List.length_cons, List.length_nil, Nat.reduceAdd, Nat.reduceSub, Array.replicate_succ, Array.replicate_zero, List.push_toArray, List.append_toArray, List.nil_append, List.cons_append])
  repeat' (first | refine go ?_ | intro _ | (apply cG; first | refine cT ?_ | refine cF ?_ | refine cS (fun _ => ?_) fun _ => ?_) | (apply gW; refine sW ?_) | (apply gI; refine sI ?_) | (apply gE; refine sE ?_) | (apply gP; refine sP ?_) | (apply gC; refine sC ?_) | (apply gD; refine sD ?_) | fail)
  refine C_loopS (κ := Nat) [false, false, false, false, true, true, true, true, true, true, true, true, true, true, true, true, true, true, true] (fun k => [(5, .int .i64 (k : Int))]) (fun k => []) (fun k => k ≤ s.length ∧ (s.drop k).all (memB l) = s.all (memB l)) (fun k => s.length - k) 0 ⟨Nat.zero_le _, rfl⟩ ⟨rfl, trivial⟩ ?_
  rintro i u ⟨hi, hf⟩
  ((try dsimp only); refine C_n ?_; (try simp only [Nat.reduceAdd, Nat.zero_add]))
  by_cases hil : i < s.length
  rotate_left
  · obtain rfl : i = s.length := by omega
    rw [List.drop_length] at hf
    rw [← hf]
    repeat' (first | refine go ?_ | intro _ | (apply cG; first | refine cT ?_ | refine cF ?_ | refine cS (fun _ => ?_) fun _ => ?_) | (apply gW; refine sW ?_) | (apply gI; refine sI ?_) | (apply gE; refine sE ?_) | (apply gP; refine sP ?_) | (apply gC; refine sC ?_) | (apply gD; refine sD ?_) | fail)
    refine E_res1 (by rfl) (by rfl) ⟨rfl, rfl⟩ Sb
  obtain ⟨g, hg⟩ : ∃ g, s[i]? = some g := ⟨_, List.getElem?_eq_getElem (by omega)⟩
  have hag : At s i g := ⟨hg⟩
  rw [all_drop hg] at hf
  repeat' (first | refine go ?_ | intro _ | (apply cG; first | refine cT ?_ | refine cF ?_ | refine cS (fun _ => ?_) fun _ => ?_) | (apply gW; refine sW ?_) | (apply gI; refine sI ?_) | (apply gE; refine sE ?_) | (apply gP; refine sP ?_) | (apply gC; refine sC ?_) | (apply gD; refine sD ?_) | fail)
  refine O_d (dy_call ArgsI.pf (by first | exact rfl | trivial | (intro a b; rfl)) (Has_ct (l := l) (n := g) hv hl)) ?_; rintro _ _ ⟨_, ⟨rfl, hLL⟩, rfl⟩; replace hLL := hLL.symm; subst hLL; refine O_n ?_
  cases hm : memB l g
  · rw [hm, Bool.false_and] at hf
    rw [← hf]
    repeat' (first | refine go ?_ | intro _ | (apply cG; first | refine cT ?_ | refine cF ?_ | refine cS (fun _ => ?_) fun _ => ?_) | (apply gW; refine sW ?_) | (apply gI; refine sI ?_) | (apply gE; refine sE ?_) | (apply gP; refine sP ?_) | (apply gC; refine sC ?_) | (apply gD; refine sD ?_) | fail)
    refine E_res1 (by rfl) (by rfl) ⟨rfl, rfl⟩ Sb
  · rw [hm, Bool.true_and] at hf
    repeat' (first | refine go ?_ | intro _ | (apply cG; first | refine cT ?_ | refine cF ?_ | refine cS (fun _ => ?_) fun _ => ?_) | (apply gW; refine sW ?_) | (apply gI; refine sI ?_) | (apply gE; refine sE ?_) | (apply gP; refine sP ?_) | (apply gC; refine sC ?_) | (apply gD; refine sD ?_) | fail)
    exact E_round (i + 1) ⟨hil, hf⟩ (by omega) ⟨rfl, trivial⟩ Sb
theorem rWithout_ct {A B : Option Addr} {c d : Nat} {l s : List Int} (hv : rd eI (.slice A l.length c) l ∈ L) (hv2 : rd eI (.slice B s.length d) s ∈ L) (hl : l.length ≤ 1000000) (hl2 : s.length ≤ 1000000) :
    CT Try.prog 39 #[.slice A l.length c, .slice B s.length d] W0 L fun r L' => ∃ A2 c2, r = .slice A2 (wthF l s).length c2 ∧ L' = own 3 eI (.slice A2 (wthF l s).length c2) (wthF l s) :: L := by
  have hs : ScA A L l.length c eI l := ⟨.inl hv⟩
  refine CT_enter Try.func39 rfl ?_; (simp only [Try.ntmps39, List.size_toArray, List.length_cons, List.length_nil, Nat.reduceAdd, Nat.reduceSub, Array.replicate_succ, Array.replicate_zero, List.push_toArray, List.append_toArray, List.nil_append, List.cons_append])
  repeat' (first | refine go ?_ | intro _ | (apply cG; first | refine cT ?_ | refine cF ?_ | refine cS (fun _ => ?_) fun _ => ?_) | (apply gW; refine sW ?_) | (apply gI; refine sI ?_) | (apply gE; refine sE ?_) | (apply gP; refine sP ?_) | (apply gC; refine sC ?_) | (apply gD; refine sD ?_) | fail)
  refine C_ownnil 3 eI ?_
  refine C_loopS (κ := Nat × Option Addr × Nat) [false, false, false, false, false, true, true, true, true, true, true, true, true, true, true, true, true, true, true, true, true, true, true, true, true, true, true, false] (fun k => [(5, .slice k.2.1 (wthF (l.take k.1) s).length k.2.2), (6, .int .i64 (k.1 : Int))]) (fun k => [(0, own 3 eI (.slice k.2.1 (wthF (l.take k.1) s).length k.2.2) (wthF (l.take k.1) s))]) (fun k => k.1 ≤ l.length) (fun k => l.length - k.1) (0, none, 0) (Nat.zero_le _) ⟨rfl, rfl, trivial⟩ ?_
  rintro ⟨i, A2, c2⟩ u hi
  dsimp only at hi
  dsimp only
  ((try dsimp only); refine C_n ?_; (try simp only [Nat.reduceAdd, Nat.zero_add]))
  by_cases hil : i < l.length
  rotate_left
  · obtain rfl : i = l.length := by omega
    rw [List.take_length]
    repeat' (first | refine go ?_ | intro _ | (apply cG; first | refine cT ?_ | refine cF ?_ | refine cS (fun _ => ?_) fun _ => ?_) | (apply gW; refine sW ?_) | (apply gI; refine sI ?_) | (apply gE; refine sE ?_) | (apply gP; refine sP ?_) | (apply gC; refine sC ?_) | (apply gD; refine sD ?_) | fail)
    refine E_res1 (by rfl) (by rfl) ⟨A2, c2, rfl, rfl⟩ Sb
  obtain ⟨g, hg⟩ : ∃ g, l[i]? = some g := ⟨_, List.getElem?_eq_getElem (by omega)⟩
  have hag : At l i g := ⟨hg⟩
  have hst : wthF (l.take (i + 1)) s = wthF (l.take i) s ++ (if !memB s g then [g] else []) := filter_take hg
  have hlen : (wthF (l.take i) s).length ≤ 1000000 := Nat.le_trans (List.length_filter_le _ _) (by rw [List.length_take]; omega)
  obtain ⟨o, ho⟩ : ∃ o, wthF (l.take i) s = o := ⟨_, rfl⟩
  rw [ho] at hst hlen ⊢
  repeat' (first | refine go ?_ | intro _ | (apply cG; first | refine cT ?_ | refine cF ?_ | refine cS (fun _ => ?_) fun _ => ?_) | (apply gW; refine sW ?_) | (apply gI; refine sI ?_) | (apply gE; refine sE ?_) | (apply gP; refine sP ?_) | (apply gC; refine sC ?_) | (apply gD; refine sD ?_) | fail)
  refine O_d (dy_call ArgsI.pf (by first | exact rfl | trivial | (intro a b; rfl)) (Has_ct (l := s) (n := g) (.inl (.tail _ hv2)) (by omega))) ?_; rintro _ _ ⟨_, ⟨rfl, hLL⟩, rfl⟩; replace hLL := hLL.symm; subst hLL; refine O_n ?_
  cases hm : memB s g
  · rw [hm, Bool.not_false, if_pos rfl] at hst
    repeat' (first | refine go ?_ | intro _ | (apply cG; first | refine cT ?_ | refine cF ?_ | refine cS (fun _ => ?_) fun _ => ?_) | (apply gW; refine sW ?_) | (apply gI; refine sI ?_) | (apply gE; refine sE ?_) | (apply gP; refine sP ?_) | (apply gC; refine sC ?_) | (apply gD; refine sD ?_) | fail)
    refine O_d (dy_lit1 (R := eI) g (hcs := by rfl) (hel := fun _ _ _ => by rfl)) ?_; rintro _ _ ⟨_, rfl, rfl⟩; refine O_n ?_
    repeat' (first | refine go ?_ | intro _ | (apply cG; first | refine cT ?_ | refine cF ?_ | refine cS (fun _ => ?_) fun _ => ?_) | (apply gW; refine sW ?_) | (apply gI; refine sI ?_) | (apply gE; refine sE ?_) | (apply gP; refine sP ?_) | (apply gC; refine sC ?_) | (apply gD; refine sD ?_) | fail)
    rename_i A3 c3
    exact E_round (i + 1, A3, c3) hil (by dsimp only; omega) ⟨by dsimp only; rw [hst, List.length_append]; rfl, rfl, trivial⟩ (by dsimp only; rw [hst, List.length_append]; exact Sb)
  · rw [hm, Bool.not_true, if_neg (by decide), List.append_nil] at hst
    repeat' (first | refine go ?_ | intro _ | (apply cG; first | refine cT ?_ | refine cF ?_ | refine cS (fun _ => ?_) fun _ => ?_) | (apply gW; refine sW ?_) | (apply gI; refine sI ?_) | (apply gE; refine sE ?_) | (apply gP; refine sP ?_) | (apply gC; refine sC ?_) | (apply gD; refine sD ?_) | fail)
    exact E_round (i + 1, A2, c2) hil (by dsimp only; omega) ⟨by dsimp only; rw [hst]; rfl, rfl, trivial⟩ (by dsimp only; rw [hst]; exact Sb)
theorem rSum_ct {t : RT} {A : Option Addr} {c : Nat} {l : List Int} (ht : RTin t L) (hv : rd eI (.slice A l.length c) l ∈ L) (hu : ∀ x ∈ t.U, 0 ≤ x ∧ x ≤ 1099511627776) (hr : ∀ x ∈ l, 0 ≤ x ∧ x < (t.U.length : Int)) (hl : l.length ≤ 1000) :
    CT Try.prog 26 #[.pointer (some ⟨t.p, 0, none⟩), .slice A l.length c] W0 L fun r L' => r = .int .i64 (sumAt t.U l) ∧ L' = L := by
  have hs : ScA A L l.length c eI l := ⟨.inl hv⟩
  obtain ⟨p, A1, B1, C1, ca, cb, cc, U, F, xs⟩ := t
  obtain ⟨h1, h2, h3, h4⟩ := ht
  dsimp only at h1 h2 h3 h4 hu hr ⊢
  have hip : InC p L _ _ := ⟨h1⟩
  have hS : Sub L [rd eI (.slice A l.length c) l, rd eI (.slice A1 U.length ca) U, cel p [.slice A1 U.length ca, .slice B1 F.length cb, .slice C1 xs.length cc] 32] := Sub.trans (sub_dup hv) (sub_skip (Sub.trans (sub_dup h2) (sub_skip (sub_mem1 h1))))
  refine CT_enter Try.func26 rfl ?_; (simp only [Try.ntmps26, List.size_toArray, List.length_cons, List.length_nil, Nat.reduceAdd, Nat.reduceSub, Array.replicate_succ, Array.replicate_zero, List.push_toArray, List.append_toArray, List.nil_append, List.cons_append])
  repeat' (first | refine go ?_ | intro _ | (apply cG; first | refine cT ?_ | refine cF ?_ | refine cS (fun _ => ?_) fun _ => ?_) | (apply gW; refine sW ?_) | (apply gI; refine sI ?_) | (apply gE; refine sE ?_) | (apply gP; refine sP ?_) | (apply gC; refine sC ?_) | (apply gD; refine sD ?_) | fail)
  refine C_loopS (κ := Nat) [false, false, false, false, false, true, true, true, true, true, true, true, true, true, true, true, true, true, true, true, true, true, true, true, true, false] (fun k => [(5, .int .i64 (sumAt U (l.take k))), (6, .int .i64 (k : Int))]) (fun k => []) (fun k => k ≤ l.length) (fun k => l.length - k) 0 (Nat.zero_le _) ⟨rfl, rfl, trivial⟩ ?_
  rintro i u hi
  ((try dsimp only); refine C_n ?_; (try simp only [Nat.reduceAdd, Nat.zero_add]))
  by_cases hil : i < l.length
  rotate_left
  · obtain rfl : i = l.length := by omega
    rw [List.take_length]
    repeat' (first | refine go ?_ | intro _ | (apply cG; first | refine cT ?_ | refine cF ?_ | refine cS (fun _ => ?_) fun _ => ?_) | (apply gW; refine sW ?_) | (apply gI; refine sI ?_) | (apply gE; refine sE ?_) | (apply gP; refine sP ?_) | (apply gC; refine sC ?_) | (apply gD; refine sD ?_) | fail)
    refine E_res1 (by rfl) (by rfl) ⟨rfl, rfl⟩ Sb
  obtain ⟨x, hx⟩ : ∃ x, l[i]? = some x := ⟨_, List.getElem?_eq_getElem (by omega)⟩
  have hx2 := hr x (List.mem_of_getElem? hx)
  obtain ⟨n, rfl⟩ : ∃ n : Nat, x = (n : Int) := ⟨x.toNat, by omega⟩
  obtain ⟨y, hy⟩ : ∃ y, U[n]? = some y := ⟨_, List.getElem?_eq_getElem (by omega)⟩
  have hax : At l i (n : Int) := ⟨hx⟩
  have hay : At U n y := ⟨hy⟩
  have hsl := sumAt_le hu hr i
  have hy2 := hu y (List.mem_of_getElem? hy)
  repeat' (first | refine go ?_ | intro _ | (apply cG; first | refine cT ?_ | refine cF ?_ | refine cS (fun _ => ?_) fun _ => ?_) | (apply gW; refine sW ?_) | (apply gI; refine sI ?_) | (apply gE; refine sE ?_) | (apply gP; refine sP ?_) | (apply gC; refine sC ?_) | (apply gD; refine sD ?_) | fail)
  refine C_draw (n := 99) [rd eI (.slice A l.length c) l, rd eI (.slice A1 U.length ca) U, cel p [.slice A1 U.length ca, .slice B1 F.length cb, .slice C1 xs.length cc] 32] [(0, 1), (1, 1), (2, 1), (3, 1), (4, 1), (5, 1), (6, 1), (7, 1), (8, 1), (9, 1), (10, 1), (11, 1), (12, 1)] (by kernel_rfl) (by kernel_rfl) hS ?_
  repeat' (first | refine go ?_ | intro _ | (apply cG; first | refine cT ?_ | refine cF ?_ | refine cS (fun _ => ?_) fun _ => ?_) | (apply gW; refine sW ?_) | (apply gI; refine sI ?_) | (apply gE; refine sE ?_) | (apply gP; refine sP ?_) | (apply gC; refine sC ?_) | (apply gD; refine sD ?_) | fail)
  exact E_round (i + 1) hil (by omega) ⟨by rw [sumAt_take hx (y := y) (by simpa using hy)]; rfl, rfl, trivial⟩ Sb
end
end Go.Proofs.Ytlmabajgnjiigaa
