/-
  Package label, plain: labels, boxes, the search.
-/
import Derived.Test.YtnjjifikogblpaaProg
import Derived.Test.YtnjjifikogblpaaMH
import Derived.Test.YtnjjifikogblpaaMC
namespace Go.Proofs.Ytnjjifikogblpaa
open Go Go.RowKit
set_option linter.unusedVariables false
set_option linter.unusedSimpArgs false
structure AK where
  x : Int
  y : Int
  w : Int
  h : Int
  g : Int
structure BX where
  x0 : Int
  y0 : Int
  x1 : Int
  y1 : Int
  deriving DecidableEq
abbrev inG (n : Int) : Prop := -1073741824 ≤ n ∧ n ≤ 1073741824
abbrev in1 (n : Int) : Prop := 1 ≤ n ∧ n ≤ 1048576
abbrev AK.good (a : AK) : Prop := inG a.x ∧ inG a.y ∧ in1 a.w ∧ in1 a.h ∧ in1 a.g
abbrev BX.good (b : BX) : Prop := inG b.x0 ∧ inG b.y0 ∧ inG b.x1 ∧ inG b.y1 ∧ b.x0 ≤ b.x1 ∧ b.y0 ≤ b.y1
def boxA (a : AK) (p : Int) : BX :=
  ⟨if p = 1 ∨ p = 2 then a.x - a.w else a.x, if 1 < p then a.y - a.h else a.y, (if p = 1 ∨ p = 2 then a.x - a.w else a.x) + a.w, (if 1 < p then a.y - a.h else a.y) + a.h⟩
/-- the box of a label in a position, and the error -/
def boxF (a : AK) (p : Int) : BX × Int :=
  if a.good ∧ 0 ≤ p ∧ p ≤ 3 then (if (boxA a p).good then (boxA a p, 0) else (⟨0, 0, 0, 0⟩, 5)) else (⟨0, 0, 0, 0⟩, 1)
def ovF (a b : BX) : Bool := decide (max a.x0 b.x0 < min a.x1 b.x1 ∧ max a.y0 b.y0 < min a.y1 b.y1)
def freeF (b : BX) (l : List BX) : Bool := l.all fun c => !ovF b c
def checkF (l : List AK) (t : List BX) : Int :=
  if 64 < l.length ∨ 256 < t.length then 4 else if ∀ a ∈ l, a.good then (if ∀ b ∈ t, b.good then 0 else 5) else 1
/-- the possible positions of a label -/
def choF (a : AK) (t : List BX) : List (Int × BX) := ([0, 1, 2, 3] : List Int).filterMap fun p => if (boxF a p).2 = 0 ∧ freeF (boxF a p).1 t = true then some (p, (boxF a p).1) else none
def restF (l : List AK) : Int := (l.map AK.g).sum
structure SrS where
  best : List Int
  most : Int
  steps : Nat
/-- the search, as the reference makes it -/
def enterR (t : List BX) : List AK → Int → List Int → List BX → SrS → SrS
  | [], w, now, bx, s => if w > s.most then ⟨now, w, s.steps⟩ else s
  | a :: ls, w, now, bx, s =>
    if w + restF (a :: ls) ≤ s.most then ⟨s.best, s.most, s.steps + 1⟩ else
      enterR t ls w (now ++ [-1]) bx ((choF a t).foldl (fun s c => if freeF c.2 bx then enterR t ls (w + a.g) (now ++ [c.1]) (bx ++ [c.2]) s else s) ⟨s.best, s.most, s.steps + 1⟩)
/-- a fold that may stop -/
def foldO {α σ : Type} (f : σ → α → Option σ) : List α → σ → Option σ
  | [], s => some s
  | a :: l, s => match f s a with
    | some s' => foldO f l s'
    | none => none
/-- the search, as the program makes it: it stops when the fuel is used up -/
def enterP (t : List BX) (fuel : Int) : List AK → Int → List Int → List BX → SrS → Option SrS
  | [], w, now, bx, s => some (if w > s.most then ⟨now, w, s.steps⟩ else s)
  | a :: ls, w, now, bx, s =>
    if (s.steps : Int) + 1 > fuel then none else if w + restF (a :: ls) ≤ s.most then some ⟨s.best, s.most, s.steps + 1⟩ else
      match foldO (fun s c => if freeF c.2 bx then enterP t fuel ls (w + a.g) (now ++ [c.1]) (bx ++ [c.2]) s else some s) (choF a t) ⟨s.best, s.most, s.steps + 1⟩ with
      | some s' => enterP t fuel ls w (now ++ [-1]) bx s'
      | none => none
theorem foldl_mono {α : Type} {f : SrS → α → SrS} (hf : ∀ s c, s.steps ≤ (f s c).steps) : ∀ (cs : List α) (s : SrS), s.steps ≤ (cs.foldl f s).steps
  | [], s => Nat.le_refl _
  | c :: cs, s => Nat.le_trans (hf s c) (foldl_mono hf cs (f s c))
theorem foldO_agree {α : Type} {f : SrS → α → SrS} {g : SrS → α → Option SrS} {fuel : Int} (hf : ∀ s c, s.steps ≤ (f s c).steps) (hg : ∀ s c, (s.steps : Int) ≤ fuel → g s c = if ((f s c).steps : Int) ≤ fuel then some (f s c) else none) :
    ∀ (cs : List α) (s : SrS), (s.steps : Int) ≤ fuel → foldO g cs s = if ((cs.foldl f s).steps : Int) ≤ fuel then some (cs.foldl f s) else none
  | [], s, hs => by
    show some s = if (s.steps : Int) ≤ fuel then some s else none
    rw [if_pos hs]
  | c :: cs, s, hs => by
    unfold foldO
    rw [List.foldl_cons, hg s c hs]
    by_cases h : ((f s c).steps : Int) ≤ fuel
    · rw [if_pos h]
      exact foldO_agree hf hg cs (f s c) h
    · rw [if_neg h, if_neg]
      have := foldl_mono hf cs (f s c)
      omega
theorem enterR_mono (t : List BX) : ∀ (ls : List AK) (w : Int) (now : List Int) (bx : List BX) (s : SrS), s.steps ≤ (enterR t ls w now bx s).steps
  | [], w, now, bx, s => by
    unfold enterR
    split <;> exact Nat.le_refl _
  | a :: ls, w, now, bx, s => by
    unfold enterR
    split
    · exact Nat.le_succ _
    have hf := foldl_mono (f := fun (s : SrS) (c : Int × BX) => if freeF c.2 bx then enterR t ls (w + a.g) (now ++ [c.1]) (bx ++ [c.2]) s else s) (fun s c => by
      split
      · exact enterR_mono t ls _ _ _ s
      · exact Nat.le_refl _)
    exact Nat.le_trans (Nat.le_trans (Nat.le_succ _) (hf (choF a t) ⟨s.best, s.most, s.steps + 1⟩)) (enterR_mono t ls w (now ++ [-1]) bx _)
/-- the two searches agree as long as the fuel lasts -/
theorem enter_agree (t : List BX) (fuel : Int) : ∀ (ls : List AK) (w : Int) (now : List Int) (bx : List BX) (s : SrS), (s.steps : Int) ≤ fuel →
    enterP t fuel ls w now bx s = if ((enterR t ls w now bx s).steps : Int) ≤ fuel then some (enterR t ls w now bx s) else none
  | [], w, now, bx, s, h => by
    unfold enterP enterR
    by_cases hw : w > s.most
    · rw [if_pos hw, if_pos h]
    · rw [if_neg hw, if_pos h]
  | a :: ls, w, now, bx, s, h => by
    unfold enterP
    by_cases h1 : (s.steps : Int) + 1 > fuel
    · rw [if_pos h1, if_neg]
      have hm := enterR_mono t (a :: ls) w now bx s
      have h2 : s.steps + 1 ≤ (enterR t (a :: ls) w now bx s).steps := by
        unfold enterR
        split
        · exact Nat.le_refl _
        have hf := foldl_mono (f := fun (s : SrS) (c : Int × BX) => if freeF c.2 bx then enterR t ls (w + a.g) (now ++ [c.1]) (bx ++ [c.2]) s else s) (fun s c => by
          split
          · exact enterR_mono t ls _ _ _ s
          · exact Nat.le_refl _)
        exact Nat.le_trans (hf (choF a t) ⟨s.best, s.most, s.steps + 1⟩) (enterR_mono t ls w (now ++ [-1]) bx _)
      omega
    rw [if_neg h1]
    unfold enterR
    by_cases h2 : w + restF (a :: ls) ≤ s.most
    · rw [if_pos h2, if_pos h2, if_pos (by dsimp only; omega)]
    rw [if_neg h2, if_neg h2]
    have hf := foldO_agree (fuel := fuel) (f := fun (s : SrS) (c : Int × BX) => if freeF c.2 bx then enterR t ls (w + a.g) (now ++ [c.1]) (bx ++ [c.2]) s else s) (g := fun (s : SrS) (c : Int × BX) => if freeF c.2 bx then enterP t fuel ls (w + a.g) (now ++ [c.1]) (bx ++ [c.2]) s else some s) (fun s c => by
      split
      · exact enterR_mono t ls _ _ _ s
      · exact Nat.le_refl _) (fun s c hs => by
      by_cases hc : freeF c.2 bx = true
      · simp only [hc, if_true]
        exact enter_agree t fuel ls (w + a.g) (now ++ [c.1]) (bx ++ [c.2]) s hs
      · rw [if_neg hc, if_neg hc, if_pos hs])
    rw [hf (choF a t) ⟨s.best, s.most, s.steps + 1⟩ (by dsimp only; omega)]
    obtain ⟨s2, hs2⟩ : ∃ s2, (choF a t).foldl (fun s c => if freeF c.2 bx then enterR t ls (w + a.g) (now ++ [c.1]) (bx ++ [c.2]) s else s) ⟨s.best, s.most, s.steps + 1⟩ = s2 := ⟨_, rfl⟩
    rw [hs2]
    by_cases h3 : (s2.steps : Int) ≤ fuel
    · rw [if_pos h3]
      exact enter_agree t fuel ls w (now ++ [-1]) bx s2 h3
    · rw [if_neg h3, if_neg]
      have := enterR_mono t ls w (now ++ [-1]) bx s2
      omega
end Go.Proofs.Ytnjjifikogblpaa
namespace Go.Proofs.Ytnjjifikogblpaa
set_option linter.unusedVariables false
set_option linter.unusedSimpArgs false
/-- a thing: its box and its days -/
structure IT where
  b : BX
  f : Int
  t : Int
  deriving DecidableEq
abbrev Ent := Int × IT
abbrev Blk := Nat × Nat × Nat
def X0 (b : BX) : Nat := (b.x0 + 1073741824).toNat
def Y0 (b : BX) : Nat := (b.y0 + 1073741824).toNat
def X1 (b : BX) : Nat := (b.x1 + 1073741824).toNat
def Y1 (b : BX) : Nat := (b.y1 + 1073741824).toNat
theorem BX.good.nums {b : BX} (h : b.good) : (X0 b : Int) = b.x0 + 1073741824 ∧ (Y0 b : Int) = b.y0 + 1073741824 ∧ (X1 b : Int) = b.x1 + 1073741824 ∧ (Y1 b : Int) = b.y1 + 1073741824 ∧ X0 b ≤ X1 b ∧ Y0 b ≤ Y1 b ∧ X1 b ≤ 2147483648 ∧ Y1 b ≤ 2147483648 := by
  obtain ⟨⟨h1, h2⟩, ⟨h3, h4⟩, ⟨h5, h6⟩, ⟨h7, h8⟩, h9, h10⟩ := h
  unfold X0 Y0 X1 Y1
  omega
/-- at level n the two corners lie in one block -/
def same (b : BX) (n : Nat) : Bool := decide (X0 b / 2 ^ n = X1 b / 2 ^ n ∧ Y0 b / 2 ^ n = Y1 b / 2 ^ n)
def lvB (b : BX) : Nat := ((List.range 33).find? (same b)).getD 32
theorem div_pow_succ (x n : Nat) : x / 2 ^ (n + 1) = x / 2 ^ n / 2 := by rw [Nat.pow_succ, Nat.div_div_eq_div_mul]
theorem div_pow_add (x n m : Nat) : x / 2 ^ (n + m) = x / 2 ^ n / 2 ^ m := by rw [Nat.pow_add, Nat.div_div_eq_div_mul]
theorem same_32 {b : BX} (h : b.good) : same b 32 = true := by
  obtain ⟨_, _, _, _, h1, h2, h3, h4⟩ := h.nums
  refine decide_eq_true ⟨?_, ?_⟩ <;> rw [Nat.div_eq_of_lt (by omega), Nat.div_eq_of_lt (by omega)]
theorem same_succ {b : BX} {n : Nat} (h : same b n = true) : same b (n + 1) = true := by
  obtain ⟨h1, h2⟩ := of_decide_eq_true h
  refine decide_eq_true ⟨?_, ?_⟩ <;> rw [div_pow_succ, div_pow_succ]
  · rw [h1]
  · rw [h2]
theorem same_le {b : BX} {n : Nat} : ∀ {m : Nat}, n ≤ m → same b n = true → same b m = true
  | 0, h, k => by rw [← Nat.le_zero.1 h]; exact k
  | m + 1, h, k => by
    rcases Nat.lt_or_ge n (m + 1) with h1 | h1
    · exact same_succ (same_le (Nat.le_of_lt_succ h1) k)
    · rw [Nat.le_antisymm h1 h]; exact k
theorem lv_le (b : BX) : lvB b ≤ 32 := by
  unfold lvB
  cases h : (List.range 33).find? (same b) with
  | none => exact Nat.le_refl _
  | some i =>
    have := List.mem_range.1 (List.mem_of_find?_eq_some h)
    show i ≤ 32
    omega
theorem lv_same {b : BX} (h : b.good) : same b (lvB b) = true := by
  unfold lvB
  cases hf : (List.range 33).find? (same b) with
  | none => exact same_32 h
  | some i => exact List.find?_some hf
theorem lv_min {b : BX} {m : Nat} (h : m < lvB b) : same b m = false := by
  have hl := lv_le b
  unfold lvB at h hl
  cases hf : (List.range 33).find? (same b) with
  | none =>
    have := List.find?_eq_none.1 hf m (List.mem_range.2 (by rw [hf] at h; simp at h; omega))
    simpa using this
  | some i =>
    rw [hf] at h
    have := List.find?_range_eq_some.1 hf
    have := this.2.2 m h
    simpa using this
theorem lv_of {b : BX} {n : Nat} (h : same b n = true) (hn : ∀ m, m < n → same b m = false) (h32 : n ≤ 32) : lvB b = n := by
  rcases Nat.lt_trichotomy (lvB b) n with h1 | h1 | h1
  · have h2 := hn _ h1
    unfold lvB at h2
    cases hf : (List.range 33).find? (same b) with
    | none => have := List.find?_eq_none.1 hf n (List.mem_range.2 (by omega)); exact absurd h this
    | some i =>
      rw [hf] at h2
      have h3 := List.find?_some hf
      have h2' : same b i = false := h2
      rw [h3] at h2'
      cases h2'
  · exact h1
  · rw [lv_min h1] at h; cases h
/-- the block of a level that a box's first corner lies in -/
def blkB (b : BX) (n : Nat) : Nat × Nat := (X0 b / 2 ^ n, Y0 b / 2 ^ n)
/-- which quarter of its block of level n a box lies in -/
def qB (b : BX) (n : Nat) : Nat := X0 b / 2 ^ (n - 1) % 2 + 2 * (Y0 b / 2 ^ (n - 1) % 2)
theorem qB_lt (b : BX) (n : Nat) : qB b n < 4 := by unfold qB; omega
inductive QT where
  | nil : QT
  | nd (p m : Nat) (mm : List Ent) (k0 k1 k2 k3 : QT) : QT
def hereQ (n : Nat) (e : Ent) : Bool := decide (lvB e.2.b = n)
def inQ (n q : Nat) (e : Ent) : Bool := decide (lvB e.2.b < n ∧ qB e.2.b n = q)
/-- the tree holds these things -/
def QOk : QT → Nat → List Ent → Prop
  | .nil, _, E => E = []
  | .nd _ _ mm k0 k1 k2 k3, n, E => E ≠ [] ∧ mm.Perm (E.filter (hereQ n)) ∧ QOk k0 (n - 1) (E.filter (inQ n 0)) ∧ QOk k1 (n - 1) (E.filter (inQ n 1)) ∧ QOk k2 (n - 1) (E.filter (inQ n 2)) ∧ QOk k3 (n - 1) (E.filter (inQ n 3))
theorem QOk.perm : ∀ {t : QT} {n : Nat} {E E' : List Ent}, QOk t n E → E.Perm E' → QOk t n E'
  | .nil, _, _, _, h, p => by
    have h' : _ = [] := h
    subst h'
    exact List.Perm.nil_eq p |>.symm
  | .nd _ _ mm k0 k1 k2 k3, n, E, E', ⟨h0, h1, h2, h3, h4, h5⟩, p =>
    ⟨fun h => h0 (by subst h; exact List.Perm.eq_nil p), h1.trans (p.filter _), h2.perm (p.filter _), h3.perm (p.filter _), h4.perm (p.filter _), h5.perm (p.filter _)⟩
/-- what lies at or below level n at a block -/
def Under (n i j : Nat) (E : List Ent) : Prop := ∀ e ∈ E, e.2.b.good ∧ lvB e.2.b ≤ n ∧ blkB e.2.b n = (i, j)
theorem Under.kid {n i j q : Nat} {E : List Ent} (h : Under n i j E) : Under (n - 1) (2 * i + q % 2) (2 * j + q / 2) (E.filter (inQ n q)) := by
  intro e he
  obtain ⟨he, hq⟩ := List.mem_filter.1 he
  obtain ⟨h1, h2⟩ := of_decide_eq_true hq
  obtain ⟨g, _, hb⟩ := h e he
  refine ⟨g, by omega, ?_⟩
  obtain ⟨k, rfl⟩ : ∃ k, n = k + 1 := ⟨n - 1, by omega⟩
  unfold blkB at hb ⊢
  unfold qB at h2
  rw [div_pow_succ, div_pow_succ] at hb
  injection hb with hb1 hb2
  rw [Nat.add_sub_cancel] at h2 ⊢
  ext
  · show X0 e.2.b / 2 ^ k = _
    omega
  · show Y0 e.2.b / 2 ^ k = _
    omega
end Go.Proofs.Ytnjjifikogblpaa
namespace Go.Proofs.Ytnjjifikogblpaa
theorem ti_of {P : Program} {t : TypeId} {z : Value} {s b : Nat} (h : (P.info? t).map (fun i => (i.zero, i.size, i.bytes)) = some (some z, s, b)) : TI P t z s b := by
  cases hi : P.info? t with
  | none => rw [hi] at h; cases h
  | some i =>
    rw [hi] at h
    simp only [Option.map_some, Option.some.injEq, Prod.mk.injEq] at h
    exact ⟨i, hi, h.1, h.2.1, h.2.2⟩
theorem ag_of {P : Program} {t : TypeId} {b : Bool} (h : (P.underlying t).map aggD = some b) : AG P t b := by
  cases hi : P.underlying t with
  | none => rw [hi] at h; cases h
  | some d => rw [hi] at h; simp only [Option.map_some, Option.some.injEq] at h; exact ⟨d, hi, h⟩
instance : AG Try.prog 0 false := ag_of (by kernel_rfl)
instance : AG Try.prog 1 false := ag_of (by kernel_rfl)
instance : TI Try.prog 1 .nilFunc 1 8 := ti_of (by kernel_rfl)
instance : UL Try.prog 2 (.int .i64) := ⟨Try.underlying2⟩
instance : AG Try.prog 2 false := ag_of (by kernel_rfl)
instance : TI Try.prog 2 (.int .i64 0) 1 8 := ti_of (by kernel_rfl)
instance : UL Try.prog 3 (.int .i64) := ⟨Try.underlying3⟩
instance : AG Try.prog 3 false := ag_of (by kernel_rfl)
instance : TI Try.prog 3 (.int .i64 0) 1 8 := ti_of (by kernel_rfl)
instance : UL Try.prog 4 .bool := ⟨Try.underlying4⟩
instance : AG Try.prog 4 false := ag_of (by kernel_rfl)
instance : TI Try.prog 4 (.bool false) 1 1 := ti_of (by kernel_rfl)
instance : UL Try.prog 5 (.int .u8) := ⟨Try.underlying5⟩
instance : AG Try.prog 5 false := ag_of (by kernel_rfl)
instance : TI Try.prog 5 (.int .u8 0) 1 1 := ti_of (by kernel_rfl)
instance : UL Try.prog 6 (.int .u8) := ⟨Try.underlying6⟩
instance : AG Try.prog 6 false := ag_of (by kernel_rfl)
instance : TI Try.prog 6 (.int .u8 0) 1 1 := ti_of (by kernel_rfl)
instance : AG Try.prog 7 true := ag_of (by kernel_rfl)
instance : TI Try.prog 7 (.agg #[(.int .i64 0), (.int .i64 0), (.bool false), (.int .u8 0)]) 4 24 := ti_of (by kernel_rfl)
instance : AG Try.prog 8 true := ag_of (by kernel_rfl)
instance : TI Try.prog 8 (.agg #[(.int .i64 0), (.int .i64 0), (.bool false), (.int .u8 0)]) 4 24 := ti_of (by kernel_rfl)
instance : UL Try.prog 9 .string := ⟨Try.underlying9⟩
instance : AG Try.prog 9 false := ag_of (by kernel_rfl)
instance : TI Try.prog 9 (.string ⟨#[]⟩) 1 16 := ti_of (by kernel_rfl)
instance : UL Try.prog 10 .string := ⟨Try.underlying10⟩
instance : AG Try.prog 10 false := ag_of (by kernel_rfl)
instance : TI Try.prog 10 (.string ⟨#[]⟩) 1 16 := ti_of (by kernel_rfl)
instance : UL Try.prog 11 .string := ⟨Try.underlying11⟩
instance : AG Try.prog 11 false := ag_of (by kernel_rfl)
instance : TI Try.prog 11 (.string ⟨#[]⟩) 1 16 := ti_of (by kernel_rfl)
instance : UL Try.prog 12 (.int .u64) := ⟨Try.underlying12⟩
instance : AG Try.prog 12 false := ag_of (by kernel_rfl)
instance : TI Try.prog 12 (.int .u64 0) 1 8 := ti_of (by kernel_rfl)
instance : AG Try.prog 13 true := ag_of (by kernel_rfl)
instance : TI Try.prog 13 (.agg #[(.string ⟨#[]⟩), (.int .u64 0)]) 2 24 := ti_of (by kernel_rfl)
instance : AG Try.prog 14 true := ag_of (by kernel_rfl)
instance : TI Try.prog 14 (.agg #[(.string ⟨#[]⟩), (.int .u64 0)]) 2 24 := ti_of (by kernel_rfl)
instance : UL Try.prog 15 (.pointer 124) := ⟨Try.underlying15⟩
instance : AG Try.prog 15 false := ag_of (by kernel_rfl)
instance : TI Try.prog 15 (.pointer none) 1 8 := ti_of (by kernel_rfl)
instance : UL Try.prog 16 (.pointer 127) := ⟨Try.underlying16⟩
instance : AG Try.prog 16 false := ag_of (by kernel_rfl)
instance : TI Try.prog 16 (.pointer none) 1 8 := ti_of (by kernel_rfl)
instance : UL Try.prog 17 (.pointer 135) := ⟨Try.underlying17⟩
instance : AG Try.prog 17 false := ag_of (by kernel_rfl)
instance : TI Try.prog 17 (.pointer none) 1 8 := ti_of (by kernel_rfl)
instance : AG Try.prog 18 true := ag_of (by kernel_rfl)
instance : TI Try.prog 18 (.agg #[(.pointer none)]) 1 8 := ti_of (by kernel_rfl)
instance : AG Try.prog 19 true := ag_of (by kernel_rfl)
instance : TI Try.prog 19 (.agg #[(.pointer none)]) 1 8 := ti_of (by kernel_rfl)
instance : AG Try.prog 20 false := ag_of (by kernel_rfl)
instance : TI Try.prog 20 .nilIface 1 16 := ti_of (by kernel_rfl)
instance : UL Try.prog 21 (.int .i32) := ⟨Try.underlying21⟩
instance : AG Try.prog 21 false := ag_of (by kernel_rfl)
instance : TI Try.prog 21 (.int .i32 0) 1 4 := ti_of (by kernel_rfl)
instance : UL Try.prog 22 (.slice 3) := ⟨Try.underlying22⟩
instance : AG Try.prog 22 false := ag_of (by kernel_rfl)
instance : TI Try.prog 22 (.slice none 0 0) 1 24 := ti_of (by kernel_rfl)
instance : UL Try.prog 23 (.pointer 68) := ⟨Try.underlying23⟩
instance : AG Try.prog 23 false := ag_of (by kernel_rfl)
instance : TI Try.prog 23 (.pointer none) 1 8 := ti_of (by kernel_rfl)
instance : UL Try.prog 24 (.pointer 36) := ⟨Try.underlying24⟩
instance : AG Try.prog 24 false := ag_of (by kernel_rfl)
instance : TI Try.prog 24 (.pointer none) 1 8 := ti_of (by kernel_rfl)
instance : AG Try.prog 25 false := ag_of (by kernel_rfl)
instance : AG Try.prog 26 false := ag_of (by kernel_rfl)
instance : TI Try.prog 26 .nilFunc 1 8 := ti_of (by kernel_rfl)
instance : AG Try.prog 27 false := ag_of (by kernel_rfl)
instance : TI Try.prog 27 .nilFunc 1 8 := ti_of (by kernel_rfl)
instance : AG Try.prog 28 true := ag_of (by kernel_rfl)
instance : TI Try.prog 28 (.agg #[(.int .i64 0), (.int .i64 0)]) 2 16 := ti_of (by kernel_rfl)
instance : AG Try.prog 29 true := ag_of (by kernel_rfl)
instance : TI Try.prog 29 (.agg #[(.int .i64 0), (.int .i64 0)]) 2 16 := ti_of (by kernel_rfl)
instance : AG Try.prog 30 true := ag_of (by kernel_rfl)
instance : TI Try.prog 30 (.agg #[(.int .i64 0), (.int .i64 0), (.int .i64 0), (.int .i64 0)]) 4 32 := ti_of (by kernel_rfl)
instance : AG Try.prog 31 true := ag_of (by kernel_rfl)
instance : TI Try.prog 31 (.agg #[(.int .i64 0), (.int .i64 0), (.int .i64 0), (.int .i64 0)]) 4 32 := ti_of (by kernel_rfl)
instance : AG Try.prog 32 false := ag_of (by kernel_rfl)
instance : TI Try.prog 32 .nilFunc 1 8 := ti_of (by kernel_rfl)
instance : UL Try.prog 33 (.slice 31) := ⟨Try.underlying33⟩
instance : AG Try.prog 33 false := ag_of (by kernel_rfl)
instance : TI Try.prog 33 (.slice none 0 0) 1 24 := ti_of (by kernel_rfl)
instance : UL Try.prog 34 (.slice 38) := ⟨Try.underlying34⟩
instance : AG Try.prog 34 false := ag_of (by kernel_rfl)
instance : TI Try.prog 34 (.slice none 0 0) 1 24 := ti_of (by kernel_rfl)
instance : AG Try.prog 35 true := ag_of (by kernel_rfl)
instance : TI Try.prog 35 (.agg #[(.slice none 0 0), (.int .i64 0)]) 2 32 := ti_of (by kernel_rfl)
instance : AG Try.prog 36 true := ag_of (by kernel_rfl)
instance : TI Try.prog 36 (.agg #[(.slice none 0 0), (.int .i64 0)]) 2 32 := ti_of (by kernel_rfl)
instance : AG Try.prog 37 true := ag_of (by kernel_rfl)
instance : TI Try.prog 37 (.agg #[(.int .i64 0), (.int .i64 0), (.int .i64 0), (.int .i64 0), (.int .i64 0), (.int .i64 0), (.int .i64 0)]) 7 56 := ti_of (by kernel_rfl)
instance : AG Try.prog 38 true := ag_of (by kernel_rfl)
instance : TI Try.prog 38 (.agg #[(.int .i64 0), (.int .i64 0), (.int .i64 0), (.int .i64 0), (.int .i64 0), (.int .i64 0), (.int .i64 0)]) 7 56 := ti_of (by kernel_rfl)
instance : AG Try.prog 39 false := ag_of (by kernel_rfl)
instance : TI Try.prog 39 .nilFunc 1 8 := ti_of (by kernel_rfl)
instance : UL Try.prog 40 (.int .i64) := ⟨Try.underlying40⟩
instance : AG Try.prog 40 false := ag_of (by kernel_rfl)
instance : TI Try.prog 40 (.int .i64 0) 1 8 := ti_of (by kernel_rfl)
instance : AG Try.prog 41 false := ag_of (by kernel_rfl)
instance : AG Try.prog 42 false := ag_of (by kernel_rfl)
instance : TI Try.prog 42 .nilFunc 1 8 := ti_of (by kernel_rfl)
instance : AG Try.prog 43 false := ag_of (by kernel_rfl)
instance : TI Try.prog 43 .nilFunc 1 8 := ti_of (by kernel_rfl)
instance : AG Try.prog 44 false := ag_of (by kernel_rfl)
instance : TI Try.prog 44 .nilFunc 1 8 := ti_of (by kernel_rfl)
instance : AG Try.prog 45 false := ag_of (by kernel_rfl)
instance : TI Try.prog 45 .nilFunc 1 8 := ti_of (by kernel_rfl)
instance : AG Try.prog 46 false := ag_of (by kernel_rfl)
instance : TI Try.prog 46 .nilFunc 1 8 := ti_of (by kernel_rfl)
instance : UL Try.prog 47 (.array 2 3) := ⟨Try.underlying47⟩
instance : AG Try.prog 47 true := ag_of (by kernel_rfl)
instance : TI Try.prog 47 (.agg #[(.int .i64 0), (.int .i64 0)]) 2 16 := ti_of (by kernel_rfl)
instance : UL Try.prog 48 (.slice 47) := ⟨Try.underlying48⟩
instance : AG Try.prog 48 false := ag_of (by kernel_rfl)
instance : TI Try.prog 48 (.slice none 0 0) 1 24 := ti_of (by kernel_rfl)
instance : AG Try.prog 49 false := ag_of (by kernel_rfl)
instance : TI Try.prog 49 .nilFunc 1 8 := ti_of (by kernel_rfl)
instance : AG Try.prog 50 false := ag_of (by kernel_rfl)
instance : TI Try.prog 50 .nilFunc 1 8 := ti_of (by kernel_rfl)
instance : AG Try.prog 51 false := ag_of (by kernel_rfl)
instance : TI Try.prog 51 .nilFunc 1 8 := ti_of (by kernel_rfl)
instance : AG Try.prog 52 false := ag_of (by kernel_rfl)
instance : TI Try.prog 52 .nilFunc 1 8 := ti_of (by kernel_rfl)
instance : AG Try.prog 53 false := ag_of (by kernel_rfl)
instance : TI Try.prog 53 .nilFunc 1 8 := ti_of (by kernel_rfl)
instance : AG Try.prog 54 false := ag_of (by kernel_rfl)
instance : TI Try.prog 54 .nilFunc 1 8 := ti_of (by kernel_rfl)
instance : UL Try.prog 55 (.slice 58) := ⟨Try.underlying55⟩
instance : AG Try.prog 55 false := ag_of (by kernel_rfl)
instance : TI Try.prog 55 (.slice none 0 0) 1 24 := ti_of (by kernel_rfl)
instance : AG Try.prog 56 false := ag_of (by kernel_rfl)
instance : TI Try.prog 56 .nilFunc 1 8 := ti_of (by kernel_rfl)
instance : AG Try.prog 57 true := ag_of (by kernel_rfl)
instance : TI Try.prog 57 (.agg #[(.bool false), (.int .i64 0), (.int .i64 0), (.int .i64 0), (.int .i64 0), (.int .i64 0), (.int .i64 0), (.int .i64 0)]) 8 64 := ti_of (by kernel_rfl)
instance : AG Try.prog 58 true := ag_of (by kernel_rfl)
instance : TI Try.prog 58 (.agg #[(.bool false), (.int .i64 0), (.int .i64 0), (.int .i64 0), (.int .i64 0), (.int .i64 0), (.int .i64 0), (.int .i64 0)]) 8 64 := ti_of (by kernel_rfl)
instance : AG Try.prog 59 false := ag_of (by kernel_rfl)
instance : TI Try.prog 59 .nilFunc 1 8 := ti_of (by kernel_rfl)
instance : AG Try.prog 60 false := ag_of (by kernel_rfl)
instance : TI Try.prog 60 .nilFunc 1 8 := ti_of (by kernel_rfl)
instance : AG Try.prog 61 false := ag_of (by kernel_rfl)
instance : TI Try.prog 61 .nilFunc 1 8 := ti_of (by kernel_rfl)
instance : AG Try.prog 62 false := ag_of (by kernel_rfl)
instance : TI Try.prog 62 .nilFunc 1 8 := ti_of (by kernel_rfl)
instance : AG Try.prog 63 false := ag_of (by kernel_rfl)
instance : TI Try.prog 63 .nilFunc 1 8 := ti_of (by kernel_rfl)
instance : AG Try.prog 64 false := ag_of (by kernel_rfl)
instance : TI Try.prog 64 .nilFunc 1 8 := ti_of (by kernel_rfl)
instance : UL Try.prog 65 (.pointer 78) := ⟨Try.underlying65⟩
instance : AG Try.prog 65 false := ag_of (by kernel_rfl)
instance : TI Try.prog 65 (.pointer none) 1 8 := ti_of (by kernel_rfl)
instance : UL Try.prog 66 (.map 3 80) := ⟨Try.underlying66⟩
instance : AG Try.prog 66 false := ag_of (by kernel_rfl)
instance : TI Try.prog 66 (.map none) 1 8 := ti_of (by kernel_rfl)
instance : AG Try.prog 67 true := ag_of (by kernel_rfl)
instance : TI Try.prog 67 (.agg #[(.pointer none), (.map none), (.int .i64 0)]) 3 24 := ti_of (by kernel_rfl)
instance : AG Try.prog 68 true := ag_of (by kernel_rfl)
instance : TI Try.prog 68 (.agg #[(.pointer none), (.map none), (.int .i64 0)]) 3 24 := ti_of (by kernel_rfl)
instance : AG Try.prog 69 false := ag_of (by kernel_rfl)
instance : TI Try.prog 69 .nilFunc 1 8 := ti_of (by kernel_rfl)
instance : AG Try.prog 70 false := ag_of (by kernel_rfl)
instance : TI Try.prog 70 .nilFunc 1 8 := ti_of (by kernel_rfl)
instance : AG Try.prog 71 false := ag_of (by kernel_rfl)
instance : TI Try.prog 71 .nilFunc 1 8 := ti_of (by kernel_rfl)
instance : AG Try.prog 72 false := ag_of (by kernel_rfl)
instance : TI Try.prog 72 .nilFunc 1 8 := ti_of (by kernel_rfl)
instance : AG Try.prog 73 true := ag_of (by kernel_rfl)
instance : TI Try.prog 73 (.agg #[(.int .i64 0), (.int .i64 0), (.int .i64 0)]) 3 24 := ti_of (by kernel_rfl)
instance : AG Try.prog 74 true := ag_of (by kernel_rfl)
instance : TI Try.prog 74 (.agg #[(.int .i64 0), (.int .i64 0), (.int .i64 0)]) 3 24 := ti_of (by kernel_rfl)
instance : AG Try.prog 75 false := ag_of (by kernel_rfl)
instance : TI Try.prog 75 .nilFunc 1 8 := ti_of (by kernel_rfl)
instance : UL Try.prog 76 (.array 4 65) := ⟨Try.underlying76⟩
instance : AG Try.prog 76 true := ag_of (by kernel_rfl)
instance : TI Try.prog 76 (.agg #[(.pointer none), (.pointer none), (.pointer none), (.pointer none)]) 4 32 := ti_of (by kernel_rfl)
instance : AG Try.prog 77 true := ag_of (by kernel_rfl)
instance : TI Try.prog 77 (.agg #[(.pointer none), (.pointer none), (.pointer none), (.pointer none), (.map none)]) 5 40 := ti_of (by kernel_rfl)
instance : AG Try.prog 78 true := ag_of (by kernel_rfl)
instance : TI Try.prog 78 (.agg #[(.pointer none), (.pointer none), (.pointer none), (.pointer none), (.map none)]) 5 40 := ti_of (by kernel_rfl)
instance : AG Try.prog 79 true := ag_of (by kernel_rfl)
instance : TI Try.prog 79 (.agg #[(.int .i64 0), (.int .i64 0), (.int .i64 0), (.int .i64 0), (.int .i64 0), (.int .i64 0)]) 6 48 := ti_of (by kernel_rfl)
instance : AG Try.prog 80 true := ag_of (by kernel_rfl)
instance : TI Try.prog 80 (.agg #[(.int .i64 0), (.int .i64 0), (.int .i64 0), (.int .i64 0), (.int .i64 0), (.int .i64 0)]) 6 48 := ti_of (by kernel_rfl)
instance : AG Try.prog 81 false := ag_of (by kernel_rfl)
instance : TI Try.prog 81 .nilFunc 1 8 := ti_of (by kernel_rfl)
instance : AG Try.prog 82 false := ag_of (by kernel_rfl)
instance : TI Try.prog 82 .nilFunc 1 8 := ti_of (by kernel_rfl)
instance : AG Try.prog 83 false := ag_of (by kernel_rfl)
instance : TI Try.prog 83 .nilFunc 1 8 := ti_of (by kernel_rfl)
instance : UL Try.prog 84 (.slice 88) := ⟨Try.underlying84⟩
instance : AG Try.prog 84 false := ag_of (by kernel_rfl)
instance : TI Try.prog 84 (.slice none 0 0) 1 24 := ti_of (by kernel_rfl)
instance : AG Try.prog 85 false := ag_of (by kernel_rfl)
instance : TI Try.prog 85 .nilFunc 1 8 := ti_of (by kernel_rfl)
instance : AG Try.prog 86 false := ag_of (by kernel_rfl)
instance : TI Try.prog 86 .nilFunc 1 8 := ti_of (by kernel_rfl)
instance : AG Try.prog 87 true := ag_of (by kernel_rfl)
instance : TI Try.prog 87 (.agg #[(.int .i64 0), (.int .i64 0), (.int .i64 0)]) 3 24 := ti_of (by kernel_rfl)
instance : AG Try.prog 88 true := ag_of (by kernel_rfl)
instance : TI Try.prog 88 (.agg #[(.int .i64 0), (.int .i64 0), (.int .i64 0)]) 3 24 := ti_of (by kernel_rfl)
instance : AG Try.prog 89 false := ag_of (by kernel_rfl)
instance : AG Try.prog 90 false := ag_of (by kernel_rfl)
instance : TI Try.prog 90 .nilFunc 1 8 := ti_of (by kernel_rfl)
instance : AG Try.prog 91 false := ag_of (by kernel_rfl)
instance : TI Try.prog 91 .nilFunc 1 8 := ti_of (by kernel_rfl)
instance : AG Try.prog 92 false := ag_of (by kernel_rfl)
instance : TI Try.prog 92 .nilFunc 1 8 := ti_of (by kernel_rfl)
instance : UL Try.prog 93 (.int .u64) := ⟨Try.underlying93⟩
instance : AG Try.prog 93 false := ag_of (by kernel_rfl)
instance : TI Try.prog 93 (.int .u64 0) 1 8 := ti_of (by kernel_rfl)
instance : AG Try.prog 94 false := ag_of (by kernel_rfl)
instance : TI Try.prog 94 .nilFunc 1 8 := ti_of (by kernel_rfl)
instance : AG Try.prog 95 false := ag_of (by kernel_rfl)
instance : TI Try.prog 95 .nilFunc 1 8 := ti_of (by kernel_rfl)
instance : AG Try.prog 96 false := ag_of (by kernel_rfl)
instance : TI Try.prog 96 .nilFunc 1 8 := ti_of (by kernel_rfl)
instance : AG Try.prog 97 false := ag_of (by kernel_rfl)
instance : TI Try.prog 97 .nilFunc 1 8 := ti_of (by kernel_rfl)
instance : AG Try.prog 98 false := ag_of (by kernel_rfl)
instance : TI Try.prog 98 .nilFunc 1 8 := ti_of (by kernel_rfl)
instance : AG Try.prog 99 false := ag_of (by kernel_rfl)
instance : TI Try.prog 99 .nilFunc 1 8 := ti_of (by kernel_rfl)
instance : AG Try.prog 100 false := ag_of (by kernel_rfl)
instance : TI Try.prog 100 .nilFunc 1 8 := ti_of (by kernel_rfl)
instance : AG Try.prog 101 false := ag_of (by kernel_rfl)
instance : TI Try.prog 101 .nilFunc 1 8 := ti_of (by kernel_rfl)
instance : UL Try.prog 102 (.int .i64) := ⟨Try.underlying102⟩
instance : AG Try.prog 102 false := ag_of (by kernel_rfl)
instance : TI Try.prog 102 (.int .i64 0) 1 8 := ti_of (by kernel_rfl)
instance : AG Try.prog 103 false := ag_of (by kernel_rfl)
instance : AG Try.prog 104 false := ag_of (by kernel_rfl)
instance : TI Try.prog 104 .nilFunc 1 8 := ti_of (by kernel_rfl)
instance : AG Try.prog 105 false := ag_of (by kernel_rfl)
instance : TI Try.prog 105 .nilFunc 1 8 := ti_of (by kernel_rfl)
instance : AG Try.prog 106 false := ag_of (by kernel_rfl)
instance : AG Try.prog 107 false := ag_of (by kernel_rfl)
instance : TI Try.prog 107 .nilFunc 1 8 := ti_of (by kernel_rfl)
instance : AG Try.prog 108 false := ag_of (by kernel_rfl)
instance : TI Try.prog 108 .nilFunc 1 8 := ti_of (by kernel_rfl)
instance : UL Try.prog 109 (.int .u32) := ⟨Try.underlying109⟩
instance : AG Try.prog 109 false := ag_of (by kernel_rfl)
instance : TI Try.prog 109 (.int .u32 0) 1 4 := ti_of (by kernel_rfl)
instance : AG Try.prog 110 false := ag_of (by kernel_rfl)
instance : TI Try.prog 110 .nilFunc 1 8 := ti_of (by kernel_rfl)
instance : UL Try.prog 111 (.int .u64) := ⟨Try.underlying111⟩
instance : AG Try.prog 111 false := ag_of (by kernel_rfl)
instance : TI Try.prog 111 (.int .u64 0) 1 8 := ti_of (by kernel_rfl)
instance : AG Try.prog 112 false := ag_of (by kernel_rfl)
instance : TI Try.prog 112 .nilFunc 1 8 := ti_of (by kernel_rfl)
instance : UL Try.prog 113 (.int .u64) := ⟨Try.underlying113⟩
instance : AG Try.prog 113 false := ag_of (by kernel_rfl)
instance : TI Try.prog 113 (.int .u64 0) 1 8 := ti_of (by kernel_rfl)
instance : AG Try.prog 114 false := ag_of (by kernel_rfl)
instance : TI Try.prog 114 .nilFunc 1 8 := ti_of (by kernel_rfl)
instance : AG Try.prog 115 false := ag_of (by kernel_rfl)
instance : TI Try.prog 115 .nilFunc 1 8 := ti_of (by kernel_rfl)
instance : AG Try.prog 116 false := ag_of (by kernel_rfl)
instance : TI Try.prog 116 .nilFunc 1 8 := ti_of (by kernel_rfl)
instance : UL Try.prog 117 (.pointer 3) := ⟨Try.underlying117⟩
instance : AG Try.prog 117 false := ag_of (by kernel_rfl)
instance : TI Try.prog 117 (.pointer none) 1 8 := ti_of (by kernel_rfl)
instance : AG Try.prog 118 false := ag_of (by kernel_rfl)
instance : TI Try.prog 118 .nilFunc 1 8 := ti_of (by kernel_rfl)
instance : UL Try.prog 119 (.pointer 113) := ⟨Try.underlying119⟩
instance : AG Try.prog 119 false := ag_of (by kernel_rfl)
instance : TI Try.prog 119 (.pointer none) 1 8 := ti_of (by kernel_rfl)
instance : AG Try.prog 120 false := ag_of (by kernel_rfl)
instance : AG Try.prog 121 false := ag_of (by kernel_rfl)
instance : TI Try.prog 121 .nilFunc 1 8 := ti_of (by kernel_rfl)
instance : AG Try.prog 122 false := ag_of (by kernel_rfl)
instance : TI Try.prog 122 .nilFunc 1 8 := ti_of (by kernel_rfl)
instance : AG Try.prog 123 true := ag_of (by kernel_rfl)
instance : TI Try.prog 123 (.agg #[(.pointer none), (.pointer none), (.pointer none), (.string ⟨#[]⟩)]) 4 40 := ti_of (by kernel_rfl)
instance : AG Try.prog 124 true := ag_of (by kernel_rfl)
instance : TI Try.prog 124 (.agg #[(.pointer none), (.pointer none), (.pointer none), (.string ⟨#[]⟩)]) 4 40 := ti_of (by kernel_rfl)
instance : UL Try.prog 125 (.array 0 16) := ⟨Try.underlying125⟩
instance : AG Try.prog 125 true := ag_of (by kernel_rfl)
instance : TI Try.prog 125 (.agg #[]) 0 0 := ti_of (by kernel_rfl)
instance : AG Try.prog 126 true := ag_of (by kernel_rfl)
instance : TI Try.prog 126 (.agg #[]) 0 0 := ti_of (by kernel_rfl)
instance : AG Try.prog 127 true := ag_of (by kernel_rfl)
instance : TI Try.prog 127 (.agg #[]) 0 0 := ti_of (by kernel_rfl)
instance : UL Try.prog 128 (.int .u8) := ⟨Try.underlying128⟩
instance : AG Try.prog 128 false := ag_of (by kernel_rfl)
instance : TI Try.prog 128 (.int .u8 0) 1 1 := ti_of (by kernel_rfl)
instance : UL Try.prog 129 (.int .u8) := ⟨Try.underlying129⟩
instance : AG Try.prog 129 false := ag_of (by kernel_rfl)
instance : TI Try.prog 129 (.int .u8 0) 1 1 := ti_of (by kernel_rfl)
instance : AG Try.prog 130 false := ag_of (by kernel_rfl)
instance : TI Try.prog 130 .nilFunc 1 8 := ti_of (by kernel_rfl)
instance : UL Try.prog 131 (.pointer 5) := ⟨Try.underlying131⟩
instance : AG Try.prog 131 false := ag_of (by kernel_rfl)
instance : TI Try.prog 131 (.pointer none) 1 8 := ti_of (by kernel_rfl)
instance : UL Try.prog 132 (.int .i32) := ⟨Try.underlying132⟩
instance : AG Try.prog 132 false := ag_of (by kernel_rfl)
instance : TI Try.prog 132 (.int .i32 0) 1 4 := ti_of (by kernel_rfl)
instance : UL Try.prog 133 (.int .i32) := ⟨Try.underlying133⟩
instance : AG Try.prog 133 false := ag_of (by kernel_rfl)
instance : TI Try.prog 133 (.int .i32 0) 1 4 := ti_of (by kernel_rfl)
instance : AG Try.prog 134 true := ag_of (by kernel_rfl)
instance : TI Try.prog 134 (.agg #[(.int .u64 0), (.int .u64 0), (.int .u32 0), (.int .u8 0), (.int .u8 0), (.int .u8 0), (.int .u8 0), .nilFunc, (.pointer none), (.int .i32 0), (.int .i32 0)]) 11 48 := ti_of (by kernel_rfl)
instance : AG Try.prog 135 true := ag_of (by kernel_rfl)
instance : TI Try.prog 135 (.agg #[(.int .u64 0), (.int .u64 0), (.int .u32 0), (.int .u8 0), (.int .u8 0), (.int .u8 0), (.int .u8 0), .nilFunc, (.pointer none), (.int .i32 0), (.int .i32 0)]) 11 48 := ti_of (by kernel_rfl)
instance : AG Try.prog 136 false := ag_of (by kernel_rfl)
instance : TI Try.prog 136 (.pointer none) 1 8 := ti_of (by kernel_rfl)
end Go.Proofs.Ytnjjifikogblpaa
