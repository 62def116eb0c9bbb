/-
  Package label, plain: labels, boxes, the search.
-/
import Derived.Test.YteeapkfakehocaaProg
import Derived.Laws.BitsAllLaws
import Derived.Test.YteeapkfakehocaaMH
import Derived.Test.YteeapkfakehocaaMC
namespace Go.Proofs.Yteeapkfakehocaa
open Go Go.RowKit
set_option linter.unusedVariables false
set_option linter.unusedSimpArgs false
structure AK where
  x : Int
  y : Int
  w : Int
  h : Int
  g : Int
structure BX where
  x0 : Int
  y0 : Int
  x1 : Int
  y1 : Int
  deriving DecidableEq
abbrev inG (n : Int) : Prop := -1073741824 ≤ n ∧ n ≤ 1073741824
abbrev in1 (n : Int) : Prop := 1 ≤ n ∧ n ≤ 1048576
abbrev AK.good (a : AK) : Prop := inG a.x ∧ inG a.y ∧ in1 a.w ∧ in1 a.h ∧ in1 a.g
abbrev BX.good (b : BX) : Prop := inG b.x0 ∧ inG b.y0 ∧ inG b.x1 ∧ inG b.y1 ∧ b.x0 ≤ b.x1 ∧ b.y0 ≤ b.y1
def boxA (a : AK) (p : Int) : BX :=
  ⟨if p = 1 ∨ p = 2 then a.x - a.w else a.x, if 1 < p then a.y - a.h else a.y, (if p = 1 ∨ p = 2 then a.x - a.w else a.x) + a.w, (if 1 < p then a.y - a.h else a.y) + a.h⟩
/-- the box of a label in a position, and the error -/
def boxF (a : AK) (p : Int) : BX × Int :=
  if a.good ∧ 0 ≤ p ∧ p ≤ 3 then (if (boxA a p).good then (boxA a p, 0) else (⟨0, 0, 0, 0⟩, 5)) else (⟨0, 0, 0, 0⟩, 1)
def ovF (a b : BX) : Bool := decide (max a.x0 b.x0 < min a.x1 b.x1 ∧ max a.y0 b.y0 < min a.y1 b.y1)
def freeF (b : BX) (l : List BX) : Bool := l.all fun c => !ovF b c
def checkF (l : List AK) (t : List BX) : Int :=
  if 64 < l.length ∨ 256 < t.length then 4 else if ∀ a ∈ l, a.good then (if ∀ b ∈ t, b.good then 0 else 5) else 1
/-- the possible positions of a label -/
def choF (a : AK) (t : List BX) : List (Int × BX) := ([0, 1, 2, 3] : List Int).filterMap fun p => if (boxF a p).2 = 0 ∧ freeF (boxF a p).1 t = true then some (p, (boxF a p).1) else none
def restF (l : List AK) : Int := (l.map AK.g).sum
structure SrS where
  best : List Int
  most : Int
  steps : Nat
/-- the search, as the reference makes it -/
def enterR (t : List BX) : List AK → Int → List Int → List BX → SrS → SrS
  | [], w, now, bx, s => if w > s.most then ⟨now, w, s.steps⟩ else s
  | a :: ls, w, now, bx, s =>
    if w + restF (a :: ls) ≤ s.most then ⟨s.best, s.most, s.steps + 1⟩ else
      enterR t ls w (now ++ [-1]) bx ((choF a t).foldl (fun s c => if freeF c.2 bx then enterR t ls (w + a.g) (now ++ [c.1]) (bx ++ [c.2]) s else s) ⟨s.best, s.most, s.steps + 1⟩)
/-- a fold that may stop -/
def foldO {α σ : Type} (f : σ → α → Option σ) : List α → σ → Option σ
  | [], s => some s
  | a :: l, s => match f s a with
    | some s' => foldO f l s'
    | none => none
/-- the search, as the program makes it: it stops when the fuel is used up -/
def enterP (t : List BX) (fuel : Int) : List AK → Int → List Int → List BX → SrS → Option SrS
  | [], w, now, bx, s => some (if w > s.most then ⟨now, w, s.steps⟩ else s)
  | a :: ls, w, now, bx, s =>
    if (s.steps : Int) + 1 > fuel then none else if w + restF (a :: ls) ≤ s.most then some ⟨s.best, s.most, s.steps + 1⟩ else
      match foldO (fun s c => if freeF c.2 bx then enterP t fuel ls (w + a.g) (now ++ [c.1]) (bx ++ [c.2]) s else some s) (choF a t) ⟨s.best, s.most, s.steps + 1⟩ with
      | some s' => enterP t fuel ls w (now ++ [-1]) bx s'
      | none => none
theorem foldl_mono {α : Type} {f : SrS → α → SrS} (hf : ∀ s c, s.steps ≤ (f s c).steps) : ∀ (cs : List α) (s : SrS), s.steps ≤ (cs.foldl f s).steps
  | [], s => Nat.le_refl _
  | c :: cs, s => Nat.le_trans (hf s c) (foldl_mono hf cs (f s c))
theorem foldO_agree {α : Type} {f : SrS → α → SrS} {g : SrS → α → Option SrS} {fuel : Int} (hf : ∀ s c, s.steps ≤ (f s c).steps) (hg : ∀ s c, (s.steps : Int) ≤ fuel → g s c = if ((f s c).steps : Int) ≤ fuel then some (f s c) else none) :
    ∀ (cs : List α) (s : SrS), (s.steps : Int) ≤ fuel → foldO g cs s = if ((cs.foldl f s).steps : Int) ≤ fuel then some (cs.foldl f s) else none
  | [], s, hs => by
    show some s = if (s.steps : Int) ≤ fuel then some s else none
    rw [if_pos hs]
  | c :: cs, s, hs => by
    unfold foldO
    rw [List.foldl_cons, hg s c hs]
    by_cases h : ((f s c).steps : Int) ≤ fuel
    · rw [if_pos h]
      exact foldO_agree hf hg cs (f s c) h
    · rw [if_neg h, if_neg]
      have := foldl_mono hf cs (f s c)
      omega
theorem enterR_mono (t : List BX) : ∀ (ls : List AK) (w : Int) (now : List Int) (bx : List BX) (s : SrS), s.steps ≤ (enterR t ls w now bx s).steps
  | [], w, now, bx, s => by
    unfold enterR
    split <;> exact Nat.le_refl _
  | a :: ls, w, now, bx, s => by
    unfold enterR
    split
    · exact Nat.le_succ _
    have hf := foldl_mono (f := fun (s : SrS) (c : Int × BX) => if freeF c.2 bx then enterR t ls (w + a.g) (now ++ [c.1]) (bx ++ [c.2]) s else s) (fun s c => by
      split
      · exact enterR_mono t ls _ _ _ s
      · exact Nat.le_refl _)
    exact Nat.le_trans (Nat.le_trans (Nat.le_succ _) (hf (choF a t) ⟨s.best, s.most, s.steps + 1⟩)) (enterR_mono t ls w (now ++ [-1]) bx _)
/-- the two searches agree as long as the fuel lasts -/
theorem enter_agree (t : List BX) (fuel : Int) : ∀ (ls : List AK) (w : Int) (now : List Int) (bx : List BX) (s : SrS), (s.steps : Int) ≤ fuel →
    enterP t fuel ls w now bx s = if ((enterR t ls w now bx s).steps : Int) ≤ fuel then some (enterR t ls w now bx s) else none
  | [], w, now, bx, s, h => by
    unfold enterP enterR
    by_cases hw : w > s.most
    · rw [if_pos hw, if_pos h]
    · rw [if_neg hw, if_pos h]
  | a :: ls, w, now, bx, s, h => by
    unfold enterP
    by_cases h1 : (s.steps : Int) + 1 > fuel
    · rw [if_pos h1, if_neg]
      have hm := enterR_mono t (a :: ls) w now bx s
      have h2 : s.steps + 1 ≤ (enterR t (a :: ls) w now bx s).steps := by
        unfold enterR
        split
        · exact Nat.le_refl _
        have hf := foldl_mono (f := fun (s : SrS) (c : Int × BX) => if freeF c.2 bx then enterR t ls (w + a.g) (now ++ [c.1]) (bx ++ [c.2]) s else s) (fun s c => by
          split
          · exact enterR_mono t ls _ _ _ s
          · exact Nat.le_refl _)
        exact Nat.le_trans (hf (choF a t) ⟨s.best, s.most, s.steps + 1⟩) (enterR_mono t ls w (now ++ [-1]) bx _)
      omega
    rw [if_neg h1]
    unfold enterR
    by_cases h2 : w + restF (a :: ls) ≤ s.most
    · rw [if_pos h2, if_pos h2, if_pos (by dsimp only; omega)]
    rw [if_neg h2, if_neg h2]
    have hf := foldO_agree (fuel := fuel) (f := fun (s : SrS) (c : Int × BX) => if freeF c.2 bx then enterR t ls (w + a.g) (now ++ [c.1]) (bx ++ [c.2]) s else s) (g := fun (s : SrS) (c : Int × BX) => if freeF c.2 bx then enterP t fuel ls (w + a.g) (now ++ [c.1]) (bx ++ [c.2]) s else some s) (fun s c => by
      split
      · exact enterR_mono t ls _ _ _ s
      · exact Nat.le_refl _) (fun s c hs => by
      by_cases hc : freeF c.2 bx = true
      · simp only [hc, if_true]
        exact enter_agree t fuel ls (w + a.g) (now ++ [c.1]) (bx ++ [c.2]) s hs
      · rw [if_neg hc, if_neg hc, if_pos hs])
    rw [hf (choF a t) ⟨s.best, s.most, s.steps + 1⟩ (by dsimp only; omega)]
    obtain ⟨s2, hs2⟩ : ∃ s2, (choF a t).foldl (fun s c => if freeF c.2 bx then enterR t ls (w + a.g) (now ++ [c.1]) (bx ++ [c.2]) s else s) ⟨s.best, s.most, s.steps + 1⟩ = s2 := ⟨_, rfl⟩
    rw [hs2]
    by_cases h3 : (s2.steps : Int) ≤ fuel
    · rw [if_pos h3]
      exact enter_agree t fuel ls w (now ++ [-1]) bx s2 h3
    · rw [if_neg h3, if_neg]
      have := enterR_mono t ls w (now ++ [-1]) bx s2
      omega
end Go.Proofs.Yteeapkfakehocaa
namespace Go.Proofs.Yteeapkfakehocaa
theorem ti_of {P : Program} {t : TypeId} {z : Value} {s b : Nat} (h : (P.info? t).map (fun i => (i.zero, i.size, i.bytes)) = some (some z, s, b)) : TI P t z s b := by
  cases hi : P.info? t with
  | none => rw [hi] at h; cases h
  | some i =>
    rw [hi] at h
    simp only [Option.map_some, Option.some.injEq, Prod.mk.injEq] at h
    exact ⟨i, hi, h.1, h.2.1, h.2.2⟩
theorem ag_of {P : Program} {t : TypeId} {b : Bool} (h : (P.underlying t).map aggD = some b) : AG P t b := by
  cases hi : P.underlying t with
  | none => rw [hi] at h; cases h
  | some d => rw [hi] at h; simp only [Option.map_some, Option.some.injEq] at h; exact ⟨d, hi, h⟩
instance : AG Try.prog 0 false := ag_of (by kernel_rfl)
instance : AG Try.prog 1 false := ag_of (by kernel_rfl)
instance : TI Try.prog 1 .nilFunc 1 8 := ti_of (by kernel_rfl)
instance : UL Try.prog 2 (.int .i64) := ⟨Try.underlying2⟩
instance : AG Try.prog 2 false := ag_of (by kernel_rfl)
instance : TI Try.prog 2 (.int .i64 0) 1 8 := ti_of (by kernel_rfl)
instance : UL Try.prog 3 (.int .i64) := ⟨Try.underlying3⟩
instance : AG Try.prog 3 false := ag_of (by kernel_rfl)
instance : TI Try.prog 3 (.int .i64 0) 1 8 := ti_of (by kernel_rfl)
instance : UL Try.prog 4 .bool := ⟨Try.underlying4⟩
instance : AG Try.prog 4 false := ag_of (by kernel_rfl)
instance : TI Try.prog 4 (.bool false) 1 1 := ti_of (by kernel_rfl)
instance : UL Try.prog 5 (.int .u8) := ⟨Try.underlying5⟩
instance : AG Try.prog 5 false := ag_of (by kernel_rfl)
instance : TI Try.prog 5 (.int .u8 0) 1 1 := ti_of (by kernel_rfl)
instance : UL Try.prog 6 (.int .u8) := ⟨Try.underlying6⟩
instance : AG Try.prog 6 false := ag_of (by kernel_rfl)
instance : TI Try.prog 6 (.int .u8 0) 1 1 := ti_of (by kernel_rfl)
instance : AG Try.prog 7 true := ag_of (by kernel_rfl)
instance : TI Try.prog 7 (.agg #[(.int .i64 0), (.int .i64 0), (.bool false), (.int .u8 0)]) 4 24 := ti_of (by kernel_rfl)
instance : AG Try.prog 8 true := ag_of (by kernel_rfl)
instance : TI Try.prog 8 (.agg #[(.int .i64 0), (.int .i64 0), (.bool false), (.int .u8 0)]) 4 24 := ti_of (by kernel_rfl)
instance : UL Try.prog 9 .string := ⟨Try.underlying9⟩
instance : AG Try.prog 9 false := ag_of (by kernel_rfl)
instance : TI Try.prog 9 (.string ⟨#[]⟩) 1 16 := ti_of (by kernel_rfl)
instance : UL Try.prog 10 .string := ⟨Try.underlying10⟩
instance : AG Try.prog 10 false := ag_of (by kernel_rfl)
instance : TI Try.prog 10 (.string ⟨#[]⟩) 1 16 := ti_of (by kernel_rfl)
instance : UL Try.prog 11 .string := ⟨Try.underlying11⟩
instance : AG Try.prog 11 false := ag_of (by kernel_rfl)
instance : TI Try.prog 11 (.string ⟨#[]⟩) 1 16 := ti_of (by kernel_rfl)
instance : UL Try.prog 12 (.int .u64) := ⟨Try.underlying12⟩
instance : AG Try.prog 12 false := ag_of (by kernel_rfl)
instance : TI Try.prog 12 (.int .u64 0) 1 8 := ti_of (by kernel_rfl)
instance : AG Try.prog 13 true := ag_of (by kernel_rfl)
instance : TI Try.prog 13 (.agg #[(.string ⟨#[]⟩), (.int .u64 0)]) 2 24 := ti_of (by kernel_rfl)
instance : AG Try.prog 14 true := ag_of (by kernel_rfl)
instance : TI Try.prog 14 (.agg #[(.string ⟨#[]⟩), (.int .u64 0)]) 2 24 := ti_of (by kernel_rfl)
instance : UL Try.prog 15 (.pointer 113) := ⟨Try.underlying15⟩
instance : AG Try.prog 15 false := ag_of (by kernel_rfl)
instance : TI Try.prog 15 (.pointer none) 1 8 := ti_of (by kernel_rfl)
instance : UL Try.prog 16 (.pointer 116) := ⟨Try.underlying16⟩
instance : AG Try.prog 16 false := ag_of (by kernel_rfl)
instance : TI Try.prog 16 (.pointer none) 1 8 := ti_of (by kernel_rfl)
instance : UL Try.prog 17 (.pointer 126) := ⟨Try.underlying17⟩
instance : AG Try.prog 17 false := ag_of (by kernel_rfl)
instance : TI Try.prog 17 (.pointer none) 1 8 := ti_of (by kernel_rfl)
instance : AG Try.prog 18 true := ag_of (by kernel_rfl)
instance : TI Try.prog 18 (.agg #[(.pointer none)]) 1 8 := ti_of (by kernel_rfl)
instance : AG Try.prog 19 true := ag_of (by kernel_rfl)
instance : TI Try.prog 19 (.agg #[(.pointer none)]) 1 8 := ti_of (by kernel_rfl)
instance : AG Try.prog 20 false := ag_of (by kernel_rfl)
instance : TI Try.prog 20 .nilIface 1 16 := ti_of (by kernel_rfl)
instance : UL Try.prog 21 (.int .i32) := ⟨Try.underlying21⟩
instance : AG Try.prog 21 false := ag_of (by kernel_rfl)
instance : TI Try.prog 21 (.int .i32 0) 1 4 := ti_of (by kernel_rfl)
instance : UL Try.prog 22 (.slice 3) := ⟨Try.underlying22⟩
instance : AG Try.prog 22 false := ag_of (by kernel_rfl)
instance : TI Try.prog 22 (.slice none 0 0) 1 24 := ti_of (by kernel_rfl)
instance : UL Try.prog 23 (.slice 39) := ⟨Try.underlying23⟩
instance : AG Try.prog 23 false := ag_of (by kernel_rfl)
instance : TI Try.prog 23 (.slice none 0 0) 1 24 := ti_of (by kernel_rfl)
instance : AG Try.prog 24 false := ag_of (by kernel_rfl)
instance : TI Try.prog 24 .nilFunc 1 8 := ti_of (by kernel_rfl)
instance : AG Try.prog 25 false := ag_of (by kernel_rfl)
instance : TI Try.prog 25 .nilFunc 1 8 := ti_of (by kernel_rfl)
instance : UL Try.prog 26 (.slice 23) := ⟨Try.underlying26⟩
instance : AG Try.prog 26 false := ag_of (by kernel_rfl)
instance : TI Try.prog 26 (.slice none 0 0) 1 24 := ti_of (by kernel_rfl)
instance : UL Try.prog 27 (.slice 37) := ⟨Try.underlying27⟩
instance : AG Try.prog 27 false := ag_of (by kernel_rfl)
instance : TI Try.prog 27 (.slice none 0 0) 1 24 := ti_of (by kernel_rfl)
instance : AG Try.prog 28 false := ag_of (by kernel_rfl)
instance : TI Try.prog 28 .nilFunc 1 8 := ti_of (by kernel_rfl)
instance : AG Try.prog 29 true := ag_of (by kernel_rfl)
instance : TI Try.prog 29 (.agg #[(.int .i64 0), (.int .i64 0)]) 2 16 := ti_of (by kernel_rfl)
instance : AG Try.prog 30 true := ag_of (by kernel_rfl)
instance : TI Try.prog 30 (.agg #[(.int .i64 0), (.int .i64 0)]) 2 16 := ti_of (by kernel_rfl)
instance : AG Try.prog 31 true := ag_of (by kernel_rfl)
instance : TI Try.prog 31 (.agg #[(.int .i64 0), (.int .i64 0), (.int .i64 0), (.int .i64 0)]) 4 32 := ti_of (by kernel_rfl)
instance : AG Try.prog 32 true := ag_of (by kernel_rfl)
instance : TI Try.prog 32 (.agg #[(.int .i64 0), (.int .i64 0), (.int .i64 0), (.int .i64 0)]) 4 32 := ti_of (by kernel_rfl)
instance : UL Try.prog 33 (.int .i64) := ⟨Try.underlying33⟩
instance : AG Try.prog 33 false := ag_of (by kernel_rfl)
instance : TI Try.prog 33 (.int .i64 0) 1 8 := ti_of (by kernel_rfl)
instance : AG Try.prog 34 false := ag_of (by kernel_rfl)
instance : AG Try.prog 35 false := ag_of (by kernel_rfl)
instance : TI Try.prog 35 .nilFunc 1 8 := ti_of (by kernel_rfl)
instance : AG Try.prog 36 true := ag_of (by kernel_rfl)
instance : TI Try.prog 36 (.agg #[(.int .i64 0), (.int .i64 0), (.int .i64 0), (.int .i64 0), (.int .i64 0)]) 5 40 := ti_of (by kernel_rfl)
instance : AG Try.prog 37 true := ag_of (by kernel_rfl)
instance : TI Try.prog 37 (.agg #[(.int .i64 0), (.int .i64 0), (.int .i64 0), (.int .i64 0), (.int .i64 0)]) 5 40 := ti_of (by kernel_rfl)
instance : AG Try.prog 38 false := ag_of (by kernel_rfl)
instance : TI Try.prog 38 .nilFunc 1 8 := ti_of (by kernel_rfl)
instance : AG Try.prog 39 true := ag_of (by kernel_rfl)
instance : TI Try.prog 39 (.agg #[(.int .i64 0), (.int .i64 0), (.int .i64 0), (.int .i64 0), (.int .i64 0)]) 5 40 := ti_of (by kernel_rfl)
instance : AG Try.prog 40 false := ag_of (by kernel_rfl)
instance : TI Try.prog 40 .nilFunc 1 8 := ti_of (by kernel_rfl)
instance : AG Try.prog 41 false := ag_of (by kernel_rfl)
instance : TI Try.prog 41 .nilFunc 1 8 := ti_of (by kernel_rfl)
instance : UL Try.prog 42 (.slice 32) := ⟨Try.underlying42⟩
instance : AG Try.prog 42 false := ag_of (by kernel_rfl)
instance : TI Try.prog 42 (.slice none 0 0) 1 24 := ti_of (by kernel_rfl)
instance : AG Try.prog 43 false := ag_of (by kernel_rfl)
instance : TI Try.prog 43 .nilFunc 1 8 := ti_of (by kernel_rfl)
instance : AG Try.prog 44 false := ag_of (by kernel_rfl)
instance : AG Try.prog 45 false := ag_of (by kernel_rfl)
instance : TI Try.prog 45 .nilFunc 1 8 := ti_of (by kernel_rfl)
instance : AG Try.prog 46 false := ag_of (by kernel_rfl)
instance : TI Try.prog 46 .nilFunc 1 8 := ti_of (by kernel_rfl)
instance : AG Try.prog 47 false := ag_of (by kernel_rfl)
instance : TI Try.prog 47 .nilFunc 1 8 := ti_of (by kernel_rfl)
instance : AG Try.prog 48 false := ag_of (by kernel_rfl)
instance : TI Try.prog 48 .nilFunc 1 8 := ti_of (by kernel_rfl)
instance : UL Try.prog 49 (.slice 22) := ⟨Try.underlying49⟩
instance : AG Try.prog 49 false := ag_of (by kernel_rfl)
instance : TI Try.prog 49 (.slice none 0 0) 1 24 := ti_of (by kernel_rfl)
instance : AG Try.prog 50 false := ag_of (by kernel_rfl)
instance : AG Try.prog 51 false := ag_of (by kernel_rfl)
instance : TI Try.prog 51 .nilFunc 1 8 := ti_of (by kernel_rfl)
instance : AG Try.prog 52 false := ag_of (by kernel_rfl)
instance : TI Try.prog 52 .nilFunc 1 8 := ti_of (by kernel_rfl)
instance : AG Try.prog 53 false := ag_of (by kernel_rfl)
instance : TI Try.prog 53 .nilFunc 1 8 := ti_of (by kernel_rfl)
instance : AG Try.prog 54 false := ag_of (by kernel_rfl)
instance : TI Try.prog 54 .nilFunc 1 8 := ti_of (by kernel_rfl)
instance : UL Try.prog 55 (.slice 42) := ⟨Try.underlying55⟩
instance : AG Try.prog 55 false := ag_of (by kernel_rfl)
instance : TI Try.prog 55 (.slice none 0 0) 1 24 := ti_of (by kernel_rfl)
instance : AG Try.prog 56 false := ag_of (by kernel_rfl)
instance : TI Try.prog 56 .nilFunc 1 8 := ti_of (by kernel_rfl)
instance : AG Try.prog 57 false := ag_of (by kernel_rfl)
instance : AG Try.prog 58 false := ag_of (by kernel_rfl)
instance : TI Try.prog 58 .nilFunc 1 8 := ti_of (by kernel_rfl)
instance : AG Try.prog 59 false := ag_of (by kernel_rfl)
instance : TI Try.prog 59 .nilFunc 1 8 := ti_of (by kernel_rfl)
instance : AG Try.prog 60 false := ag_of (by kernel_rfl)
instance : TI Try.prog 60 .nilFunc 1 8 := ti_of (by kernel_rfl)
instance : AG Try.prog 61 false := ag_of (by kernel_rfl)
instance : TI Try.prog 61 .nilFunc 1 8 := ti_of (by kernel_rfl)
instance : AG Try.prog 62 false := ag_of (by kernel_rfl)
instance : TI Try.prog 62 .nilFunc 1 8 := ti_of (by kernel_rfl)
instance : AG Try.prog 63 false := ag_of (by kernel_rfl)
instance : TI Try.prog 63 .nilFunc 1 8 := ti_of (by kernel_rfl)
instance : AG Try.prog 64 false := ag_of (by kernel_rfl)
instance : TI Try.prog 64 .nilFunc 1 8 := ti_of (by kernel_rfl)
instance : UL Try.prog 65 (.slice 49) := ⟨Try.underlying65⟩
instance : AG Try.prog 65 false := ag_of (by kernel_rfl)
instance : TI Try.prog 65 (.slice none 0 0) 1 24 := ti_of (by kernel_rfl)
instance : AG Try.prog 66 false := ag_of (by kernel_rfl)
instance : TI Try.prog 66 .nilFunc 1 8 := ti_of (by kernel_rfl)
instance : AG Try.prog 67 false := ag_of (by kernel_rfl)
instance : TI Try.prog 67 .nilFunc 1 8 := ti_of (by kernel_rfl)
instance : AG Try.prog 68 false := ag_of (by kernel_rfl)
instance : TI Try.prog 68 .nilFunc 1 8 := ti_of (by kernel_rfl)
instance : AG Try.prog 69 false := ag_of (by kernel_rfl)
instance : TI Try.prog 69 .nilFunc 1 8 := ti_of (by kernel_rfl)
instance : UL Try.prog 70 (.array 2 3) := ⟨Try.underlying70⟩
instance : AG Try.prog 70 true := ag_of (by kernel_rfl)
instance : TI Try.prog 70 (.agg #[(.int .i64 0), (.int .i64 0)]) 2 16 := ti_of (by kernel_rfl)
instance : UL Try.prog 71 (.array 4 70) := ⟨Try.underlying71⟩
instance : AG Try.prog 71 true := ag_of (by kernel_rfl)
instance : TI Try.prog 71 (.agg #[(.int .i64 0), (.int .i64 0), (.int .i64 0), (.int .i64 0), (.int .i64 0), (.int .i64 0), (.int .i64 0), (.int .i64 0)]) 8 64 := ti_of (by kernel_rfl)
instance : AG Try.prog 72 false := ag_of (by kernel_rfl)
instance : TI Try.prog 72 .nilFunc 1 8 := ti_of (by kernel_rfl)
instance : AG Try.prog 73 false := ag_of (by kernel_rfl)
instance : TI Try.prog 73 .nilFunc 1 8 := ti_of (by kernel_rfl)
instance : UL Try.prog 74 (.array 65 3) := ⟨Try.underlying74⟩
instance : AG Try.prog 74 true := ag_of (by kernel_rfl)
instance : TI Try.prog 74 (.agg #[(.int .i64 0), (.int .i64 0), (.int .i64 0), (.int .i64 0), (.int .i64 0), (.int .i64 0), (.int .i64 0), (.int .i64 0), (.int .i64 0), (.int .i64 0), (.int .i64 0), (.int .i64 0), (.int .i64 0), (.int .i64 0), (.int .i64 0), (.int .i64 0), (.int .i64 0), (.int .i64 0), (.int .i64 0), (.int .i64 0), (.int .i64 0), (.int .i64 0), (.int .i64 0), (.int .i64 0), (.int .i64 0), (.int .i64 0), (.int .i64 0), (.int .i64 0), (.int .i64 0), (.int .i64 0), (.int .i64 0), (.int .i64 0), (.int .i64 0), (.int .i64 0), (.int .i64 0), (.int .i64 0), (.int .i64 0), (.int .i64 0), (.int .i64 0), (.int .i64 0), (.int .i64 0), (.int .i64 0), (.int .i64 0), (.int .i64 0), (.int .i64 0), (.int .i64 0), (.int .i64 0), (.int .i64 0), (.int .i64 0), (.int .i64 0), (.int .i64 0), (.int .i64 0), (.int .i64 0), (.int .i64 0), (.int .i64 0), (.int .i64 0), (.int .i64 0), (.int .i64 0), (.int .i64 0), (.int .i64 0), (.int .i64 0), (.int .i64 0), (.int .i64 0), (.int .i64 0), (.int .i64 0)]) 65 520 := ti_of (by kernel_rfl)
instance : UL Try.prog 75 (.slice 79) := ⟨Try.underlying75⟩
instance : AG Try.prog 75 false := ag_of (by kernel_rfl)
instance : TI Try.prog 75 (.slice none 0 0) 1 24 := ti_of (by kernel_rfl)
instance : AG Try.prog 76 false := ag_of (by kernel_rfl)
instance : TI Try.prog 76 .nilFunc 1 8 := ti_of (by kernel_rfl)
instance : AG Try.prog 77 false := ag_of (by kernel_rfl)
instance : TI Try.prog 77 .nilFunc 1 8 := ti_of (by kernel_rfl)
instance : AG Try.prog 78 false := ag_of (by kernel_rfl)
instance : TI Try.prog 78 .nilFunc 1 8 := ti_of (by kernel_rfl)
instance : UL Try.prog 79 (.slice 81) := ⟨Try.underlying79⟩
instance : AG Try.prog 79 false := ag_of (by kernel_rfl)
instance : TI Try.prog 79 (.slice none 0 0) 1 24 := ti_of (by kernel_rfl)
instance : AG Try.prog 80 true := ag_of (by kernel_rfl)
instance : TI Try.prog 80 (.agg #[(.int .i64 0), (.int .i64 0), (.int .i64 0), (.int .i64 0), (.int .i64 0)]) 5 40 := ti_of (by kernel_rfl)
instance : AG Try.prog 81 true := ag_of (by kernel_rfl)
instance : TI Try.prog 81 (.agg #[(.int .i64 0), (.int .i64 0), (.int .i64 0), (.int .i64 0), (.int .i64 0)]) 5 40 := ti_of (by kernel_rfl)
instance : AG Try.prog 82 false := ag_of (by kernel_rfl)
instance : TI Try.prog 82 .nilFunc 1 8 := ti_of (by kernel_rfl)
instance : AG Try.prog 83 false := ag_of (by kernel_rfl)
instance : TI Try.prog 83 .nilFunc 1 8 := ti_of (by kernel_rfl)
instance : AG Try.prog 84 false := ag_of (by kernel_rfl)
instance : TI Try.prog 84 .nilFunc 1 8 := ti_of (by kernel_rfl)
instance : AG Try.prog 85 false := ag_of (by kernel_rfl)
instance : TI Try.prog 85 .nilFunc 1 8 := ti_of (by kernel_rfl)
instance : AG Try.prog 86 false := ag_of (by kernel_rfl)
instance : TI Try.prog 86 .nilFunc 1 8 := ti_of (by kernel_rfl)
instance : UL Try.prog 87 (.pointer 89) := ⟨Try.underlying87⟩
instance : AG Try.prog 87 false := ag_of (by kernel_rfl)
instance : TI Try.prog 87 (.pointer none) 1 8 := ti_of (by kernel_rfl)
instance : AG Try.prog 88 true := ag_of (by kernel_rfl)
instance : TI Try.prog 88 (.agg #[(.slice none 0 0), (.slice none 0 0), (.slice none 0 0), (.slice none 0 0), (.slice none 0 0), (.int .i64 0), (.int .i64 0)]) 7 136 := ti_of (by kernel_rfl)
instance : AG Try.prog 89 true := ag_of (by kernel_rfl)
instance : TI Try.prog 89 (.agg #[(.slice none 0 0), (.slice none 0 0), (.slice none 0 0), (.slice none 0 0), (.slice none 0 0), (.int .i64 0), (.int .i64 0)]) 7 136 := ti_of (by kernel_rfl)
instance : AG Try.prog 90 false := ag_of (by kernel_rfl)
instance : TI Try.prog 90 .nilFunc 1 8 := ti_of (by kernel_rfl)
instance : AG Try.prog 91 false := ag_of (by kernel_rfl)
instance : TI Try.prog 91 .nilFunc 1 8 := ti_of (by kernel_rfl)
instance : AG Try.prog 92 false := ag_of (by kernel_rfl)
instance : TI Try.prog 92 .nilFunc 1 8 := ti_of (by kernel_rfl)
instance : AG Try.prog 93 false := ag_of (by kernel_rfl)
instance : TI Try.prog 93 .nilFunc 1 8 := ti_of (by kernel_rfl)
instance : AG Try.prog 94 false := ag_of (by kernel_rfl)
instance : TI Try.prog 94 .nilFunc 1 8 := ti_of (by kernel_rfl)
instance : AG Try.prog 95 false := ag_of (by kernel_rfl)
instance : TI Try.prog 95 .nilFunc 1 8 := ti_of (by kernel_rfl)
instance : AG Try.prog 96 false := ag_of (by kernel_rfl)
instance : TI Try.prog 96 .nilFunc 1 8 := ti_of (by kernel_rfl)
instance : AG Try.prog 97 false := ag_of (by kernel_rfl)
instance : TI Try.prog 97 .nilFunc 1 8 := ti_of (by kernel_rfl)
instance : AG Try.prog 98 false := ag_of (by kernel_rfl)
instance : TI Try.prog 98 .nilFunc 1 8 := ti_of (by kernel_rfl)
instance : UL Try.prog 99 (.slice 4) := ⟨Try.underlying99⟩
instance : AG Try.prog 99 false := ag_of (by kernel_rfl)
instance : TI Try.prog 99 (.slice none 0 0) 1 24 := ti_of (by kernel_rfl)
instance : AG Try.prog 100 false := ag_of (by kernel_rfl)
instance : TI Try.prog 100 .nilFunc 1 8 := ti_of (by kernel_rfl)
instance : AG Try.prog 101 false := ag_of (by kernel_rfl)
instance : TI Try.prog 101 .nilFunc 1 8 := ti_of (by kernel_rfl)
instance : AG Try.prog 102 false := ag_of (by kernel_rfl)
instance : TI Try.prog 102 .nilFunc 1 8 := ti_of (by kernel_rfl)
instance : AG Try.prog 103 false := ag_of (by kernel_rfl)
instance : TI Try.prog 103 .nilFunc 1 8 := ti_of (by kernel_rfl)
instance : AG Try.prog 104 false := ag_of (by kernel_rfl)
instance : TI Try.prog 104 .nilFunc 1 8 := ti_of (by kernel_rfl)
instance : AG Try.prog 105 false := ag_of (by kernel_rfl)
instance : TI Try.prog 105 .nilFunc 1 8 := ti_of (by kernel_rfl)
instance : AG Try.prog 106 false := ag_of (by kernel_rfl)
instance : TI Try.prog 106 .nilFunc 1 8 := ti_of (by kernel_rfl)
instance : AG Try.prog 107 false := ag_of (by kernel_rfl)
instance : TI Try.prog 107 .nilFunc 1 8 := ti_of (by kernel_rfl)
instance : AG Try.prog 108 false := ag_of (by kernel_rfl)
instance : TI Try.prog 108 .nilFunc 1 8 := ti_of (by kernel_rfl)
instance : AG Try.prog 109 false := ag_of (by kernel_rfl)
instance : TI Try.prog 109 .nilFunc 1 8 := ti_of (by kernel_rfl)
instance : AG Try.prog 110 false := ag_of (by kernel_rfl)
instance : TI Try.prog 110 .nilFunc 1 8 := ti_of (by kernel_rfl)
instance : AG Try.prog 111 false := ag_of (by kernel_rfl)
instance : TI Try.prog 111 .nilFunc 1 8 := ti_of (by kernel_rfl)
instance : AG Try.prog 112 true := ag_of (by kernel_rfl)
instance : TI Try.prog 112 (.agg #[(.pointer none), (.pointer none), (.pointer none), (.string ⟨#[]⟩)]) 4 40 := ti_of (by kernel_rfl)
instance : AG Try.prog 113 true := ag_of (by kernel_rfl)
instance : TI Try.prog 113 (.agg #[(.pointer none), (.pointer none), (.pointer none), (.string ⟨#[]⟩)]) 4 40 := ti_of (by kernel_rfl)
instance : UL Try.prog 114 (.array 0 16) := ⟨Try.underlying114⟩
instance : AG Try.prog 114 true := ag_of (by kernel_rfl)
instance : TI Try.prog 114 (.agg #[]) 0 0 := ti_of (by kernel_rfl)
instance : AG Try.prog 115 true := ag_of (by kernel_rfl)
instance : TI Try.prog 115 (.agg #[]) 0 0 := ti_of (by kernel_rfl)
instance : AG Try.prog 116 true := ag_of (by kernel_rfl)
instance : TI Try.prog 116 (.agg #[]) 0 0 := ti_of (by kernel_rfl)
instance : AG Try.prog 117 false := ag_of (by kernel_rfl)
instance : TI Try.prog 117 .nilFunc 1 8 := ti_of (by kernel_rfl)
instance : UL Try.prog 118 (.int .u32) := ⟨Try.underlying118⟩
instance : AG Try.prog 118 false := ag_of (by kernel_rfl)
instance : TI Try.prog 118 (.int .u32 0) 1 4 := ti_of (by kernel_rfl)
instance : UL Try.prog 119 (.int .u8) := ⟨Try.underlying119⟩
instance : AG Try.prog 119 false := ag_of (by kernel_rfl)
instance : TI Try.prog 119 (.int .u8 0) 1 1 := ti_of (by kernel_rfl)
instance : UL Try.prog 120 (.int .u8) := ⟨Try.underlying120⟩
instance : AG Try.prog 120 false := ag_of (by kernel_rfl)
instance : TI Try.prog 120 (.int .u8 0) 1 1 := ti_of (by kernel_rfl)
instance : AG Try.prog 121 false := ag_of (by kernel_rfl)
instance : TI Try.prog 121 .nilFunc 1 8 := ti_of (by kernel_rfl)
instance : UL Try.prog 122 (.pointer 5) := ⟨Try.underlying122⟩
instance : AG Try.prog 122 false := ag_of (by kernel_rfl)
instance : TI Try.prog 122 (.pointer none) 1 8 := ti_of (by kernel_rfl)
instance : UL Try.prog 123 (.int .i32) := ⟨Try.underlying123⟩
instance : AG Try.prog 123 false := ag_of (by kernel_rfl)
instance : TI Try.prog 123 (.int .i32 0) 1 4 := ti_of (by kernel_rfl)
instance : UL Try.prog 124 (.int .i32) := ⟨Try.underlying124⟩
instance : AG Try.prog 124 false := ag_of (by kernel_rfl)
instance : TI Try.prog 124 (.int .i32 0) 1 4 := ti_of (by kernel_rfl)
instance : AG Try.prog 125 true := ag_of (by kernel_rfl)
instance : TI Try.prog 125 (.agg #[(.int .u64 0), (.int .u64 0), (.int .u32 0), (.int .u8 0), (.int .u8 0), (.int .u8 0), (.int .u8 0), .nilFunc, (.pointer none), (.int .i32 0), (.int .i32 0)]) 11 48 := ti_of (by kernel_rfl)
instance : AG Try.prog 126 true := ag_of (by kernel_rfl)
instance : TI Try.prog 126 (.agg #[(.int .u64 0), (.int .u64 0), (.int .u32 0), (.int .u8 0), (.int .u8 0), (.int .u8 0), (.int .u8 0), .nilFunc, (.pointer none), (.int .i32 0), (.int .i32 0)]) 11 48 := ti_of (by kernel_rfl)
instance : AG Try.prog 127 false := ag_of (by kernel_rfl)
instance : TI Try.prog 127 (.pointer none) 1 8 := ti_of (by kernel_rfl)
end Go.Proofs.Yteeapkfakehocaa
namespace Go.Proofs.Yteeapkfakehocaa
open Go Go.RowKit
instance : FD Try.prog 7 0 0 2 := fd_of (by kernel_rfl)
instance : FD Try.prog 7 1 1 3 := fd_of (by kernel_rfl)
instance : FD Try.prog 7 2 2 4 := fd_of (by kernel_rfl)
instance : FD Try.prog 7 3 3 6 := fd_of (by kernel_rfl)
instance : FD Try.prog 8 0 0 2 := fd_of (by kernel_rfl)
instance : FD Try.prog 8 1 1 3 := fd_of (by kernel_rfl)
instance : FD Try.prog 8 2 2 4 := fd_of (by kernel_rfl)
instance : FD Try.prog 8 3 3 6 := fd_of (by kernel_rfl)
instance : FD Try.prog 13 0 0 9 := fd_of (by kernel_rfl)
instance : FD Try.prog 13 1 1 12 := fd_of (by kernel_rfl)
instance : FD Try.prog 14 0 0 9 := fd_of (by kernel_rfl)
instance : FD Try.prog 14 1 1 12 := fd_of (by kernel_rfl)
instance : FD Try.prog 18 0 0 17 := fd_of (by kernel_rfl)
instance : FD Try.prog 19 0 0 17 := fd_of (by kernel_rfl)
instance : FD Try.prog 29 0 0 3 := fd_of (by kernel_rfl)
instance : FD Try.prog 29 1 1 3 := fd_of (by kernel_rfl)
instance : FD Try.prog 30 0 0 3 := fd_of (by kernel_rfl)
instance : FD Try.prog 30 1 1 3 := fd_of (by kernel_rfl)
instance : FD Try.prog 31 0 0 30 := fd_of (by kernel_rfl)
instance : FD Try.prog 31 1 2 30 := fd_of (by kernel_rfl)
instance : FD Try.prog 32 0 0 30 := fd_of (by kernel_rfl)
instance : FD Try.prog 32 1 2 30 := fd_of (by kernel_rfl)
instance : FD Try.prog 36 0 0 30 := fd_of (by kernel_rfl)
instance : FD Try.prog 36 1 2 3 := fd_of (by kernel_rfl)
instance : FD Try.prog 36 2 3 3 := fd_of (by kernel_rfl)
instance : FD Try.prog 36 3 4 3 := fd_of (by kernel_rfl)
instance : FD Try.prog 37 0 0 30 := fd_of (by kernel_rfl)
instance : FD Try.prog 37 1 2 3 := fd_of (by kernel_rfl)
instance : FD Try.prog 37 2 3 3 := fd_of (by kernel_rfl)
instance : FD Try.prog 37 3 4 3 := fd_of (by kernel_rfl)
instance : FD Try.prog 39 0 0 30 := fd_of (by kernel_rfl)
instance : FD Try.prog 39 1 2 3 := fd_of (by kernel_rfl)
instance : FD Try.prog 39 2 3 3 := fd_of (by kernel_rfl)
instance : FD Try.prog 39 3 4 3 := fd_of (by kernel_rfl)
instance : FD Try.prog 80 0 0 3 := fd_of (by kernel_rfl)
instance : FD Try.prog 80 1 1 32 := fd_of (by kernel_rfl)
instance : FD Try.prog 81 0 0 3 := fd_of (by kernel_rfl)
instance : FD Try.prog 81 1 1 32 := fd_of (by kernel_rfl)
instance : FD Try.prog 88 0 0 23 := fd_of (by kernel_rfl)
instance : FD Try.prog 88 1 1 42 := fd_of (by kernel_rfl)
instance : FD Try.prog 88 2 2 22 := fd_of (by kernel_rfl)
instance : FD Try.prog 88 3 3 42 := fd_of (by kernel_rfl)
instance : FD Try.prog 88 4 4 22 := fd_of (by kernel_rfl)
instance : FD Try.prog 88 5 5 3 := fd_of (by kernel_rfl)
instance : FD Try.prog 88 6 6 3 := fd_of (by kernel_rfl)
instance : FD Try.prog 89 0 0 23 := fd_of (by kernel_rfl)
instance : FD Try.prog 89 1 1 42 := fd_of (by kernel_rfl)
instance : FD Try.prog 89 2 2 22 := fd_of (by kernel_rfl)
instance : FD Try.prog 89 3 3 42 := fd_of (by kernel_rfl)
instance : FD Try.prog 89 4 4 22 := fd_of (by kernel_rfl)
instance : FD Try.prog 89 5 5 3 := fd_of (by kernel_rfl)
instance : FD Try.prog 89 6 6 3 := fd_of (by kernel_rfl)
instance : FD Try.prog 112 0 0 17 := fd_of (by kernel_rfl)
instance : FD Try.prog 112 1 1 17 := fd_of (by kernel_rfl)
instance : FD Try.prog 112 2 2 17 := fd_of (by kernel_rfl)
instance : FD Try.prog 112 3 3 9 := fd_of (by kernel_rfl)
instance : FD Try.prog 113 0 0 17 := fd_of (by kernel_rfl)
instance : FD Try.prog 113 1 1 17 := fd_of (by kernel_rfl)
instance : FD Try.prog 113 2 2 17 := fd_of (by kernel_rfl)
instance : FD Try.prog 113 3 3 9 := fd_of (by kernel_rfl)
instance : FD Try.prog 115 0 0 114 := fd_of (by kernel_rfl)
instance : FD Try.prog 116 0 0 114 := fd_of (by kernel_rfl)
instance : FD Try.prog 125 0 0 12 := fd_of (by kernel_rfl)
instance : FD Try.prog 125 1 1 12 := fd_of (by kernel_rfl)
instance : FD Try.prog 125 2 2 118 := fd_of (by kernel_rfl)
instance : FD Try.prog 125 3 3 119 := fd_of (by kernel_rfl)
instance : FD Try.prog 125 4 4 5 := fd_of (by kernel_rfl)
instance : FD Try.prog 125 5 5 5 := fd_of (by kernel_rfl)
instance : FD Try.prog 125 6 6 120 := fd_of (by kernel_rfl)
instance : FD Try.prog 125 7 7 121 := fd_of (by kernel_rfl)
instance : FD Try.prog 125 8 8 122 := fd_of (by kernel_rfl)
instance : FD Try.prog 125 9 9 123 := fd_of (by kernel_rfl)
instance : FD Try.prog 125 10 10 124 := fd_of (by kernel_rfl)
instance : FD Try.prog 126 0 0 12 := fd_of (by kernel_rfl)
instance : FD Try.prog 126 1 1 12 := fd_of (by kernel_rfl)
instance : FD Try.prog 126 2 2 118 := fd_of (by kernel_rfl)
instance : FD Try.prog 126 3 3 119 := fd_of (by kernel_rfl)
instance : FD Try.prog 126 4 4 5 := fd_of (by kernel_rfl)
instance : FD Try.prog 126 5 5 5 := fd_of (by kernel_rfl)
instance : FD Try.prog 126 6 6 120 := fd_of (by kernel_rfl)
instance : FD Try.prog 126 7 7 121 := fd_of (by kernel_rfl)
instance : FD Try.prog 126 8 8 122 := fd_of (by kernel_rfl)
instance : FD Try.prog 126 9 9 123 := fd_of (by kernel_rfl)
instance : FD Try.prog 126 10 10 124 := fd_of (by kernel_rfl)
instance : BD Try.prog 7 [(0, 1), (1, 1), (2, 1), (3, 1)] [(.int .i64 0), (.int .i64 0), (.bool false), (.int .u8 0)] := ⟨fun w => by kernel_rfl, fun w => by kernel_rfl⟩
instance : BD Try.prog 8 [(0, 1), (1, 1), (2, 1), (3, 1)] [(.int .i64 0), (.int .i64 0), (.bool false), (.int .u8 0)] := ⟨fun w => by kernel_rfl, fun w => by kernel_rfl⟩
instance : BD Try.prog 13 [(0, 1), (1, 1)] [(.string ⟨#[]⟩), (.int .u64 0)] := ⟨fun w => by kernel_rfl, fun w => by kernel_rfl⟩
instance : BD Try.prog 14 [(0, 1), (1, 1)] [(.string ⟨#[]⟩), (.int .u64 0)] := ⟨fun w => by kernel_rfl, fun w => by kernel_rfl⟩
instance : BD Try.prog 18 [(0, 1)] [(.pointer none)] := ⟨fun w => by kernel_rfl, fun w => by kernel_rfl⟩
instance : BD Try.prog 19 [(0, 1)] [(.pointer none)] := ⟨fun w => by kernel_rfl, fun w => by kernel_rfl⟩
instance : BD Try.prog 29 [(0, 1), (1, 1)] [(.int .i64 0), (.int .i64 0)] := ⟨fun w => by kernel_rfl, fun w => by kernel_rfl⟩
instance : BD Try.prog 30 [(0, 1), (1, 1)] [(.int .i64 0), (.int .i64 0)] := ⟨fun w => by kernel_rfl, fun w => by kernel_rfl⟩
instance : BD Try.prog 31 [(0, 2), (2, 2)] [(.int .i64 0), (.int .i64 0), (.int .i64 0), (.int .i64 0)] := ⟨fun w => by kernel_rfl, fun w => by kernel_rfl⟩
instance : BD Try.prog 32 [(0, 2), (2, 2)] [(.int .i64 0), (.int .i64 0), (.int .i64 0), (.int .i64 0)] := ⟨fun w => by kernel_rfl, fun w => by kernel_rfl⟩
instance : BD Try.prog 36 [(0, 2), (2, 1), (3, 1), (4, 1)] [(.int .i64 0), (.int .i64 0), (.int .i64 0), (.int .i64 0), (.int .i64 0)] := ⟨fun w => by kernel_rfl, fun w => by kernel_rfl⟩
instance : BD Try.prog 37 [(0, 2), (2, 1), (3, 1), (4, 1)] [(.int .i64 0), (.int .i64 0), (.int .i64 0), (.int .i64 0), (.int .i64 0)] := ⟨fun w => by kernel_rfl, fun w => by kernel_rfl⟩
instance : BD Try.prog 39 [(0, 2), (2, 1), (3, 1), (4, 1)] [(.int .i64 0), (.int .i64 0), (.int .i64 0), (.int .i64 0), (.int .i64 0)] := ⟨fun w => by kernel_rfl, fun w => by kernel_rfl⟩
instance : BD Try.prog 80 [(0, 1), (1, 4)] [(.int .i64 0), (.int .i64 0), (.int .i64 0), (.int .i64 0), (.int .i64 0)] := ⟨fun w => by kernel_rfl, fun w => by kernel_rfl⟩
instance : BD Try.prog 81 [(0, 1), (1, 4)] [(.int .i64 0), (.int .i64 0), (.int .i64 0), (.int .i64 0), (.int .i64 0)] := ⟨fun w => by kernel_rfl, fun w => by kernel_rfl⟩
instance : BD Try.prog 88 [(0, 1), (1, 1), (2, 1), (3, 1), (4, 1), (5, 1), (6, 1)] [(.slice none 0 0), (.slice none 0 0), (.slice none 0 0), (.slice none 0 0), (.slice none 0 0), (.int .i64 0), (.int .i64 0)] := ⟨fun w => by kernel_rfl, fun w => by kernel_rfl⟩
instance : BD Try.prog 89 [(0, 1), (1, 1), (2, 1), (3, 1), (4, 1), (5, 1), (6, 1)] [(.slice none 0 0), (.slice none 0 0), (.slice none 0 0), (.slice none 0 0), (.slice none 0 0), (.int .i64 0), (.int .i64 0)] := ⟨fun w => by kernel_rfl, fun w => by kernel_rfl⟩
instance : BD Try.prog 112 [(0, 1), (1, 1), (2, 1), (3, 1)] [(.pointer none), (.pointer none), (.pointer none), (.string ⟨#[]⟩)] := ⟨fun w => by kernel_rfl, fun w => by kernel_rfl⟩
instance : BD Try.prog 113 [(0, 1), (1, 1), (2, 1), (3, 1)] [(.pointer none), (.pointer none), (.pointer none), (.string ⟨#[]⟩)] := ⟨fun w => by kernel_rfl, fun w => by kernel_rfl⟩
instance : BD Try.prog 115 [(0, 0)] [] := ⟨fun w => by kernel_rfl, fun w => by kernel_rfl⟩
instance : BD Try.prog 116 [(0, 0)] [] := ⟨fun w => by kernel_rfl, fun w => by kernel_rfl⟩
instance : BD Try.prog 125 [(0, 1), (1, 1), (2, 1), (3, 1), (4, 1), (5, 1), (6, 1), (7, 1), (8, 1), (9, 1), (10, 1)] [(.int .u64 0), (.int .u64 0), (.int .u32 0), (.int .u8 0), (.int .u8 0), (.int .u8 0), (.int .u8 0), .nilFunc, (.pointer none), (.int .i32 0), (.int .i32 0)] := ⟨fun w => by kernel_rfl, fun w => by kernel_rfl⟩
instance : BD Try.prog 126 [(0, 1), (1, 1), (2, 1), (3, 1), (4, 1), (5, 1), (6, 1), (7, 1), (8, 1), (9, 1), (10, 1)] [(.int .u64 0), (.int .u64 0), (.int .u32 0), (.int .u8 0), (.int .u8 0), (.int .u8 0), (.int .u8 0), .nilFunc, (.pointer none), (.int .i32 0), (.int .i32 0)] := ⟨fun w => by kernel_rfl, fun w => by kernel_rfl⟩
end Go.Proofs.Yteeapkfakehocaa
namespace Go.Proofs.Yteeapkfakehocaa
open Go Go.RowKit
set_option linter.unusedVariables false
set_option linter.unusedSimpArgs false
theorem u64_lt (a : UInt64) : a.toNat < 18446744073709551616 := by have := a.toBitVec.isLt; simpa using this
theorem u64_ofInt (a : UInt64) : BitVec.ofInt 64 (a.toNat : Int) = a.toBitVec := by
  apply BitVec.eq_of_toNat_eq
  rw [BitVec.ofInt_natCast, BitVec.toNat_ofNat]
  have := u64_lt a
  exact Nat.mod_eq_of_lt this
theorem u64_wrap (n : Nat) : IntKind.u64.wrap (n : Int) = ((UInt64.ofNat n).toNat : Int) := by
  rw [IntKind.wrap_u64]; simp
theorem u64_xor (a b : UInt64) : bits .xor .u64 (a.toNat : Int) (b.toNat : Int) = ((a ^^^ b).toNat : Int) := by
  show IntKind.u64.wrap ((BitVec.ofInt 64 (a.toNat : Int) ^^^ BitVec.ofInt 64 (b.toNat : Int)).toNat : Int) = _
  rw [u64_ofInt, u64_ofInt, u64_wrap]
  simp
theorem u64_or (a b : UInt64) : bits .or .u64 (a.toNat : Int) (b.toNat : Int) = ((a ||| b).toNat : Int) := by
  show IntKind.u64.wrap ((BitVec.ofInt 64 (a.toNat : Int) ||| BitVec.ofInt 64 (b.toNat : Int)).toNat : Int) = _
  rw [u64_ofInt, u64_ofInt, u64_wrap]
  simp
theorem u64_mul (a b : UInt64) : IntKind.u64.wrap ((a.toNat : Int) * (b.toNat : Int)) = ((a * b).toNat : Int) := by
  rw [← Int.natCast_mul, u64_wrap]; simp
theorem u64_add (a b : UInt64) : IntKind.u64.wrap ((a.toNat : Int) + (b.toNat : Int)) = ((a + b).toNat : Int) := by
  rw [← Int.natCast_add, u64_wrap]; simp
theorem u64_tdiv (a b : UInt64) : IntKind.u64.wrap ((a.toNat : Int).tdiv (b.toNat : Int)) = ((a / b).toNat : Int) := by
  rw [Int.tdiv_eq_ediv_of_nonneg (by omega), ← Int.natCast_ediv, u64_wrap]
  have h1 := u64_lt a
  have h2 : a.toNat / b.toNat ≤ a.toNat := Nat.div_le_self _ _
  rw [UInt64.toNat_div]
  congr 1
  simp
  omega
end Go.Proofs.Yteeapkfakehocaa
