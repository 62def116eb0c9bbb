/-
  My own layer over the kit's walk, part 1: assertions over disjoint parts of memory, and one law an operation. Nothing of a program stands here.
-/
import Derived.WalkKit
import Derived.Maps.AppendAt
import Derived.Deep.Draws
namespace Go.Proofs.Ytnjjifikogblpaa
open Go Go.RowKit
set_option linter.unusedVariables false
set_option linter.unusedSimpArgs false

/-! ### heaplets -/
abbrev Hp := Nat → Option Obj
def Hp.le (a b : Hp) : Prop := ∀ k o, a k = some o → b k = some o
def Hp.dj (a b : Hp) : Prop := ∀ k, a k = none ∨ b k = none
def Hp.or (a b : Hp) : Hp := fun k => (a k).or (b k)
def Hp.one (b : Nat) (o : Obj) : Hp := fun k => if k = b then some o else none
def Hp.none : Hp := fun _ => Option.none

theorem Hp.le_refl (a : Hp) : a.le a := fun _ _ h => h
theorem Hp.le.trans {a b c : Hp} (h : a.le b) (k : b.le c) : a.le c := fun x o e => k x o (h x o e)
theorem Hp.dj.symm {a b : Hp} (h : a.dj b) : b.dj a := fun k => (h k).symm
theorem Hp.dj.sub {a b a' b' : Hp} (h : a.dj b) (ha : a'.le a) (hb : b'.le b) : a'.dj b' := fun k => by
  rcases h k with e | e
  · left
    cases h' : a' k with
    | none => rfl
    | some o => rw [ha k o h'] at e; cases e
  · right
    cases h' : b' k with
    | none => rfl
    | some o => rw [hb k o h'] at e; cases e
theorem Hp.le_or_left (a b : Hp) : a.le (a.or b) := fun k o h => by simp [Hp.or, h]
theorem Hp.le_or_right {a b : Hp} (h : a.dj b) : b.le (a.or b) := fun k o e => by
  rcases h k with h | h
  · simp [Hp.or, h, e]
  · rw [h] at e; cases e
theorem Hp.or_le {a b c : Hp} (ha : a.le c) (hb : b.le c) : (a.or b).le c := fun k o e => by
  unfold Hp.or at e
  cases h : a k with
  | none => rw [h] at e; exact hb k o (by simpa using e)
  | some x => rw [h] at e; simp at e; subst e; exact ha k x h
theorem Hp.or_dj {a b c : Hp} (ha : a.dj c) (hb : b.dj c) : (a.or b).dj c := fun k => by
  rcases ha k with h | h
  · rcases hb k with h' | h'
    · left; simp [Hp.or, h, h']
    · right; exact h'
  · right; exact h
theorem Hp.dj_or {a b c : Hp} (ha : c.dj a) (hb : c.dj b) : c.dj (a.or b) := (Hp.or_dj ha.symm hb.symm).symm
theorem Hp.none_dj (a : Hp) : Hp.none.dj a := fun _ => .inl rfl
theorem Hp.dj_none (a : Hp) : a.dj Hp.none := fun _ => .inr rfl
theorem Hp.none_le (a : Hp) : Hp.none.le a := fun _ _ h => by cases h

/-! ### assertions: of an immutable heaplet m and an owned one h -/
structure HP where
  p : Hp → Hp → Prop
  mono : ∀ {m m' h : Hp}, m.le m' → p m h → p m' h

/-- a whole block of cells, owned -/
def blk (b : Nat) (o : Obj) : HP := ⟨fun _ h => h b = some o, fun _ h => h⟩
def cel (b : Nat) (cs : List Value) (t : TypeId) : HP := blk b (.cells cs.toArray t (0, 0))
def pur (φ : Prop) : HP := ⟨fun _ _ => φ, fun _ h => h⟩
/-- a fact of the immutable memory -/
structure Im where
  r : Hp → Prop
  mono : ∀ {m m' : Hp}, m.le m' → r m → r m'
def im (R : Im) : HP := ⟨fun m _ => R.r m, fun h k => R.mono h k⟩
def ex {α : Sort _} (A : α → HP) : HP := ⟨fun m h => ∃ x, (A x).p m h, fun hm ⟨x, k⟩ => ⟨x, (A x).mono hm k⟩⟩

/-- a list of assertions over disjoint parts of h (affine) -/
def SepL (m : Hp) : List HP → Hp → Prop
  | [], _ => True
  | A :: L, h => ∃ a b : Hp, a.dj b ∧ a.le h ∧ b.le h ∧ A.p m a ∧ SepL m L b

/-- several assertions as one -/
theorem SepL.mono {m m' : Hp} (hm : m.le m') : ∀ {L : List HP} {h : Hp}, SepL m L h → SepL m' L h
  | [], _, _ => trivial
  | A :: _, _, ⟨a, b, d, ha, hb, hA, hL⟩ => ⟨a, b, d, ha, hb, A.mono hm hA, SepL.mono hm hL⟩
def sp (L : List HP) : HP := ⟨fun m h => SepL m L h, fun hm h => SepL.mono hm h⟩

theorem SepL.up {m : Hp} : ∀ {L : List HP} {h h' : Hp}, SepL m L h → h.le h' → SepL m L h'
  | [], _, _, _, _ => trivial
  | _ :: _, _, _, ⟨a, b, d, ha, hb, hA, hL⟩, hh => ⟨a, b, d, ha.trans hh, hb.trans hh, hA, hL⟩

theorem SepL.swap {m : Hp} {A B : HP} {L : List HP} {h : Hp} (s : SepL m (A :: B :: L) h) : SepL m (B :: A :: L) h := by
  obtain ⟨a, r, d, ha, hr, hA, b, c, d2, hb, hc, hB, hL⟩ := s
  refine ⟨b, a.or c, ?_, hb.trans hr, Hp.or_le ha (hc.trans hr), hB, a, c, ?_, Hp.le_or_left a c, Hp.le_or_right ?_, hA, hL⟩
  · exact Hp.dj_or (d.symm.sub hb (Hp.le_refl a)) d2
  · exact d.sub (Hp.le_refl a) hc
  · exact d.sub (Hp.le_refl a) hc
theorem SepL.skip {m : Hp} {A : HP} {L L' : List HP} {h : Hp} (s : SepL m (A :: L) h) (f : ∀ b, SepL m L b → SepL m L' b) : SepL m (A :: L') h := by
  obtain ⟨a, b, d, ha, hb, hA, hL⟩ := s
  exact ⟨a, b, d, ha, hb, hA, f b hL⟩
theorem SepL.perm {m : Hp} {L L' : List HP} (p : L.Perm L') : ∀ {h : Hp}, SepL m L h → SepL m L' h := by
  induction p with
  | nil => exact fun s => s
  | cons A _ ih => exact fun s => s.skip fun _ => ih
  | swap A B L => exact fun s => s.swap
  | trans _ _ ih1 ih2 => exact fun s => ih2 (ih1 s)
theorem SepL.tail {m : Hp} {A : HP} {L : List HP} {h : Hp} (s : SepL m (A :: L) h) : SepL m L h := by
  obtain ⟨a, b, d, ha, hb, hA, hL⟩ := s
  exact hL.up hb
theorem SepL.append {m : Hp} : ∀ {L L' : List HP} {a b h : Hp}, SepL m L a → SepL m L' b → a.dj b → a.le h → b.le h → SepL m (L ++ L') h
  | [], _, _, _, _, _, t, _, _, hb => t.up hb
  | A :: L, L', a, b, h, ⟨x, y, d, hx, hy, hA, hL⟩, t, dj, ha, hb => by
    refine ⟨x, y.or b, ?_, hx.trans ha, Hp.or_le (hy.trans ha) hb, hA, ?_⟩
    · exact Hp.dj_or d (dj.sub hx (Hp.le_refl b))
    · have dyb : y.dj b := dj.sub hy (Hp.le_refl b)
      exact SepL.append hL t dyb (Hp.le_or_left y b) (Hp.le_or_right dyb)
theorem SepL.part {m : Hp} : ∀ {L L' : List HP} {h : Hp}, SepL m (L ++ L') h → ∃ a b : Hp, a.dj b ∧ a.le h ∧ b.le h ∧ SepL m L a ∧ SepL m L' b
  | [], _, h, s => ⟨Hp.none, h, Hp.none_dj h, Hp.none_le h, Hp.le_refl h, trivial, s⟩
  | A :: L, L', h, ⟨x, y, d, hx, hy, hA, hL⟩ => by
    obtain ⟨a, b, d2, ha, hb, s, t⟩ := SepL.part hL
    refine ⟨x.or a, b, ?_, Hp.or_le hx (ha.trans hy), hb.trans hy, ⟨x, a, d.sub (Hp.le_refl x) ha, Hp.le_or_left x a, Hp.le_or_right (d.sub (Hp.le_refl x) ha), hA, s⟩, t⟩
    exact Hp.or_dj (d.sub (Hp.le_refl x) hb) d2

/-! ### the state -/
def Hp.of (w : World) : Hp := fun k => w.heap[k]?
/-- From W0 on: what lay in W0 lies there still and stays; the rest: L. -/
def St (W0 w : World) (L : List HP) : Prop :=
  w.os = W0.os ∧ w.tape = W0.tape ∧ w.output = W0.output ∧ W0.heap.size ≤ w.heap.size ∧
    ∃ m h : Hp, (Hp.of W0).le m ∧ m.le (Hp.of w) ∧ h.le (Hp.of w) ∧ m.dj h ∧ SepL m L h

theorem Hp.of_lt {w : World} {k : Nat} {o : Obj} (h : Hp.of w k = some o) : k < w.heap.size := (Array.getElem?_eq_some_iff.1 h).1

theorem St.init (W : World) : St W W [] := ⟨rfl, rfl, rfl, Nat.le_refl _, Hp.of W, Hp.none, Hp.le_refl _, Hp.le_refl _, Hp.none_le _, Hp.dj_none _, trivial⟩

variable {W0 w w' : World} {L L' : List HP} {A B : HP}

theorem St.below (s : St W0 w L) : Below W0.heap.size W0 w := by
  obtain ⟨h1, h2, h3, h4, m, h, hm, hw, _, _, _⟩ := s
  refine ⟨h1, h2, h3, h4, fun k hk => ?_⟩
  have e : Hp.of W0 k = some W0.heap[k] := Array.getElem?_eq_getElem hk
  have := hw k _ (hm k _ e)
  exact Eq.trans this e.symm

theorem St.weak (s : St W0 w L) (f : ∀ m h, SepL m L h → SepL m L' h) : St W0 w L' := by
  obtain ⟨h1, h2, h3, h4, m, h, hm, hw, hh, d, hL⟩ := s
  exact ⟨h1, h2, h3, h4, m, h, hm, hw, hh, d, f m h hL⟩
theorem St.perm (s : St W0 w L) (p : L.Perm L') : St W0 w L' := s.weak fun _ _ h => h.perm p
theorem St.drop (s : St W0 w (A :: L)) : St W0 w L := s.weak fun _ _ h => h.tail
theorem St.nil_ (s : St W0 w L) : St W0 w [] := s.weak fun _ _ _ => trivial

/-- the head replaced by what it implies -/
theorem St.imp (s : St W0 w (A :: L)) (f : ∀ m h, A.p m h → B.p m h) : St W0 w (B :: L) :=
  s.weak fun _ _ ⟨a, b, d, ha, hb, hA, hL⟩ => ⟨a, b, d, ha, hb, f _ _ hA, hL⟩
theorem St.open_ (s : St W0 w (sp L :: L')) : St W0 w (L ++ L') :=
  s.weak fun _ _ ⟨_, _, d, ha, hb, hA, hL⟩ => SepL.append hA hL d ha hb
theorem St.close_ (s : St W0 w (L ++ L')) : St W0 w (sp L :: L') :=
  s.weak fun _ _ h => let ⟨a, b, d, ha, hb, s, t⟩ := h.part; ⟨a, b, d, ha, hb, s, t⟩
theorem St.ex_ {α : Sort _} {F : α → HP} (s : St W0 w (ex F :: L)) : ∃ x, St W0 w (F x :: L) := by
  obtain ⟨h1, h2, h3, h4, m, h, hm, hw, hh, d, a, b, d2, ha, hb, ⟨x, hA⟩, hL⟩ := s
  exact ⟨x, h1, h2, h3, h4, m, h, hm, hw, hh, d, a, b, d2, ha, hb, hA, hL⟩
theorem St.mk_ex {α : Sort _} {F : α → HP} (x : α) (s : St W0 w (F x :: L)) : St W0 w (ex F :: L) := s.imp fun _ _ h => ⟨x, h⟩
theorem St.pur_ {φ : Prop} (s : St W0 w (pur φ :: L)) : φ := by
  obtain ⟨_, _, _, _, m, h, _, _, _, _, a, b, _, _, _, hA, _⟩ := s
  exact hA
theorem St.mk_pur {φ : Prop} (h : φ) (s : St W0 w L) : St W0 w (pur φ :: L) :=
  s.weak fun _ b k => ⟨Hp.none, b, Hp.none_dj _, Hp.none_le _, Hp.le_refl _, h, k⟩

/-! ### reading -/
theorem St.blk_ {b : Nat} {o : Obj} (s : St W0 w (blk b o :: L)) : w.heap[b]? = some o := by
  obtain ⟨_, _, _, _, m, h, _, _, hh, _, a, c, _, ha, _, hA, _⟩ := s
  exact hh b o (ha b o hA)
theorem St.im_ {R : Im} (s : St W0 w (im R :: L)) : R.r (Hp.of w) := by
  obtain ⟨_, _, _, _, m, h, _, hw, hh, _, a, c, _, ha, _, hA, _⟩ := s
  exact R.mono hw hA
theorem St.dup {R : Im} (s : St W0 w (im R :: L)) : St W0 w (im R :: im R :: L) :=
  s.weak fun m h k => by
    obtain ⟨a, b, d, ha, hb, hA, hL⟩ := k
    exact ⟨Hp.none, h, Hp.none_dj _, Hp.none_le _, Hp.le_refl _, hA, a, b, d, ha, hb, hA, hL⟩
/-- a fact of the memory that lay when the call began -/
theorem St.old {R : Im} (s : St W0 w L) (h : R.r (Hp.of W0)) : St W0 w (im R :: L) := by
  obtain ⟨h1, h2, h3, h4, m, hp, hm, hw, hh, d, hL⟩ := s
  exact ⟨h1, h2, h3, h4, m, hp, hm, hw, hh, d, Hp.none, hp, Hp.none_dj _, Hp.none_le _, Hp.le_refl _, R.mono hm h, hL⟩
/-- what is owned becomes immutable -/
theorem St.freeze {R : Im} (s : St W0 w (A :: L)) (f : ∀ m h : Hp, m.dj h → A.p m h → R.r (m.or h)) : St W0 w (im R :: L) := by
  obtain ⟨h1, h2, h3, h4, m, h, hm, hw, hh, d, a, b, d2, ha, hb, hA, hL⟩ := s
  have dma : m.dj a := d.sub (Hp.le_refl m) ha
  refine ⟨h1, h2, h3, h4, m.or a, b, hm.trans (Hp.le_or_left m a), Hp.or_le hw (ha.trans hh), hb.trans hh, Hp.or_dj (d.sub (Hp.le_refl m) hb) d2, ?_⟩
  exact ⟨Hp.none, b, Hp.none_dj _, Hp.none_le _, Hp.le_refl _, f m a dma hA, hL.mono (Hp.le_or_left m a)⟩

/-! ### the world moves on -/
/-- whatever leaves the old blocks alone -/
theorem St.grown (s : St W0 w L) (g : w.grownBy w' none) : St W0 w' L := by
  obtain ⟨h1, h2, h3, h4, m, h, hm, hw, hh, d, hL⟩ := s
  have up : (Hp.of w).le (Hp.of w') := fun k o e => by
    rw [← e]; exact g.block k (Hp.of_lt e) (by simp)
  exact ⟨g.os.trans h1, g.tape.trans h2, g.output.trans h3, Nat.le_trans h4 g.size, m, h, hm, hw.trans up, hh.trans up, d, hL⟩
theorem St.drew (s : St W0 w L) : St W0 w.drew L := s.grown ⟨rfl, rfl, rfl, Nat.le_refl _, fun _ _ _ => rfl⟩
theorem St.drewN (s : St W0 w L) (n : Nat) : St W0 (w.drewN n) L := s.grown ⟨rfl, rfl, rfl, Nat.le_refl _, fun _ _ _ => rfl⟩
/-- new blocks, owned -/
theorem St.new (s : St W0 w L) (g : w.grownBy w' none) {a : Hp} (ha : a.le (Hp.of w')) (hn : ∀ k, k < w.heap.size → a k = none) (hA : ∀ m, A.p m a) : St W0 w' (A :: L) := by
  obtain ⟨h1, h2, h3, h4, m, h, hm, hw, hh, d, hL⟩ := s
  have up : (Hp.of w).le (Hp.of w') := fun k o e => by
    rw [← e]; exact g.block k (Hp.of_lt e) (by simp)
  have far : ∀ {x : Hp}, x.le (Hp.of w) → x.dj a := fun {x} hx k => by
    cases e : x k with
    | none => left; rfl
    | some o => right; exact hn k (Hp.of_lt (hx k o e))
  exact ⟨g.os.trans h1, g.tape.trans h2, g.output.trans h3, Nat.le_trans h4 g.size, m, a.or h, hm, hw.trans up, Hp.or_le ha (hh.trans up),
    Hp.dj_or (far hw) d, a, h, (far hh).symm, Hp.le_or_left a h, Hp.le_or_right (far hh).symm, hA m, hL⟩
theorem St.alloc (s : St W0 w L) (o : Obj) : St W0 (w.alloc o) (blk w.heap.size o :: L) := by
  refine s.new (World.grownBy_alloc w o _) (a := Hp.one w.heap.size o) ?_ ?_ ?_
  · intro k x e
    unfold Hp.one at e
    split at e
    · rename_i hk; subst hk; cases e; exact heap_alloc_new w o
    · cases e
  · intro k hk; unfold Hp.one; rw [if_neg (by omega)]
  · intro m; simp [blk, Hp.one]
/-- the head laid open: its footprint may turn, and become B, with new blocks besides -/
theorem St.lay (s : St W0 w (A :: L)) : ∃ m a b : Hp, A.p m a ∧ SepL m L b ∧ m.le (Hp.of w) ∧ a.le (Hp.of w) ∧ b.le (Hp.of w) ∧ m.dj a ∧
    ∀ {w' : World} {B : HP} {L' : List HP} {a' : Hp}, w'.os = w.os → w'.tape = w.tape → w'.output = w.output → w.heap.size ≤ w'.heap.size →
      B.p m a' → a'.le (Hp.of w') → (∀ k, k < w.heap.size → a k = none → w'.heap[k]? = w.heap[k]? ∧ a' k = none) → SepL m L' b → St W0 w' (B :: L') := by
  obtain ⟨h1, h2, h3, h4, m, h, hm, hw, hh, d, a, b, d2, ha, hb, hA, hL⟩ := s
  have dma : m.dj a := d.sub (Hp.le_refl m) ha
  refine ⟨m, a, b, hA, hL, hw, ha.trans hh, hb.trans hh, dma, ?_⟩
  intro w' B L' a' hos htape hout hsz hB hle hk hL'
  have keep : ∀ {x : Hp}, x.le (Hp.of w) → x.dj a → x.le (Hp.of w') ∧ x.dj a' := fun {x} hx dx => by
    have key : ∀ k o, x k = some o → k < w.heap.size ∧ a k = none := fun k o e =>
      ⟨Hp.of_lt (hx k o e), (dx k).resolve_left (by rw [e]; simp)⟩
    refine ⟨fun k o e => ?_, fun k => ?_⟩
    · obtain ⟨hlt, hn⟩ := key k o e
      have := (hk k hlt hn).1
      exact this.trans (hx k o e)
    · cases e : x k with
      | none => left; rfl
      | some o => right; obtain ⟨hlt, hn⟩ := key k o e; exact (hk k hlt hn).2
  have km := keep hw dma
  have kb := keep (hb.trans hh) d2.symm
  exact ⟨hos.trans h1, htape.trans h2, hout.trans h3, Nat.le_trans h4 hsz, m, a'.or b, hm, km.1, Hp.or_le hle kb.1, Hp.dj_or km.2 (d.sub (Hp.le_refl m) hb),
    a', b, kb.2.symm, Hp.le_or_left a' b, Hp.le_or_right kb.2.symm, hB, hL'⟩
theorem St.turn (s : St W0 w (A :: L)) (hos : w'.os = w.os) (htape : w'.tape = w.tape) (hout : w'.output = w.output) (hsz : w.heap.size ≤ w'.heap.size)
    (f : ∀ m a : Hp, A.p m a → m.le (Hp.of w) → a.le (Hp.of w) → m.dj a → ∃ a' : Hp, B.p m a' ∧ a'.le (Hp.of w') ∧
      (∀ k, k < w.heap.size → a k = none → w'.heap[k]? = w.heap[k]? ∧ a' k = none)) : St W0 w' (B :: L) := by
  obtain ⟨m, a, b, hA, hL, hm, ha, _, d, g⟩ := s.lay
  obtain ⟨a', hB, hle, hk⟩ := f m a hA hm ha d
  exact g hos htape hout hsz hB hle hk hL
theorem St.set_ {b : Nat} {o o' : Obj} (s : St W0 w (blk b o :: L)) (g : w.grownBy w' (some b)) (h' : w'.heap[b]? = some o') : St W0 w' (blk b o' :: L) := by
  refine s.turn g.os g.tape g.output g.size ?_
  intro m a hA hmw haw d
  refine ⟨Hp.one b o', by simp [blk, Hp.one], ?_, ?_⟩
  · intro k x e
    unfold Hp.one at e
    split at e
    · rename_i hk; subst hk; cases e; exact h'
    · cases e
  · intro k hk hn
    have hne : k ≠ b := by
      intro e
      subst e
      have : a k = some o := hA
      rw [this] at hn
      cases hn
    exact ⟨g.block k hk (by simpa using hne), by simp [Hp.one, hne]⟩
theorem grownBy_setCell (w : World) (p : Addr) (u : Value) : w.grownBy (w.setCell p u) (some p.block) :=
  ⟨rfl, rfl, rfl, by simp [World.setCell], fun k _ hne => Below.heap_setCell w p u k (fun e => hne (by rw [e]))⟩
theorem St.setCell {b i : Nat} {cs : List Value} {t : TypeId} (s : St W0 w (cel b cs t :: L)) (u : Value) : St W0 (w.setCell ⟨b, i, none⟩ u) (cel b (cs.set i u) t :: L) := by
  refine St.set_ s (grownBy_setCell w ⟨b, i, none⟩ u) ?_
  have h := St.blk_ s
  simp [World.setCell, Array.getElem?_modify, h]
end Go.Proofs.Ytnjjifikogblpaa
namespace Go.Proofs.Ytnjjifikogblpaa
open Go Go.RowKit
set_option linter.unusedVariables false
set_option linter.unusedSimpArgs false

/-! ### how elements lie in cells -/
structure Enc (α : Type) where
  sz : Nat
  r : Hp → α → List Value → Prop
  mono : ∀ {m m' : Hp} {a : α} {cs : List Value}, m.le m' → r m a cs → r m' a cs
  len : ∀ {m : Hp} {a : α} {cs : List Value}, r m a cs → cs.length = sz
  one : ∀ {m : Hp} {a : α} {cs : List Value}, r m a cs → ∀ u ∈ cs, u.oneCell' = true

def All2 {α β : Type} (R : α → β → Prop) : List α → List β → Prop
  | [], [] => True
  | a :: l, b :: k => R a b ∧ All2 R l k
  | _, _ => False
theorem All2.length {α β : Type} {R : α → β → Prop} : ∀ {l : List α} {k : List β}, All2 R l k → l.length = k.length
  | [], [], _ => rfl
  | _ :: _, _ :: _, ⟨_, h⟩ => by simp [All2.length h]
  | [], _ :: _, h => h.elim
  | _ :: _, [], h => h.elim
theorem All2.imp {α β : Type} {R S : α → β → Prop} (f : ∀ a b, R a b → S a b) : ∀ {l : List α} {k : List β}, All2 R l k → All2 S l k
  | [], [], _ => trivial
  | _ :: _, _ :: _, ⟨h, t⟩ => ⟨f _ _ h, All2.imp f t⟩
  | [], _ :: _, h => h.elim
  | _ :: _, [], h => h.elim
theorem All2.append {α β : Type} {R : α → β → Prop} : ∀ {l l' : List α} {k k' : List β}, All2 R l k → All2 R l' k' → All2 R (l ++ l') (k ++ k')
  | [], _, [], _, _, h => h
  | _ :: _, _, _ :: _, _, ⟨h, t⟩, h' => ⟨h, All2.append t h'⟩
  | [], _, _ :: _, _, h, _ => h.elim
  | _ :: _, _, [], _, h, _ => h.elim
theorem All2.get {α β : Type} {R : α → β → Prop} : ∀ {l : List α} {k : List β} {i : Nat} {a : α}, All2 R l k → l[i]? = some a → ∃ b, k[i]? = some b ∧ R a b
  | [], _, _, _, _, h => by simp at h
  | _ :: _, _ :: _, 0, _, ⟨h, _⟩, e => by simp at e; subst e; exact ⟨_, rfl, h⟩
  | _ :: _, _ :: _, i + 1, _, ⟨_, t⟩, e => by simp at e; simpa using All2.get t e
  | _ :: _, [], _, _, h, _ => h.elim
theorem All2.drop {α β : Type} {R : α → β → Prop} : ∀ {l : List α} {k : List β} (n : Nat), All2 R l k → All2 R (l.drop n) (k.drop n)
  | _, _, 0, h => h
  | [], [], _ + 1, _ => trivial
  | _ :: _, _ :: _, n + 1, ⟨_, t⟩ => All2.drop n t
  | [], _ :: _, _, h => h.elim
  | _ :: _, [], _, h => h.elim
theorem All2.take {α β : Type} {R : α → β → Prop} : ∀ {l : List α} {k : List β} (n : Nat), All2 R l k → All2 R (l.take n) (k.take n)
  | _, _, 0, _ => trivial
  | [], [], _ + 1, _ => trivial
  | _ :: _, _ :: _, n + 1, ⟨h, t⟩ => ⟨h, All2.take n t⟩
  | [], _ :: _, _, h => h.elim
  | _ :: _, [], _, h => h.elim
theorem All2.set {α β : Type} {R : α → β → Prop} {a : α} {b : β} (hab : R a b) : ∀ {l : List α} {k : List β} (n : Nat), All2 R l k → All2 R (l.set n a) (k.set n b)
  | [], [], _, _ => trivial
  | _ :: _, _ :: _, 0, ⟨_, t⟩ => ⟨hab, t⟩
  | _ :: _, _ :: _, n + 1, ⟨h, t⟩ => ⟨h, All2.set hab n t⟩
  | [], _ :: _, _, h => h.elim
  | _ :: _, [], _, h => h.elim
theorem All2.map_right {α β γ : Type} {R : α → γ → Prop} {f : β → γ} : ∀ {l : List α} {k : List β}, All2 (fun a b => R a (f b)) l k → All2 R l (k.map f)
  | [], [], _ => trivial
  | _ :: _, _ :: _, ⟨h, t⟩ => ⟨h, All2.map_right t⟩
  | [], _ :: _, h => h.elim
  | _ :: _, [], h => h.elim


/-- one cell, a function of the element -/
def e1 {α : Type} (f : α → Value) (h : ∀ a, (f a).oneCell' = true) : Enc α :=
  ⟨1, fun _ a cs => cs = [f a], fun _ h => h, fun h => by subst h; rfl, fun {_ a _} e u hu => by subst e; simp at hu; subst hu; exact h a⟩

abbrev bv (u : UInt8) : Value := .int .u8 (u.toNat : Int)
abbrev uv (u : UInt64) : Value := .int .u64 (u.toNat : Int)
abbrev iv (n : Int) : Value := .int .i64 n
def eI : Enc Int := e1 iv fun _ => rfl
def eB : Enc UInt8 := e1 bv fun _ => rfl
def eU : Enc UInt64 := e1 uv fun _ => rfl

/-- slice value v reads as the list l -/
def Sl {α : Type} (m : Hp) (R : Enc α) (v : Value) (l : List α) : Prop :=
  ∃ A cap css, v = .slice A l.length cap ∧ l.length ≤ cap ∧ All2 (R.r m) l css ∧
    (l = [] ∨ ∃ b off cs t fr, A = some ⟨b, off, none⟩ ∧ m b = some (.cells cs t fr) ∧ ∀ j u, css.flatten[j]? = some u → cs[off + j]? = some u)
theorem Sl.mono {α : Type} {m m' : Hp} {R : Enc α} {v : Value} {l : List α} (hm : m.le m') (h : Sl m R v l) : Sl m' R v l := by
  obtain ⟨A, cap, css, hv, hc, ha, hr⟩ := h
  refine ⟨A, cap, css, hv, hc, ha.imp fun _ _ => R.mono hm, ?_⟩
  rcases hr with h | ⟨b, off, cs, t, fr, hA, hb, hcs⟩
  · exact .inl h
  · exact .inr ⟨b, off, cs, t, fr, hA, hm _ _ hb, hcs⟩
def slI {α : Type} (R : Enc α) (v : Value) (l : List α) : Im := ⟨fun m => Sl m R v l, fun hm h => h.mono hm⟩
/-- v reads as l, for good -/
def rd {α : Type} (R : Enc α) (v : Value) (l : List α) : HP := im (slI R v l)
/-- nested: an element that is a slice -/
def eSl {α : Type} (R : Enc α) : Enc (List α) :=
  ⟨1, fun m l cs => ∃ v, cs = [v] ∧ Sl m R v l, fun hm ⟨v, e, h⟩ => ⟨v, e, h.mono hm⟩, fun ⟨_, e, _⟩ => by subst e; rfl,
   fun {_ _ _} ⟨v, e, h⟩ u hu => by subst e; simp at hu; subst hu; obtain ⟨A, cap, css, hv, _⟩ := h; rw [hv]; rfl⟩

theorem flat_len {sz : Nat} : ∀ {css : List (List Value)}, (∀ c ∈ css, c.length = sz) → css.flatten.length = css.length * sz
  | [], _ => by simp
  | c :: r, h => by
    have := flat_len (css := r) fun x hx => h x (by simp [hx])
    simp only [List.flatten_cons, List.length_append, List.length_cons, this, h c (by simp), Nat.add_mul]; omega
theorem flat_get {sz : Nat} : ∀ {css : List (List Value)} {i j : Nat} {c : List Value}, (∀ c ∈ css, c.length = sz) → css[i]? = some c → j < sz → css.flatten[i * sz + j]? = c[j]?
  | [], _, _, _, _, h, _ => by simp at h
  | c :: r, 0, j, _, h, e, hj => by
    simp at e; subst e
    simp only [List.flatten_cons, Nat.zero_mul, Nat.zero_add]
    exact List.getElem?_append_left (by rw [h c (by simp)]; exact hj)
  | c :: r, i + 1, j, _, h, e, hj => by
    simp at e
    have ih := flat_get (css := r) (fun x hx => h x (by simp [hx])) e hj
    rw [← ih, List.flatten_cons, List.getElem?_append_right (by rw [h c (by simp), Nat.add_mul]; omega), h c (by simp)]
    congr 1
    rw [Nat.add_mul]; omega
theorem All2.lens {α : Type} {R : Enc α} {m : Hp} : ∀ {l : List α} {css : List (List Value)}, All2 (R.r m) l css → ∀ c ∈ css, c.length = R.sz
  | [], [], _, c, hc => by simp at hc
  | _ :: _, _ :: _, ⟨h, t⟩, c, hc => by
    rcases List.mem_cons.1 hc with e | hc
    · subst e; exact R.len h
    · exact All2.lens t c hc
  | [], _ :: _, h, _, _ => h.elim
  | _ :: _, [], h, _, _ => h.elim
theorem All2.ones {α : Type} {R : Enc α} {m : Hp} : ∀ {l : List α} {css : List (List Value)}, All2 (R.r m) l css → ∀ u ∈ css.flatten, u.oneCell' = true
  | [], [], _, u, hu => by simp at hu
  | _ :: _, _ :: _, ⟨h, t⟩, u, hu => by
    rw [List.flatten_cons] at hu
    rcases List.mem_append.1 hu with e | hu
    · exact R.one h u e
    · exact All2.ones t u hu
  | [], _ :: _, h, _, _ => h.elim
  | _ :: _, [], h, _, _ => h.elim
theorem All2.flen {α : Type} {R : Enc α} {m : Hp} {l : List α} {css : List (List Value)} (h : All2 (R.r m) l css) : css.flatten.length = l.length * R.sz := by
  rw [flat_len h.lens, h.length]

/-- the element at i: its cells, at an address -/
theorem Sl.at_ {α : Type} {m : Hp} {R : Enc α} {A : Option Addr} {n cap i : Nat} {l : List α} {a : α} (h : Sl m R (.slice A n cap) l) (hi : l[i]? = some a) :
    ∃ b off cs t fr c, A = some ⟨b, off, none⟩ ∧ m b = some (.cells cs t fr) ∧ R.r m a c ∧ ∀ j u, c[j]? = some u → cs[off + i * R.sz + j]? = some u := by
  obtain ⟨A', cap', css, hv, hc, ha, hr⟩ := h
  injection hv with e1 e2 e3
  rcases hr with h | ⟨b, off, cs, t, fr, hA, hb, hcs⟩
  · subst h; simp at hi
  · obtain ⟨c, hc', hra⟩ := ha.get hi
    refine ⟨b, off, cs, t, fr, c, e1.trans hA, hb, hra, fun j u hj => ?_⟩
    have hlt : j < R.sz := by
      rw [← R.len hra]
      exact (List.getElem?_eq_some_iff.1 hj).1
    have := hcs (i * R.sz + j) u (by rw [flat_get ha.lens hc' hlt]; exact hj)
    rwa [← Nat.add_assoc] at this
/-- an element of one cell -/
theorem Sl.cell1 {α : Type} {w : World} {f : α → Value} {hf : ∀ a, (f a).oneCell' = true} {A : Option Addr} {n cap i : Nat} {l : List α} (h : Sl (Hp.of w) (e1 f hf) (.slice A n cap) l) (hi : i < l.length) :
    ∃ b off a, l[i]? = some a ∧ w.cell? ⟨b, off + i, none⟩ = some (f a) ∧ A = some ⟨b, off, none⟩ := by
  obtain ⟨b, off, cs, t, fr, c, hA, hb, hr, hc⟩ := h.at_ (List.getElem?_eq_getElem hi)
  have hr : c = [f l[i]] := hr
  subst hr
  have := hc 0 _ rfl
  have hb' : w.heap[b]? = some (.cells cs t fr) := hb
  refine ⟨b, off, l[i], List.getElem?_eq_getElem hi, ?_, hA⟩
  have e1 : (e1 f hf).sz = 1 := rfl
  rw [e1] at this
  simp at this
  simp [World.cell?, hb', this]
theorem Sl.len_ {α : Type} {m : Hp} {R : Enc α} {A : Option Addr} {n cap : Nat} {l : List α} (h : Sl m R (.slice A n cap) l) : l.length = n := by
  obtain ⟨A', cap', css, hv, _⟩ := h
  injection hv with _ e _
  exact e.symm
theorem Sl.cap_ {α : Type} {m : Hp} {R : Enc α} {A : Option Addr} {n cap : Nat} {l : List α} (h : Sl m R (.slice A n cap) l) : n ≤ cap := by
  obtain ⟨A', cap', css, hv, hc, _⟩ := h
  injection hv with _ e e'
  omega
theorem Sl.form {α : Type} {m : Hp} {R : Enc α} {v : Value} {l : List α} (h : Sl m R v l) : ∃ A cap, v = .slice A l.length cap ∧ l.length ≤ cap := by
  obtain ⟨A', cap', css, hv, hc, _⟩ := h
  exact ⟨A', cap', hv, hc⟩
theorem Sl.nil {α : Type} (m : Hp) (R : Enc α) (A : Option Addr) (cap : Nat) : Sl m R (.slice A 0 cap) ([] : List α) :=
  ⟨A, cap, [], rfl, Nat.zero_le _, trivial, .inl rfl⟩
/-- a cut -/
theorem Sl.cut {α : Type} {m : Hp} {R : Enc α} {A : Option Addr} {n cap : Nat} {l : List α} (h : Sl m R (.slice A n cap) l) {lo hi mx : Nat} (h1 : lo ≤ hi) (h2 : hi ≤ n) (h3 : hi ≤ mx) :
    Sl m R (.slice (if mx = lo then A else A.map (·.add (lo * R.sz))) (hi - lo) (mx - lo)) ((l.take hi).drop lo) := by
  obtain ⟨A', cap', css, hv, hc, ha, hr⟩ := h
  injection hv with e1 e2 e3
  subst e1; subst e2; subst e3
  have hlen : ((l.take hi).drop lo).length = hi - lo := by simp; omega
  by_cases he : hi = lo
  · subst he
    have : (l.take hi).drop hi = [] := by apply List.eq_nil_of_length_eq_zero; simp
    rw [this, Nat.sub_self]
    exact Sl.nil m R _ _
  · refine ⟨_, mx - lo, (css.take hi).drop lo, by rw [hlen], by rw [hlen]; omega, (ha.take hi).drop lo, .inr ?_⟩
    rcases hr with h | ⟨b, off, cs, t, fr, hA, hb, hcs⟩
    · subst h; simp at h2; omega
    · subst hA
      refine ⟨b, off + lo * R.sz, cs, t, fr, ?_, hb, fun j u hj => ?_⟩
      · rw [if_neg (by omega)]
        simp only [Option.map_some, Addr.add]
        split
        · rename_i h0; rw [h0]; rfl
        · rfl
      · have hlens := ha.lens
        have hj' : css.flatten[lo * R.sz + j]? = some u := by
          have e : css.flatten = (css.take hi).flatten ++ (css.drop hi).flatten := by rw [← List.flatten_append, List.take_append_drop]
          have e2 : (css.take hi).flatten = ((css.take hi).take lo).flatten ++ ((css.take hi).drop lo).flatten := by rw [← List.flatten_append, List.take_append_drop]
          have l1 : ((css.take hi).take lo).flatten.length = lo * R.sz := by
            rw [flat_len (sz := R.sz) (fun c hc => hlens c (List.mem_of_mem_take (List.mem_of_mem_take hc)))]
            have := ha.length
            simp only [List.length_take]
            congr 1; omega
          have hjl := (List.getElem?_eq_some_iff.1 hj).1
          rw [e, List.getElem?_append_left (by rw [e2, List.length_append, l1]; omega), e2, List.getElem?_append_right (by omega), l1]
          have : lo * R.sz + j - lo * R.sz = j := by omega
          rw [this]; exact hj
        have := hcs _ _ hj'
        rwa [← Nat.add_assoc] at this

/-- a row of the call's own, reading as l -/
def own {α : Type} (E : TypeId) (R : Enc α) (v : Value) (l : List α) : HP :=
  ⟨fun m h => ∃ css, All2 (R.r m) l css ∧ ((v = .slice none 0 0 ∧ l = []) ∨ ∃ g cap cur, v = .slice (some ⟨g, 0, none⟩) l.length cap ∧ h g = some (.cells cur E (0, 0)) ∧
      l.length ≤ cap ∧ cap ≤ maxLen ∧ cur.size = cap * R.sz ∧ cur.toList.take (l.length * R.sz) = css.flatten),
   fun hm ⟨css, ha, h⟩ => ⟨css, ha.imp fun _ _ => R.mono hm, h⟩⟩
theorem own_sl {α : Type} {E : TypeId} {R : Enc α} {v : Value} {l : List α} {m h : Hp} {c : Hp} (hm : m.le c) (hh : h.le c) (k : (own E R v l).p m h) : Sl c R v l := by
  obtain ⟨css, ha, k⟩ := k
  have ha' := ha.imp (S := R.r c) fun _ _ => R.mono hm
  rcases k with ⟨rfl, rfl⟩ | ⟨g, cap, cur, rfl, hg, hc, _, _, ht⟩
  · exact Sl.nil c R none 0
  · refine ⟨_, cap, css, rfl, hc, ha', .inr ⟨g, 0, cur, E, (0, 0), rfl, hh _ _ hg, fun j u hj => ?_⟩⟩
    rw [← ht, List.getElem?_take] at hj
    split at hj
    · simpa using hj
    · cases hj

variable {W0 w w' : World} {L : List HP}
theorem St.mem {A : HP} (s : St W0 w L) (h : A ∈ L) : ∃ L', L.Perm (A :: L') := by
  obtain ⟨l1, l2, rfl⟩ := List.append_of_mem h
  exact ⟨l1 ++ l2, List.perm_middle⟩
theorem St.get {A : HP} (s : St W0 w L) (h : A ∈ L) : ∃ m a : Hp, m.le (Hp.of w) ∧ a.le (Hp.of w) ∧ m.dj a ∧ A.p m a := by
  obtain ⟨L', p⟩ := s.mem h
  obtain ⟨_, _, _, _, m, h, _, hw, hh, d, a, b, _, ha, _, hA, _⟩ := s.perm p
  exact ⟨m, a, hw, ha.trans hh, d.sub (Hp.le_refl m) ha, hA⟩
theorem St.rd {α : Type} {R : Enc α} {v : Value} {l : List α} (s : St W0 w L) (h : rd R v l ∈ L) : Sl (Hp.of w) R v l := by
  obtain ⟨m, a, hm, _, _, hA⟩ := s.get h
  exact Sl.mono hm hA
theorem St.rdo {α : Type} {E : TypeId} {R : Enc α} {v : Value} {l : List α} (s : St W0 w L) (h : own E R v l ∈ L) : Sl (Hp.of w) R v l := by
  obtain ⟨m, a, hm, ha, _, hA⟩ := s.get h
  exact own_sl hm ha hA
theorem St.cel_ {b : Nat} {cs : List Value} {t : TypeId} (s : St W0 w L) (h : cel b cs t ∈ L) : w.heap[b]? = some (.cells cs.toArray t (0, 0)) := by
  obtain ⟨m, a, _, ha, _, hA⟩ := s.get h
  exact ha _ _ hA
theorem St.im' {R : Im} (s : St W0 w L) (h : im R ∈ L) : R.r (Hp.of w) := by
  obtain ⟨m, a, hm, _, _, hA⟩ := s.get h
  exact R.mono hm hA

/-- by place -/
theorem perm_at {A : HP} : ∀ {L : List HP} {i : Nat}, L[i]? = some A → L.Perm (A :: L.eraseIdx i)
  | [], _, h => by simp at h
  | x :: L, 0, h => by simp at h; subst h; simp
  | x :: L, i + 1, h => by
    simp at h
    simpa using ((perm_at h).cons x).trans (List.Perm.swap A x _)
theorem perm_set {A B : HP} : ∀ {L : List HP} {i : Nat}, L[i]? = some A → (B :: L.eraseIdx i).Perm (L.set i B)
  | [], _, h => by simp at h
  | x :: L, 0, h => by simp
  | x :: L, i + 1, h => by
    simp at h
    simpa using (List.Perm.swap x B _).trans ((perm_set (B := B) h).cons x)
theorem St.at_ {A : HP} {i : Nat} (s : St W0 w L) (h : L[i]? = some A) : St W0 w (A :: L.eraseIdx i) := s.perm (perm_at h)
theorem St.back {A B : HP} {i : Nat} (s : St W0 w (B :: L.eraseIdx i)) (h : L[i]? = some A) : St W0 w (L.set i B) := s.perm (perm_set h)

/-- own a row: frozen for good -/
theorem St.own_rd {α : Type} {E : TypeId} {R : Enc α} {v : Value} {l : List α} (s : St W0 w (own E R v l :: L)) : St W0 w (Go.Proofs.Ytnjjifikogblpaa.rd R v l :: L) :=
  s.freeze fun m h d k => own_sl (Hp.le_or_left m h) (Hp.le_or_right d) k
theorem St.own_nil {α : Type} (E : TypeId) (R : Enc α) (s : St W0 w L) : St W0 w (own E R (.slice none 0 0) ([] : List α) :: L) :=
  s.weak fun _ b k => ⟨Hp.none, b, Hp.none_dj _, Hp.none_le _, Hp.le_refl _, ⟨[], trivial, .inl ⟨rfl, rfl⟩⟩, k⟩
theorem St.rd_nil {α : Type} (R : Enc α) (A : Option Addr) (c : Nat) (s : St W0 w L) : St W0 w (Go.Proofs.Ytnjjifikogblpaa.rd R (.slice A 0 c) ([] : List α) :: L) :=
  s.weak fun m b k => ⟨Hp.none, b, Hp.none_dj _, Hp.none_le _, Hp.le_refl _, Sl.nil m R A c, k⟩
theorem St.rd_cut {α : Type} {R : Enc α} {A : Option Addr} {n cap : Nat} {l : List α} (s : St W0 w (Go.Proofs.Ytnjjifikogblpaa.rd R (.slice A n cap) l :: L)) {lo hi mx : Nat} (h1 : lo ≤ hi) (h2 : hi ≤ n) (h3 : hi ≤ mx) :
    St W0 w (Go.Proofs.Ytnjjifikogblpaa.rd R (.slice (if mx = lo then A else A.map (·.add (lo * R.sz))) (hi - lo) (mx - lo)) ((l.take hi).drop lo) :: L) :=
  s.imp fun _ _ k => Sl.cut k h1 h2 h3

/-- the kit's word -/
theorem own_ownsRow {α : Type} {E : TypeId} {R : Enc α} {v : Value} {l : List α} {m h : Hp} (hh : h.le (Hp.of w)) (k : (own E R v l).p m h) :
    ∃ css, All2 (R.r m) l css ∧ w.ownsRow 0 E R.sz v l.length css.flatten ∧ (∀ g, v.ownBlock = some g → h g = w.heap[g]?) := by
  obtain ⟨css, ha, k⟩ := k
  refine ⟨css, ha, ⟨ha.flen, ?_⟩, ?_⟩
  · rcases k with ⟨rfl, rfl⟩ | ⟨g, cap, cur, rfl, hg, hc, hm, hs, ht⟩
    · exact .inl ⟨rfl, rfl⟩
    · exact .inr ⟨g, cap, cur, rfl, Nat.zero_le _, hh _ _ hg, hc, hm, hs, ht⟩
  · intro g hg
    rcases k with ⟨rfl, rfl⟩ | ⟨g', cap, cur, rfl, hg', _⟩
    · simp [Value.ownBlock] at hg
    · simp [Value.ownBlock] at hg
      subst hg
      rw [hg']; exact (hh _ _ hg').symm
theorem ownsRow_own {α : Type} {E : TypeId} {R : Enc α} {v : Value} {l : List α} {m : Hp} {css : List (List Value)} (ha : All2 (R.r m) l css) (k : w.ownsRow 0 E R.sz v l.length css.flatten) :
    (own E R v l).p m (fun x => if v.ownBlock = some x then w.heap[x]? else none) := by
  refine ⟨css, ha, ?_⟩
  rcases k.2 with ⟨rfl, hn⟩ | ⟨g, cap, cur, rfl, _, hg, hc, hm, hs, ht⟩
  · exact .inl ⟨rfl, List.eq_nil_of_length_eq_zero hn⟩
  · exact .inr ⟨g, cap, cur, rfl, by simp [Value.ownBlock, hg], hc, hm, hs, ht⟩
/-- after a law of the kit's that ends in ownsRow, grownBy -/
theorem St.own_turn {α : Type} {E : TypeId} {R : Enc α} {v : Value} {l : List α} (s : St W0 w (own E R v l :: L)) :
    ∃ css, w.ownsRow 0 E R.sz v l.length css.flatten ∧ (∀ c ∈ css, c.length = R.sz) ∧ css.length = l.length ∧ ∀ {w' : World} {v' : Value} {l' : List α} {css' : List (List Value)},
      (∀ m h, SepL m L h → All2 (R.r m) l css → All2 (R.r m) l' css') → w'.ownsRow 0 E R.sz v' l'.length css'.flatten → w.grownBy w' v.ownBlock →
      (v'.ownBlock = v.ownBlock ∨ v'.ownBlock = some w.heap.size) → St W0 w' (own E R v' l' :: L) := by
  obtain ⟨m, a, b, hA, hL, hm, ha, _, d, g⟩ := s.lay
  obtain ⟨css, hall, hrow, hblk⟩ := own_ownsRow ha hA
  refine ⟨css, hrow, hall.lens, hall.length.symm, ?_⟩
  intro w' v' l' css' f hown hg hbk
  refine g hg.os hg.tape hg.output hg.size (ownsRow_own (f m b hL hall) hown) ?_ ?_ hL
  · intro k o e
    dsimp only at e
    split at e
    · exact e
    · cases e
  · intro k hk hn
    have hne : v.ownBlock ≠ some k := fun e => by
      have h1 := hblk k e
      rw [hn] at h1
      have : w.heap[k]? = some w.heap[k] := Array.getElem?_eq_getElem hk
      rw [this] at h1; cases h1
    refine ⟨hg.block k hk (fun e => hne e.symm), ?_⟩
    rw [if_neg]
    rcases hbk with hb | hb
    · rw [hb]; exact hne
    · rw [hb]; intro e; injection e with e; omega
end Go.Proofs.Ytnjjifikogblpaa
