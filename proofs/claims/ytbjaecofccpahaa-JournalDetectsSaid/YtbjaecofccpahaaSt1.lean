/-
  My own layer over the kit's walk, part 1: assertions over disjoint parts of memory, and one law an operation. Nothing of a program stands here.
-/
import Derived.WalkKit
import Derived.Maps.AppendAt
import Derived.Deep.Draws
namespace Go.Proofs.Ytbjaecofccpahaa
open Go Go.RowKit
set_option linter.unusedVariables false
set_option linter.unusedSimpArgs false

/-! ### heaplets -/
abbrev Hp := Nat → Option Obj
def Hp.le (a b : Hp) : Prop := ∀ k o, a k = some o → b k = some o
def Hp.dj (a b : Hp) : Prop := ∀ k, a k = none ∨ b k = none
def Hp.or (a b : Hp) : Hp := fun k => (a k).or (b k)
def Hp.one (b : Nat) (o : Obj) : Hp := fun k => if k = b then some o else none
def Hp.none : Hp := fun _ => Option.none

theorem Hp.le_refl (a : Hp) : a.le a := fun _ _ h => h
theorem Hp.le.trans {a b c : Hp} (h : a.le b) (k : b.le c) : a.le c := fun x o e => k x o (h x o e)
theorem Hp.dj.symm {a b : Hp} (h : a.dj b) : b.dj a := fun k => (h k).symm
theorem Hp.dj.sub {a b a' b' : Hp} (h : a.dj b) (ha : a'.le a) (hb : b'.le b) : a'.dj b' := fun k => by
  rcases h k with e | e
  · left
    cases h' : a' k with
    | none => rfl
    | some o => rw [ha k o h'] at e; cases e
  · right
    cases h' : b' k with
    | none => rfl
    | some o => rw [hb k o h'] at e; cases e
theorem Hp.le_or_left (a b : Hp) : a.le (a.or b) := fun k o h => by simp [Hp.or, h]
theorem Hp.le_or_right {a b : Hp} (h : a.dj b) : b.le (a.or b) := fun k o e => by
  rcases h k with h | h
  · simp [Hp.or, h, e]
  · rw [h] at e; cases e
theorem Hp.or_le {a b c : Hp} (ha : a.le c) (hb : b.le c) : (a.or b).le c := fun k o e => by
  unfold Hp.or at e
  cases h : a k with
  | none => rw [h] at e; exact hb k o (by simpa using e)
  | some x => rw [h] at e; simp at e; subst e; exact ha k x h
theorem Hp.or_dj {a b c : Hp} (ha : a.dj c) (hb : b.dj c) : (a.or b).dj c := fun k => by
  rcases ha k with h | h
  · rcases hb k with h' | h'
    · left; simp [Hp.or, h, h']
    · right; exact h'
  · right; exact h
theorem Hp.dj_or {a b c : Hp} (ha : c.dj a) (hb : c.dj b) : c.dj (a.or b) := (Hp.or_dj ha.symm hb.symm).symm
theorem Hp.none_dj (a : Hp) : Hp.none.dj a := fun _ => .inl rfl
theorem Hp.dj_none (a : Hp) : a.dj Hp.none := fun _ => .inr rfl
theorem Hp.none_le (a : Hp) : Hp.none.le a := fun _ _ h => by cases h

/-! ### assertions: of an immutable heaplet m and an owned one h -/
structure HP where
  p : Hp → Hp → Prop
  mono : ∀ {m m' h : Hp}, m.le m' → p m h → p m' h

/-- a whole block of cells, owned -/
def blk (b : Nat) (o : Obj) : HP := ⟨fun _ h => h b = some o, fun _ h => h⟩
def cel (b : Nat) (cs : List Value) (t : TypeId) : HP := blk b (.cells cs.toArray t (0, 0))
def pur (φ : Prop) : HP := ⟨fun _ _ => φ, fun _ h => h⟩
/-- a fact of the immutable memory -/
structure Im where
  r : Hp → Prop
  mono : ∀ {m m' : Hp}, m.le m' → r m → r m'
def im (R : Im) : HP := ⟨fun m _ => R.r m, fun h k => R.mono h k⟩
def ex {α : Sort _} (A : α → HP) : HP := ⟨fun m h => ∃ x, (A x).p m h, fun hm ⟨x, k⟩ => ⟨x, (A x).mono hm k⟩⟩

/-- a list of assertions over disjoint parts of h (affine) -/
def SepL (m : Hp) : List HP → Hp → Prop
  | [], _ => True
  | A :: L, h => ∃ a b : Hp, a.dj b ∧ a.le h ∧ b.le h ∧ A.p m a ∧ SepL m L b

/-- several assertions as one -/
theorem SepL.mono {m m' : Hp} (hm : m.le m') : ∀ {L : List HP} {h : Hp}, SepL m L h → SepL m' L h
  | [], _, _ => trivial
  | A :: _, _, ⟨a, b, d, ha, hb, hA, hL⟩ => ⟨a, b, d, ha, hb, A.mono hm hA, SepL.mono hm hL⟩
def sp (L : List HP) : HP := ⟨fun m h => SepL m L h, fun hm h => SepL.mono hm h⟩

theorem SepL.up {m : Hp} : ∀ {L : List HP} {h h' : Hp}, SepL m L h → h.le h' → SepL m L h'
  | [], _, _, _, _ => trivial
  | _ :: _, _, _, ⟨a, b, d, ha, hb, hA, hL⟩, hh => ⟨a, b, d, ha.trans hh, hb.trans hh, hA, hL⟩

theorem SepL.swap {m : Hp} {A B : HP} {L : List HP} {h : Hp} (s : SepL m (A :: B :: L) h) : SepL m (B :: A :: L) h := by
  obtain ⟨a, r, d, ha, hr, hA, b, c, d2, hb, hc, hB, hL⟩ := s
  refine ⟨b, a.or c, ?_, hb.trans hr, Hp.or_le ha (hc.trans hr), hB, a, c, ?_, Hp.le_or_left a c, Hp.le_or_right ?_, hA, hL⟩
  · exact Hp.dj_or (d.symm.sub hb (Hp.le_refl a)) d2
  · exact d.sub (Hp.le_refl a) hc
  · exact d.sub (Hp.le_refl a) hc
theorem SepL.skip {m : Hp} {A : HP} {L L' : List HP} {h : Hp} (s : SepL m (A :: L) h) (f : ∀ b, SepL m L b → SepL m L' b) : SepL m (A :: L') h := by
  obtain ⟨a, b, d, ha, hb, hA, hL⟩ := s
  exact ⟨a, b, d, ha, hb, hA, f b hL⟩
theorem SepL.perm {m : Hp} {L L' : List HP} (p : L.Perm L') : ∀ {h : Hp}, SepL m L h → SepL m L' h := by
  induction p with
  | nil => exact fun s => s
  | cons A _ ih => exact fun s => s.skip fun _ => ih
  | swap A B L => exact fun s => s.swap
  | trans _ _ ih1 ih2 => exact fun s => ih2 (ih1 s)
theorem SepL.tail {m : Hp} {A : HP} {L : List HP} {h : Hp} (s : SepL m (A :: L) h) : SepL m L h := by
  obtain ⟨a, b, d, ha, hb, hA, hL⟩ := s
  exact hL.up hb
theorem SepL.append {m : Hp} : ∀ {L L' : List HP} {a b h : Hp}, SepL m L a → SepL m L' b → a.dj b → a.le h → b.le h → SepL m (L ++ L') h
  | [], _, _, _, _, _, t, _, _, hb => t.up hb
  | A :: L, L', a, b, h, ⟨x, y, d, hx, hy, hA, hL⟩, t, dj, ha, hb => by
    refine ⟨x, y.or b, ?_, hx.trans ha, Hp.or_le (hy.trans ha) hb, hA, ?_⟩
    · exact Hp.dj_or d (dj.sub hx (Hp.le_refl b))
    · have dyb : y.dj b := dj.sub hy (Hp.le_refl b)
      exact SepL.append hL t dyb (Hp.le_or_left y b) (Hp.le_or_right dyb)
theorem SepL.part {m : Hp} : ∀ {L L' : List HP} {h : Hp}, SepL m (L ++ L') h → ∃ a b : Hp, a.dj b ∧ a.le h ∧ b.le h ∧ SepL m L a ∧ SepL m L' b
  | [], _, h, s => ⟨Hp.none, h, Hp.none_dj h, Hp.none_le h, Hp.le_refl h, trivial, s⟩
  | A :: L, L', h, ⟨x, y, d, hx, hy, hA, hL⟩ => by
    obtain ⟨a, b, d2, ha, hb, s, t⟩ := SepL.part hL
    refine ⟨x.or a, b, ?_, Hp.or_le hx (ha.trans hy), hb.trans hy, ⟨x, a, d.sub (Hp.le_refl x) ha, Hp.le_or_left x a, Hp.le_or_right (d.sub (Hp.le_refl x) ha), hA, s⟩, t⟩
    exact Hp.or_dj (d.sub (Hp.le_refl x) hb) d2

/-! ### the state -/
def Hp.of (w : World) : Hp := fun k => w.heap[k]?
/-- From W0 on: what lay in W0 lies there still and stays; the rest: L. -/
def St (W0 w : World) (L : List HP) : Prop :=
  w.os = W0.os ∧ w.tape = W0.tape ∧ w.output = W0.output ∧ W0.heap.size ≤ w.heap.size ∧
    ∃ m h : Hp, (Hp.of W0).le m ∧ m.le (Hp.of w) ∧ h.le (Hp.of w) ∧ m.dj h ∧ SepL m L h

theorem Hp.of_lt {w : World} {k : Nat} {o : Obj} (h : Hp.of w k = some o) : k < w.heap.size := (Array.getElem?_eq_some_iff.1 h).1

theorem St.init (W : World) : St W W [] := ⟨rfl, rfl, rfl, Nat.le_refl _, Hp.of W, Hp.none, Hp.le_refl _, Hp.le_refl _, Hp.none_le _, Hp.dj_none _, trivial⟩

variable {W0 w w' : World} {L L' : List HP} {A B : HP}

theorem St.below (s : St W0 w L) : Below W0.heap.size W0 w := by
  obtain ⟨h1, h2, h3, h4, m, h, hm, hw, _, _, _⟩ := s
  refine ⟨h1, h2, h3, h4, fun k hk => ?_⟩
  have e : Hp.of W0 k = some W0.heap[k] := Array.getElem?_eq_getElem hk
  have := hw k _ (hm k _ e)
  exact Eq.trans this e.symm

theorem St.weak (s : St W0 w L) (f : ∀ m h, SepL m L h → SepL m L' h) : St W0 w L' := by
  obtain ⟨h1, h2, h3, h4, m, h, hm, hw, hh, d, hL⟩ := s
  exact ⟨h1, h2, h3, h4, m, h, hm, hw, hh, d, f m h hL⟩
theorem St.perm (s : St W0 w L) (p : L.Perm L') : St W0 w L' := s.weak fun _ _ h => h.perm p
theorem St.drop (s : St W0 w (A :: L)) : St W0 w L := s.weak fun _ _ h => h.tail
theorem St.nil_ (s : St W0 w L) : St W0 w [] := s.weak fun _ _ _ => trivial

/-- the head replaced by what it implies -/
theorem St.imp (s : St W0 w (A :: L)) (f : ∀ m h, A.p m h → B.p m h) : St W0 w (B :: L) :=
  s.weak fun _ _ ⟨a, b, d, ha, hb, hA, hL⟩ => ⟨a, b, d, ha, hb, f _ _ hA, hL⟩
theorem St.open_ (s : St W0 w (sp L :: L')) : St W0 w (L ++ L') :=
  s.weak fun _ _ ⟨_, _, d, ha, hb, hA, hL⟩ => SepL.append hA hL d ha hb
theorem St.close_ (s : St W0 w (L ++ L')) : St W0 w (sp L :: L') :=
  s.weak fun _ _ h => let ⟨a, b, d, ha, hb, s, t⟩ := h.part; ⟨a, b, d, ha, hb, s, t⟩
theorem St.ex_ {α : Sort _} {F : α → HP} (s : St W0 w (ex F :: L)) : ∃ x, St W0 w (F x :: L) := by
  obtain ⟨h1, h2, h3, h4, m, h, hm, hw, hh, d, a, b, d2, ha, hb, ⟨x, hA⟩, hL⟩ := s
  exact ⟨x, h1, h2, h3, h4, m, h, hm, hw, hh, d, a, b, d2, ha, hb, hA, hL⟩
theorem St.mk_ex {α : Sort _} {F : α → HP} (x : α) (s : St W0 w (F x :: L)) : St W0 w (ex F :: L) := s.imp fun _ _ h => ⟨x, h⟩
theorem St.pur_ {φ : Prop} (s : St W0 w (pur φ :: L)) : φ := by
  obtain ⟨_, _, _, _, m, h, _, _, _, _, a, b, _, _, _, hA, _⟩ := s
  exact hA
theorem St.mk_pur {φ : Prop} (h : φ) (s : St W0 w L) : St W0 w (pur φ :: L) :=
  s.weak fun _ b k => ⟨Hp.none, b, Hp.none_dj _, Hp.none_le _, Hp.le_refl _, h, k⟩

/-! ### reading -/
theorem St.blk_ {b : Nat} {o : Obj} (s : St W0 w (blk b o :: L)) : w.heap[b]? = some o := by
  obtain ⟨_, _, _, _, m, h, _, _, hh, _, a, c, _, ha, _, hA, _⟩ := s
  exact hh b o (ha b o hA)
theorem St.im_ {R : Im} (s : St W0 w (im R :: L)) : R.r (Hp.of w) := by
  obtain ⟨_, _, _, _, m, h, _, hw, hh, _, a, c, _, ha, _, hA, _⟩ := s
  exact R.mono hw hA
theorem St.dup {R : Im} (s : St W0 w (im R :: L)) : St W0 w (im R :: im R :: L) :=
  s.weak fun m h k => by
    obtain ⟨a, b, d, ha, hb, hA, hL⟩ := k
    exact ⟨Hp.none, h, Hp.none_dj _, Hp.none_le _, Hp.le_refl _, hA, a, b, d, ha, hb, hA, hL⟩
/-- a fact of the memory that lay when the call began -/
theorem St.old {R : Im} (s : St W0 w L) (h : R.r (Hp.of W0)) : St W0 w (im R :: L) := by
  obtain ⟨h1, h2, h3, h4, m, hp, hm, hw, hh, d, hL⟩ := s
  exact ⟨h1, h2, h3, h4, m, hp, hm, hw, hh, d, Hp.none, hp, Hp.none_dj _, Hp.none_le _, Hp.le_refl _, R.mono hm h, hL⟩
/-- what is owned becomes immutable -/
theorem St.freeze {R : Im} (s : St W0 w (A :: L)) (f : ∀ m h : Hp, m.dj h → A.p m h → R.r (m.or h)) : St W0 w (im R :: L) := by
  obtain ⟨h1, h2, h3, h4, m, h, hm, hw, hh, d, a, b, d2, ha, hb, hA, hL⟩ := s
  have dma : m.dj a := d.sub (Hp.le_refl m) ha
  refine ⟨h1, h2, h3, h4, m.or a, b, hm.trans (Hp.le_or_left m a), Hp.or_le hw (ha.trans hh), hb.trans hh, Hp.or_dj (d.sub (Hp.le_refl m) hb) d2, ?_⟩
  exact ⟨Hp.none, b, Hp.none_dj _, Hp.none_le _, Hp.le_refl _, f m a dma hA, hL.mono (Hp.le_or_left m a)⟩

/-! ### the world moves on -/
/-- whatever leaves the old blocks alone -/
theorem St.grown (s : St W0 w L) (g : w.grownBy w' none) : St W0 w' L := by
  obtain ⟨h1, h2, h3, h4, m, h, hm, hw, hh, d, hL⟩ := s
  have up : (Hp.of w).le (Hp.of w') := fun k o e => by
    rw [← e]; exact g.block k (Hp.of_lt e) (by simp)
  exact ⟨g.os.trans h1, g.tape.trans h2, g.output.trans h3, Nat.le_trans h4 g.size, m, h, hm, hw.trans up, hh.trans up, d, hL⟩
theorem St.drew (s : St W0 w L) : St W0 w.drew L := s.grown ⟨rfl, rfl, rfl, Nat.le_refl _, fun _ _ _ => rfl⟩
theorem St.drewN (s : St W0 w L) (n : Nat) : St W0 (w.drewN n) L := s.grown ⟨rfl, rfl, rfl, Nat.le_refl _, fun _ _ _ => rfl⟩
/-- new blocks, owned -/
theorem St.new (s : St W0 w L) (g : w.grownBy w' none) {a : Hp} (ha : a.le (Hp.of w')) (hn : ∀ k, k < w.heap.size → a k = none) (hA : ∀ m, A.p m a) : St W0 w' (A :: L) := by
  obtain ⟨h1, h2, h3, h4, m, h, hm, hw, hh, d, hL⟩ := s
  have up : (Hp.of w).le (Hp.of w') := fun k o e => by
    rw [← e]; exact g.block k (Hp.of_lt e) (by simp)
  have far : ∀ {x : Hp}, x.le (Hp.of w) → x.dj a := fun {x} hx k => by
    cases e : x k with
    | none => left; rfl
    | some o => right; exact hn k (Hp.of_lt (hx k o e))
  exact ⟨g.os.trans h1, g.tape.trans h2, g.output.trans h3, Nat.le_trans h4 g.size, m, a.or h, hm, hw.trans up, Hp.or_le ha (hh.trans up),
    Hp.dj_or (far hw) d, a, h, (far hh).symm, Hp.le_or_left a h, Hp.le_or_right (far hh).symm, hA m, hL⟩
theorem St.alloc (s : St W0 w L) (o : Obj) : St W0 (w.alloc o) (blk w.heap.size o :: L) := by
  refine s.new (World.grownBy_alloc w o _) (a := Hp.one w.heap.size o) ?_ ?_ ?_
  · intro k x e
    unfold Hp.one at e
    split at e
    · rename_i hk; subst hk; cases e; exact heap_alloc_new w o
    · cases e
  · intro k hk; unfold Hp.one; rw [if_neg (by omega)]
  · intro m; simp [blk, Hp.one]
/-- the head laid open: its footprint may turn, and become B, with new blocks besides -/
theorem St.lay (s : St W0 w (A :: L)) : ∃ m a b : Hp, A.p m a ∧ SepL m L b ∧ m.le (Hp.of w) ∧ a.le (Hp.of w) ∧ b.le (Hp.of w) ∧ m.dj a ∧
    ∀ {w' : World} {B : HP} {L' : List HP} {a' : Hp}, w'.os = w.os → w'.tape = w.tape → w'.output = w.output → w.heap.size ≤ w'.heap.size →
      B.p m a' → a'.le (Hp.of w') → (∀ k, k < w.heap.size → a k = none → w'.heap[k]? = w.heap[k]? ∧ a' k = none) → SepL m L' b → St W0 w' (B :: L') := by
  obtain ⟨h1, h2, h3, h4, m, h, hm, hw, hh, d, a, b, d2, ha, hb, hA, hL⟩ := s
  have dma : m.dj a := d.sub (Hp.le_refl m) ha
  refine ⟨m, a, b, hA, hL, hw, ha.trans hh, hb.trans hh, dma, ?_⟩
  intro w' B L' a' hos htape hout hsz hB hle hk hL'
  have keep : ∀ {x : Hp}, x.le (Hp.of w) → x.dj a → x.le (Hp.of w') ∧ x.dj a' := fun {x} hx dx => by
    have key : ∀ k o, x k = some o → k < w.heap.size ∧ a k = none := fun k o e =>
      ⟨Hp.of_lt (hx k o e), (dx k).resolve_left (by rw [e]; simp)⟩
    refine ⟨fun k o e => ?_, fun k => ?_⟩
    · obtain ⟨hlt, hn⟩ := key k o e
      have := (hk k hlt hn).1
      exact this.trans (hx k o e)
    · cases e : x k with
      | none => left; rfl
      | some o => right; obtain ⟨hlt, hn⟩ := key k o e; exact (hk k hlt hn).2
  have km := keep hw dma
  have kb := keep (hb.trans hh) d2.symm
  exact ⟨hos.trans h1, htape.trans h2, hout.trans h3, Nat.le_trans h4 hsz, m, a'.or b, hm, km.1, Hp.or_le hle kb.1, Hp.dj_or km.2 (d.sub (Hp.le_refl m) hb),
    a', b, kb.2.symm, Hp.le_or_left a' b, Hp.le_or_right kb.2.symm, hB, hL'⟩
theorem St.turn (s : St W0 w (A :: L)) (hos : w'.os = w.os) (htape : w'.tape = w.tape) (hout : w'.output = w.output) (hsz : w.heap.size ≤ w'.heap.size)
    (f : ∀ m a : Hp, A.p m a → m.le (Hp.of w) → a.le (Hp.of w) → m.dj a → ∃ a' : Hp, B.p m a' ∧ a'.le (Hp.of w') ∧
      (∀ k, k < w.heap.size → a k = none → w'.heap[k]? = w.heap[k]? ∧ a' k = none)) : St W0 w' (B :: L) := by
  obtain ⟨m, a, b, hA, hL, hm, ha, _, d, g⟩ := s.lay
  obtain ⟨a', hB, hle, hk⟩ := f m a hA hm ha d
  exact g hos htape hout hsz hB hle hk hL
theorem St.set_ {b : Nat} {o o' : Obj} (s : St W0 w (blk b o :: L)) (g : w.grownBy w' (some b)) (h' : w'.heap[b]? = some o') : St W0 w' (blk b o' :: L) := by
  refine s.turn g.os g.tape g.output g.size ?_
  intro m a hA hmw haw d
  refine ⟨Hp.one b o', by simp [blk, Hp.one], ?_, ?_⟩
  · intro k x e
    unfold Hp.one at e
    split at e
    · rename_i hk; subst hk; cases e; exact h'
    · cases e
  · intro k hk hn
    have hne : k ≠ b := by
      intro e
      subst e
      have : a k = some o := hA
      rw [this] at hn
      cases hn
    exact ⟨g.block k hk (by simpa using hne), by simp [Hp.one, hne]⟩
theorem grownBy_setCell (w : World) (p : Addr) (u : Value) : w.grownBy (w.setCell p u) (some p.block) :=
  ⟨rfl, rfl, rfl, by simp [World.setCell], fun k _ hne => Below.heap_setCell w p u k (fun e => hne (by rw [e]))⟩
theorem St.setCell {b i : Nat} {cs : List Value} {t : TypeId} (s : St W0 w (cel b cs t :: L)) (u : Value) : St W0 (w.setCell ⟨b, i, none⟩ u) (cel b (cs.set i u) t :: L) := by
  refine St.set_ s (grownBy_setCell w ⟨b, i, none⟩ u) ?_
  have h := St.blk_ s
  simp [World.setCell, Array.getElem?_modify, h]
end Go.Proofs.Ytbjaecofccpahaa
