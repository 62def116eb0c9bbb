/-
  Maps with keys of any kind, pairs of integers among them. No program. My own program mx.py writes this out of my text Mp.
-/
import Derived.Laws.StructEq
import Derived.ChangeKeysEq
import Derived.Test.YtlmabajgnjiigaaMJ
namespace Go.Proofs.Ytlmabajgnjiigaa
open Go Go.RowKit Go.Instr
set_option linter.unusedVariables false
set_option linter.unusedSimpArgs false
def entX {κ α : Type} [DecidableEq κ] (K : κ → Value) (R : MEnc α) (m : Hp) (p : κ × α) (e : MapEntry) : Prop := e.key = K p.1 ∧ e.val = R.val p.2 ∧ (R.im p.2).r m
theorem entX.mono {κ α : Type} [DecidableEq κ] {K : κ → Value} {R : MEnc α} {m m' : Hp} (hm : m.le m') {p : κ × α} {e : MapEntry} (h : entX K R m p e) : entX K R m' p e := ⟨h.1, h.2.1, (R.im p.2).mono hm h.2.2⟩
/-- block b is a map that holds l -/
def mapx {κ α : Type} [DecidableEq κ] (K : κ → Value) (R : MEnc α) (b : Nat) (l : List (κ × α)) : HP :=
  ⟨fun m h => ∃ es clock, h b = some (.map es clock) ∧ All2 (entX K R m) l es.toList ∧ es.toList.Pairwise (fun x y => x.born < y.born) ∧ ∀ e ∈ es.toList, e.born < clock,
   fun hm ⟨es, clock, h1, h2, h3, h4⟩ => ⟨es, clock, h1, h2.imp fun _ _ => entX.mono hm, h3, h4⟩⟩
def posX {κ α : Type} [DecidableEq κ] (k : κ) : List (κ × α) → Nat → Option (Nat × α)
  | [], _ => none
  | p :: l, i => if k = p.1 then some (i, p.2) else posX k l (i + 1)
/-- what findKey does, and the key is a key -/
class KI (P : Program) {κ : Type} [DecidableEq κ] (K : κ → Value) (kt : TypeId) : Prop where
  chk : ∀ (em : Bool) (k : κ) (w : World), (checkKey em 10000 kt (K k)).run P w = .ok () w
  fnd : ∀ (k : κ) (w : World) {vs : List (κ × Value)} {es : List MapEntry}, All2 (fun p e => e.key = K p.1 ∧ e.val = p.2) vs es → (findKey kt (K k) es).run P w = .ok (posX k vs 0) w
  same : ∀ k : κ, sameBits 10000 (K k) (K k) = true
section
variable {P : Program} {w : World}
theorem posX_map {κ α β : Type} [DecidableEq κ] {f : α → β} {k : κ} : ∀ {l : List (κ × α)} {i : Nat}, posX k (l.map fun p => (p.1, f p.2)) i = (posX k l i).map fun q => (q.1, f q.2)
  | [], _ => rfl
  | p :: l, i => by
    rw [List.map_cons]
    unfold posX
    dsimp only
    split
    · rfl
    · exact posX_map
theorem findKey_x {κ α : Type} [DecidableEq κ] {K : κ → Value} {R : MEnc α} {m : Hp} {k : κ} {l : List (κ × α)} {es : List MapEntry} {kt : TypeId} [hk : KI P K kt] (h : All2 (entX K R m) l es) : (findKey kt (K k) es).run P w = .ok ((posX k l 0).map fun q => (q.1, R.val q.2)) w := by
  rw [hk.fnd (vs := l.map fun p => (p.1, R.val p.2)) k w (by
    have : ∀ {l : List (κ × α)} {es : List MapEntry}, All2 (entX K R m) l es → All2 (fun (p : κ × Value) (e : MapEntry) => e.key = K p.1 ∧ e.val = p.2) (l.map fun p => (p.1, R.val p.2)) es := by
      intro l
      induction l with
      | nil => intro es h; cases es with
        | nil => trivial
        | cons => exact h.elim
      | cons p l ih => intro es h; cases es with
        | nil => exact h.elim
        | cons e es => exact ⟨⟨h.1.1, h.1.2.1⟩, ih h.2⟩
    exact this h), posX_map]
theorem lookup_x {κ α : Type} [DecidableEq κ] {K : κ → Value} {R : MEnc α} {m : Hp} {k : κ} {l : List (κ × α)} {es : Array MapEntry} {clock : Nat} {t kt et : TypeId} {z : Value} {b : Nat} {ok : Bool} (ht : P.underlying t = some (.map kt et)) [hk : KI P K kt] (hz : (zeroValue et).run P w = .ok z w)
    (hb : w.heap[b]? = some (.map es clock)) (h : All2 (entX K R m) l es.toList) :
    (lookup t (.map (some b)) (K k) ok).run P w = .ok (if ok then .tuple #[((posX k l 0).map fun q => R.val q.2).getD z, .bool (posX k l 0).isSome] else ((posX k l 0).map fun q => R.val q.2).getD z) w := by
  unfold lookup
  simp only [Sem.run_bind, run_underlying ht, Result.andThen_ok, MapKept.run_getObj_map hb, Sem.run_pure, hk.chk, findKey_x h]
  cases hp : posX k l 0 with
  | none => simp [hz]
  | some q => simp
/-- what putting does to the list -/
def putX {κ α : Type} [DecidableEq κ] (k : κ) (x : α) (l : List (κ × α)) : List (κ × α) := match posX k l 0 with
  | some q => l.set q.1 (k, x)
  | none => l ++ [(k, x)]
def delX {κ α : Type} [DecidableEq κ] (k : κ) (l : List (κ × α)) : List (κ × α) := match posX k l 0 with
  | some q => l.eraseIdx q.1
  | none => l
theorem posX_lt {κ α : Type} [DecidableEq κ] {k : κ} : ∀ {l : List (κ × α)} {i : Nat} {q : Nat × α}, posX k l i = some q → i ≤ q.1 ∧ q.1 < i + l.length ∧ l[q.1 - i]? = some (k, q.2)
  | [], _, _, h => by cases h
  | p :: l, i, q, h => by
    unfold posX at h
    split at h
    · rename_i hk
      injection h with h
      subst h
      refine ⟨Nat.le_refl _, by simp, ?_⟩
      rw [Nat.sub_self, hk]
      rfl
    · have ih := posX_lt h
      refine ⟨by omega, by simp only [List.length_cons]; omega, ?_⟩
      have e : q.1 - i = (q.1 - (i + 1)) + 1 := by omega
      rw [e, List.getElem?_cons_succ]
      exact ih.2.2
theorem update_x {κ α : Type} [DecidableEq κ] {K : κ → Value} {R : MEnc α} {m : Hp} {k : κ} {l : List (κ × α)} {es : Array MapEntry} {clock : Nat} {t kt et : TypeId} {b : Nat} {v : Value} (ht : P.underlying t = some (.map kt et)) [hk : KI P K kt]
    (hb : w.heap[b]? = some (.map es clock)) (h : All2 (entX K R m) l es.toList) :
    (mapUpdate t (.map (some b)) (K k) v).run P w = .ok () { w with heap := w.heap.setIfInBounds b (match posX k l 0 with
      | some q => .map (es.modify q.1 fun e => { e with key := K k, val := v }) clock
      | none => .map (es.push { key := K k, val := v, born := clock }) (clock + 1)) } := by
  unfold mapUpdate
  simp only [Sem.run_bind, run_underlying ht, Result.andThen_ok, MapKept.run_getObj_map hb, Sem.run_pure, hk.chk, findKey_x h]
  cases hp : posX k l 0 with
  | none => simp only [Option.map_none]; exact MapKept.run_setObj_map _ hb
  | some q =>
    have hq := posX_lt hp
    have hq2 : l[q.1]? = some (k, q.2) := by simpa using hq.2.2
    obtain ⟨e, he, hke, _⟩ := h.get hq2
    have he' : es[q.1]? = some e := by simpa using he
    simp only [Option.map_some, he', Option.getD_some, hke, keyThatStays, hk.same k, if_true, Sem.run_pure, Sem.run_bind, Result.andThen_ok]
    exact MapKept.run_setObj_map _ hb
theorem delete_x {κ α : Type} [DecidableEq κ] {K : κ → Value} {R : MEnc α} {m : Hp} {k : κ} {l : List (κ × α)} {es : Array MapEntry} {clock : Nat} {t kt et u ty : TypeId} {b : Nat} (ht : P.underlying t = some (.map kt et)) [hk : KI P K kt]
    (hb : w.heap[b]? = some (.map es clock)) (h : All2 (entX K R m) l es.toList) :
    (Builtin.delete_ #[t, u] ty #[.map (some b), K k]).run P w = .ok (.tuple #[]) { w with heap := w.heap.setIfInBounds b (match posX k l 0 with
      | some q => .map (es.eraseIdxIfInBounds q.1) clock
      | none => .map es clock) } := by
  unfold Builtin.delete_
  simp only [List.getElem?_toArray, List.getElem?_cons_zero, List.getElem?_cons_succ, Sem.run_bind, run_underlying ht, Result.andThen_ok, MapKept.run_getObj_map hb, Sem.run_pure, hk.chk, findKey_x h]
  cases hp : posX k l 0 with
  | none => simp only [Option.map_none]; rw [Sem.run_bind, MapKept.run_setObj_map _ hb]; rfl
  | some q => simp only [Option.map_some]; rw [Sem.run_bind, MapKept.run_setObj_map _ hb]; rfl
end
section
variable {P : Program} {W0 w : World} {L : List HP}
theorem All2.eraseX {α β : Type} {R : α → β → Prop} : ∀ {l : List α} {k : List β} (n : Nat), All2 R l k → All2 R (l.eraseIdx n) (k.eraseIdx n)
  | [], [], _, _ => trivial
  | _ :: _, _ :: _, 0, ⟨_, t⟩ => t
  | _ :: _, _ :: _, n + 1, ⟨h, t⟩ => ⟨h, All2.eraseX n t⟩
  | [], _ :: _, _, h => h.elim
  | _ :: _, [], _, h => h.elim
theorem All2.modX {α β : Type} {R : α → β → Prop} {x : α} {f : β → β} : ∀ {l : List α} {k : List β} (n : Nat), All2 R l k → (∀ e, k[n]? = some e → R x (f e)) → All2 R (l.set n x) (k.modify n f)
  | [], [], n, _, _ => by cases n <;> exact trivial
  | _ :: _, _ :: _, 0, ⟨_, t⟩, h => ⟨h _ rfl, t⟩
  | _ :: _, _ :: _, n + 1, ⟨g, t⟩, h => ⟨g, All2.modX n t fun e he => h e (by simpa using he)⟩
  | [], _ :: _, _, h, _ => h.elim
  | _ :: _, [], _, h, _ => h.elim
theorem born_modx {f : MapEntry → MapEntry} (hf : ∀ e, (f e).born = e.born) : ∀ (es : List MapEntry) (n : Nat), (es.modify n f).map MapEntry.born = es.map MapEntry.born
  | [], n => by cases n <;> rfl
  | e :: es, 0 => by show (f e :: es).map _ = _; rw [List.map_cons, List.map_cons, hf]
  | e :: es, n + 1 => by show (e :: es.modify n f).map _ = _; rw [List.map_cons, List.map_cons, born_modx hf es n]
theorem St.mapx_ {κ α : Type} [DecidableEq κ] {K : κ → Value} {R : MEnc α} {b : Nat} {l : List (κ × α)} (s : St W0 w (mapx K R b l :: L)) :
    ∃ es clock m, w.heap[b]? = some (.map es clock) ∧ All2 (entX K R m) l es.toList := by
  obtain ⟨m, a, _, ⟨es, clock, h1, h2, _⟩, _, _, ha, _⟩ := s.lay
  exact ⟨es, clock, m, ha _ _ h1, h2⟩
theorem St.mapx_turn {κ α : Type} [DecidableEq κ] {K : κ → Value} {R : MEnc α} {b : Nat} {l l' : List (κ × α)} (s : St W0 w (mapx K R b l :: L)) {es : Array MapEntry} {clock : Nat} (hb : w.heap[b]? = some (.map es clock)) (es' : Array MapEntry) (clock' : Nat)
    (h1 : ∀ m h, SepL m L h → All2 (entX K R m) l es.toList → All2 (entX K R m) l' es'.toList)
    (h2 : es.toList.Pairwise (fun x y => x.born < y.born) → (∀ e ∈ es.toList, e.born < clock) → es'.toList.Pairwise (fun x y => x.born < y.born) ∧ ∀ e ∈ es'.toList, e.born < clock') :
    St W0 { w with heap := w.heap.setIfInBounds b (.map es' clock') } (mapx K R b l' :: L) := by
  obtain ⟨m, a, c, ⟨es0, clock0, g1, g2, g3, g4⟩, hL, hm, ha, hc, d, g⟩ := s.lay
  have e0 := ha _ _ g1
  have e1 : w.heap[b]? = some (.map es0 clock0) := e0
  rw [hb] at e1
  injection e1 with e1
  injection e1 with e1 e2
  subst e1 e2
  obtain ⟨k1, k2⟩ := h2 g3 g4
  have hlt : b < w.heap.size := (Array.getElem?_eq_some_iff.1 hb).1
  refine g (a' := fun k => if k = b then some (.map es' clock') else a k) rfl rfl rfl (by simp) ⟨es', clock', by simp, h1 m c hL g2, k1, k2⟩ ?_ ?_ hL
  · intro k o e
    show ({ w with heap := w.heap.setIfInBounds b (.map es' clock') } : World).heap[k]? = some o
    dsimp only at e ⊢
    by_cases hk : k = b
    · subst hk
      rw [if_pos rfl] at e
      rw [Array.getElem?_setIfInBounds_self_of_lt hlt]
      exact e
    · rw [if_neg hk] at e
      rw [Array.getElem?_setIfInBounds_ne (fun h => hk h.symm)]
      exact ha _ _ e
  · intro k hk hn
    have hne : k ≠ b := by
      intro e
      subst e
      rw [hn] at g1
      cases g1
    exact ⟨Array.getElem?_setIfInBounds_ne (fun h => hne h.symm), by rw [if_neg hne]; exact hn⟩
theorem St.mapx_put {κ α : Type} [DecidableEq κ] {K : κ → Value} {R : MEnc α} {b : Nat} {l : List (κ × α)} (s : St W0 w (mapx K R b l :: L)) {t kt et : TypeId} (ht : P.underlying t = some (.map kt et)) [hk : KI P K kt] (k : κ) (x : α) (hx : ∀ m h, SepL m L h → (R.im x).r m) :
    ∃ w', (mapUpdate t (.map (some b)) (K k) (R.val x)).run P w = .ok () w' ∧ St W0 w' (mapx K R b (putX k x l) :: L) := by
  obtain ⟨es, clock, m, hb, h⟩ := s.mapx_
  refine ⟨_, update_x ht hb h, ?_⟩
  unfold putX
  cases hp : posX k l 0 with
  | none =>
    refine s.mapx_turn hb _ _ (fun m h hL ha => ?_) (fun g3 g4 => ?_)
    · rw [Array.toList_push]
      exact ha.append ⟨⟨rfl, rfl, hx m h hL⟩, trivial⟩
    · rw [Array.toList_push]
      refine ⟨List.pairwise_append.2 ⟨g3, List.pairwise_singleton _ _, fun a ha c hc => ?_⟩, fun e he => ?_⟩
      · simp only [List.mem_cons, List.not_mem_nil, or_false] at hc
        subst hc
        exact g4 a ha
      · rcases List.mem_append.1 he with he | he
        · exact Nat.lt_succ_of_lt (g4 e he)
        · simp only [List.mem_cons, List.not_mem_nil, or_false] at he
          subst he
          exact Nat.lt_succ_self _
  | some q =>
    have e : (es.modify q.1 fun e => { e with key := K k, val := R.val x }).toList = es.toList.modify q.1 fun e => { e with key := K k, val := R.val x } := by simp
    have hbn := born_modx (f := fun e : MapEntry => { e with key := K k, val := R.val x }) (fun _ => rfl) es.toList q.1
    refine s.mapx_turn hb _ _ (fun m h hL ha => ?_) (fun g3 g4 => ?_)
    · rw [e]
      exact ha.modX q.1 (fun e _ => ⟨rfl, rfl, hx m h hL⟩)
    · rw [e]
      have p1 : (es.toList.map MapEntry.born).Pairwise (· < ·) := List.pairwise_map.2 g3
      rw [← hbn] at p1
      refine ⟨List.pairwise_map.1 p1, fun y hy => ?_⟩
      have h1 : y.born ∈ (es.toList.modify q.1 fun e => { e with key := K k, val := R.val x }).map MapEntry.born := List.mem_map.2 ⟨y, hy, rfl⟩
      rw [hbn] at h1
      obtain ⟨z, hz, hzb⟩ := List.mem_map.1 h1
      rw [← hzb]
      exact g4 z hz
theorem St.mapx_del {κ α : Type} [DecidableEq κ] {K : κ → Value} {R : MEnc α} {b : Nat} {l : List (κ × α)} (s : St W0 w (mapx K R b l :: L)) {t kt et u ty : TypeId} (ht : P.underlying t = some (.map kt et)) [hk : KI P K kt] (k : κ) :
    ∃ w', (Builtin.delete_ #[t, u] ty #[.map (some b), K k]).run P w = .ok (.tuple #[]) w' ∧ St W0 w' (mapx K R b (delX k l) :: L) := by
  obtain ⟨es, clock, m, hb, h⟩ := s.mapx_
  refine ⟨_, delete_x ht hb h, ?_⟩
  unfold delX
  cases hp : posX k l 0 with
  | none => exact s.mapx_turn hb _ _ (fun m h hL ha => ha) (fun g3 g4 => ⟨g3, g4⟩)
  | some q =>
    have e : (es.eraseIdxIfInBounds q.1).toList = es.toList.eraseIdx q.1 := by simp
    refine s.mapx_turn hb _ _ (fun m h hL ha => ?_) (fun g3 g4 => ?_)
    · rw [e]; exact ha.eraseX _
    · rw [e]
      exact ⟨g3.sublist (List.eraseIdx_sublist _ _), fun x hx => g4 x (List.mem_of_mem_eraseIdx hx)⟩
/-! ### the operations, for the walk -/
variable {a : Act} {d : Option Tmp} {ty : TypeId} {pos : String} {aft : Array Edge} {gd : Option (Nat × Bool)} {S : List HP}
theorem sv_lookx1 {κ α : Type} [DecidableEq κ] {K : κ → Value} {R : MEnc α} {b : Nat} {l : List (κ × α)} {k : κ} {q : Nat × α} {t kt et : TypeId} {x y : Operand} {zv : Value} {sz by_ : Nat} [ut : UL P t (.map kt et)] [uk : KI P K kt] [ti : TI P et zv sz by_] (hm : mapx K R b l ∈ S) (hx : a.eval x = .map (some b)) (hy : a.eval y = K k) (hq : posX k l 0 = some q) :
    SV P W0 S ⟨d, .lookup t x y true, ty, pos, aft, gd⟩ a (.tuple #[R.val q.2, .bool true]) := ⟨fun w s => by
  obtain ⟨L0, hp⟩ := s.mem hm
  obtain ⟨es, clock, m, hb, h⟩ := (s.perm hp).mapx_
  unfold execOp
  simp [hx, hy, lookup_x (ok := true) ut.pf (zero_run (P := P) (t := et) w) hb h, hq]⟩
theorem sv_lookx0 {κ α : Type} [DecidableEq κ] {K : κ → Value} {R : MEnc α} {b : Nat} {l : List (κ × α)} {k : κ} {t kt et : TypeId} {x y : Operand} {zv : Value} {sz by_ : Nat} [ut : UL P t (.map kt et)] [uk : KI P K kt] [ti : TI P et zv sz by_] (hm : mapx K R b l ∈ S) (hx : a.eval x = .map (some b)) (hy : a.eval y = K k) (hq : posX k l 0 = none) :
    SV P W0 S ⟨d, .lookup t x y true, ty, pos, aft, gd⟩ a (.tuple #[zv, .bool false]) := ⟨fun w s => by
  obtain ⟨L0, hp⟩ := s.mem hm
  obtain ⟨es, clock, m, hb, h⟩ := (s.perm hp).mapx_
  unfold execOp
  simp [hx, hy, lookup_x (ok := true) ut.pf (zero_run (P := P) (t := et) w) hb h, hq]⟩
theorem dy_putx {κ α : Type} [DecidableEq κ] {K : κ → Value} {R : MEnc α} {b i : Nat} {l : List (κ × α)} {k : κ} (el : α) {t kt et : TypeId} {x y z : Operand} [ut : UL P t (.map kt et)] [uk : KI P K kt] (hm : L[i]? = some (mapx K R b l)) (hx : a.eval x = .map (some b)) (hy : a.eval y = K k) (hz : a.eval z = R.val el) {Le : List HP} (hLe : L.eraseIdx i = Le) (he : ∀ m h, SepL m Le h → (R.im el).r m) :
    DY P W0 L ⟨d, .mapUpdate t x y z, ty, pos, aft, gd⟩ a fun a' L' => a.put d undef = a' ∧ L' = L.set i (mapx K R b (putX k el l)) :=
  dy_skp fun w s => by
    have s1 := s.at_ hm
    obtain ⟨w', hr, hs⟩ := s1.mapx_put ut.pf k el (by rw [hLe]; exact he)
    refine ⟨w', _, ?_, ⟨rfl, rfl⟩, hs.back hm⟩
    unfold execOp
    simp [hx, hy, hz, hr]
theorem dy_delx {κ α : Type} [DecidableEq κ] {K : κ → Value} {R : MEnc α} {b i : Nat} {l : List (κ × α)} {k : κ} {t kt et u : TypeId} {x y : Operand} [ut : UL P t (.map kt et)] [uk : KI P K kt] (hm : L[i]? = some (mapx K R b l)) (hx : a.eval x = .map (some b)) (hy : a.eval y = K k) :
    DY P W0 L ⟨d, .call { callee := .builtin .delete, args := #[x, y], argTypes := #[t, u] }, ty, pos, aft, gd⟩ a fun a' L' => a.put d (.tuple #[]) = a' ∧ L' = L.set i (mapx K R b (delX k l)) :=
  dy_val fun w s => by
    obtain ⟨w', hr, hs⟩ := (s.at_ hm).mapx_del (u := u) (ty := ty) ut.pf k
    refine ⟨_, w', _, ?_, ⟨rfl, rfl⟩, hs.back hm⟩
    unfold execOp
    simp only [resolve, invoke, builtin, Sem.run_bind, Sem.run_pure, Result.andThen_ok, List.map_toArray, List.map_cons, List.map_nil, hx, hy, hr]
theorem dy_mkmapx {κ α : Type} [DecidableEq κ] (K : κ → Value) (R : MEnc α) {t : TypeId} : DY P W0 L ⟨d, .makeMap t none, ty, pos, aft, gd⟩ a fun a' L' => ∃ b, a.put d (.map (some b)) = a' ∧ L' = mapx K R b [] :: L :=
  dy_val fun w s => ⟨_, w.alloc (.map #[] 0), _, by unfold execOp; simp [Instr.makeMap, newObj, Sem.run], ⟨w.heap.size, rfl, rfl⟩, by
    refine (s.alloc (.map #[] 0)).imp fun m h hb => ⟨#[], 0, hb, trivial, List.Pairwise.nil, fun e he => by cases he⟩⟩
theorem mapx_imp {κ α : Type} [DecidableEq κ] {K : κ → Value} {R : MEnc α} {b : Nat} {l : List (κ × α)} {k : κ} {q : Nat × α} (hm : mapx K R b l ∈ L) (hq : posX k l 0 = some q) : Sub L (im (R.im q.2) :: L) := fun m h s => by
  obtain ⟨a, _, es, clock, _, ha, _⟩ := s.mem hm
  have hq2 : l[q.1]? = some (k, q.2) := by simpa using (posX_lt hq).2.2
  obtain ⟨e, _, he⟩ := ha.get hq2
  exact ⟨Hp.none, h, Hp.none_dj _, Hp.none_le _, Hp.le_refl _, he.2.2, s⟩
end
/-! ### keys that are pairs of integers -/
def kpr (p : Int × Int) : Value := .agg #[.int .i64 p.1, .int .i64 p.2]
section
variable {P : Program} {w : World} {kt et : TypeId} {zv : Value} {by_ : Nat}
theorem part_int (hu : P.underlying et = some (.int .i64)) {cs : Array Value} {o : Nat} {v : Value} (h : cs[o]? = some v) : (part et cs o).run P w = .ok v w := by
  unfold part
  simp [isAgg_run hu, aggD, h]
theorem eq_pr (hk : P.underlying kt = some (.array 2 et)) (hu : P.underlying et = some (.int .i64)) [ti : TI P et zv 1 by_] (p q : Int × Int) (w : World) : (Op.equal kt (kpr p) (kpr q)).run P w = .ok (decide (p = q)) w := by
  show (Op.equalIn 10000 kt (.agg #[.int .i64 p.1, .int .i64 p.2]) (.agg #[.int .i64 q.1, .int .i64 q.2])).run P w = _
  have he : ∀ (a b : Int) (w : World), (Op.equalIn 9999 et (.int .i64 a) (.int .i64 b)).run P w = .ok (a == b) w := fun a b w => run_equalIn_int w 9998 et .i64 .i64 a b hu
  have p0 : ∀ (a b : Int) (w : World), (part et #[.int .i64 a, .int .i64 b] 0).run P w = .ok (.int .i64 a) w := fun a b w => part_int hu rfl
  have p1 : ∀ (a b : Int) (w : World), (part et #[.int .i64 a, .int .i64 b] 1).run P w = .ok (.int .i64 b) w := fun a b w => part_int hu rfl
  unfold Op.equalIn
  simp only [Sem.run_bind, run_underlying hk, Result.andThen_ok, sizeOf_run (P := P) (t := et)]
  simp only [Std.Legacy.Range.forIn_eq_forIn_range', Std.Legacy.Range.size, Nat.sub_zero, Nat.add_one_sub_one, Nat.div_one, List.range', List.forIn_cons, List.forIn_nil, Sem.run_bind, Nat.zero_mul, Nat.mul_one, Nat.zero_add, p0, p1, Result.andThen_ok, he]
  obtain ⟨a1, a2⟩ := p
  obtain ⟨b1, b2⟩ := q
  by_cases h1 : a1 = b1
  · by_cases h2 : a2 = b2
    · simp [h1, h2, he, p1]
    · simp [h1, h2, he, p1]
  · simp [h1, he]
theorem findA_pr (hk : P.underlying kt = some (.array 2 et)) (hu : P.underlying et = some (.int .i64)) [ti : TI P et zv 1 by_] (k : Int × Int) (w : World) : ∀ {vs : List ((Int × Int) × Value)} {es : List MapEntry} {i : Nat}, All2 (fun p e => e.key = kpr p.1 ∧ e.val = p.2) vs es → (findAsking kt (kpr k) es i).run P w = .ok (posX k vs i) w
  | [], [], i, _ => by simp [findAsking, posX]
  | p :: vs, e :: es, i, ⟨⟨h1, h2⟩, t⟩ => by
    unfold findAsking posX
    simp only [Sem.run_bind, h1, eq_pr hk hu k p.1 w, Result.andThen_ok, h2]
    by_cases h : k = p.1
    · simp [h]
    · simp only [h, decide_false, Bool.false_eq_true, if_false]
      exact findA_pr hk hu k w t
  | [], _ :: _, _, h => h.elim
  | _ :: _, [], _, h => h.elim
instance [hk : UL P kt (.array 2 et)] [hu : UL P et (.int .i64)] [ti : TI P et zv 1 by_] : KI P kpr kt where
  chk em k w := by
    show (checkKey em 10000 kt (.agg #[.int .i64 k.1, .int .i64 k.2])).run P w = _
    have hi : ∀ (z : Int) (w : World), (checkKey em 9999 et (.int .i64 z)).run P w = .ok () w := fun z w => by
      unfold checkKey
      simp only [Sem.run_bind, run_underlying hu.pf, Result.andThen_ok]
      rfl
    have p0 : ∀ (a b : Int) (w : World), (part et #[.int .i64 a, .int .i64 b] 0).run P w = .ok (.int .i64 a) w := fun a b w => part_int hu.pf rfl
    have p1 : ∀ (a b : Int) (w : World), (part et #[.int .i64 a, .int .i64 b] 1).run P w = .ok (.int .i64 b) w := fun a b w => part_int hu.pf rfl
    unfold checkKey
    simp only [Sem.run_bind, run_underlying hk.pf, Result.andThen_ok]
    simp only [Std.Legacy.Range.forIn_eq_forIn_range', Std.Legacy.Range.size, Nat.sub_zero, Nat.add_one_sub_one, Nat.div_one, List.range', List.forIn_cons, List.forIn_nil, Sem.run_bind, sizeOf_run (P := P) (t := et), Nat.zero_mul, Nat.mul_one, Nat.zero_add, Result.andThen_ok, p0, p1, hi, Sem.run_pure]
  fnd k w vs es h := by
    unfold findKey
    simp only [Sem.run_bind, run_underlying hk.pf, Result.andThen_ok]
    have ha := findA_pr (P := P) hk.pf hu.pf k w (i := 0) h
    cases es with
    | nil => cases vs with
      | nil => rfl
      | cons => exact h.elim
    | cons e es => cases vs with
      | nil => exact h.elim
      | cons p vs =>
        have : findNow (.array 2 et) (kpr k) (e :: es) 0 = none := by
          unfold findNow
          rw [show sameNow (.array 2 et) (kpr k) e.key = none from by unfold sameNow; rfl]
        simp only [this]
        exact ha
  same k := by
    simp [kpr, sameBits]
end
end Go.Proofs.Ytlmabajgnjiigaa
namespace Go.Proofs.Ytlmabajgnjiigaa
open Go Go.RowKit Go.Instr
set_option linter.unusedVariables false
set_option linter.unusedSimpArgs false
section
variable {κ α : Type} [DecidableEq κ]
theorem posX_up {k : κ} : ∀ {l : List (κ × α)} {i : Nat}, posX k l (i + 1) = (posX k l i).map fun q => (q.1 + 1, q.2)
  | [], _ => rfl
  | p :: l, i => by
    unfold posX
    split
    · rfl
    · exact posX_up
/-- what a key gives -/
def gvX (k : κ) (l : List (κ × α)) : Option α := (posX k l 0).map Prod.snd
theorem gvX_nil {k : κ} : gvX k ([] : List (κ × α)) = none := rfl
theorem gvX_cons {k : κ} {p : κ × α} {l : List (κ × α)} : gvX k (p :: l) = if k = p.1 then some p.2 else gvX k l := by
  unfold gvX
  conv => lhs; unfold posX
  split
  · rfl
  · rw [posX_up, Option.map_map]
    rfl
theorem putX_cons {k : κ} {x : α} {p : κ × α} {l : List (κ × α)} : putX k x (p :: l) = if k = p.1 then (k, x) :: l else p :: putX k x l := by
  unfold putX
  conv => lhs; unfold posX
  by_cases h : k = p.1
  · simp [h]
  · rw [if_neg h, if_neg h, posX_up]
    cases hp : posX k l 0 with
    | none => rfl
    | some q => rfl
theorem delX_cons {k : κ} {p : κ × α} {l : List (κ × α)} : delX k (p :: l) = if k = p.1 then l else p :: delX k l := by
  unfold delX
  conv => lhs; unfold posX
  by_cases h : k = p.1
  · simp [h]
  · rw [if_neg h, if_neg h, posX_up]
    cases hp : posX k l 0 with
    | none => rfl
    | some q => rfl
theorem gvX_put {k k' : κ} {x : α} : ∀ {l : List (κ × α)}, gvX k (putX k' x l) = if k = k' then some x else gvX k l
  | [] => by
    show gvX k [(k', x)] = _
    rw [gvX_cons]
  | p :: l => by
    rw [putX_cons]
    by_cases h : k' = p.1
    · rw [if_pos h, gvX_cons, gvX_cons]
      dsimp only
      by_cases h2 : k = k'
      · rw [if_pos h2, if_pos h2]
      · rw [if_neg h2, if_neg h2, if_neg (by rw [← h]; exact h2)]
    · rw [if_neg h, gvX_cons, gvX_cons, gvX_put (l := l)]
      by_cases h2 : k = p.1
      · rw [if_pos h2, if_pos h2, if_neg (by rw [h2]; exact fun e => h e.symm)]
      · rw [if_neg h2, if_neg h2]
theorem gvX_mem {k : κ} {x : α} : ∀ {l : List (κ × α)}, gvX k l = some x → (k, x) ∈ l
  | [], h => by cases h
  | p :: l, h => by
    rw [gvX_cons] at h
    split at h
    · rename_i e
      injection h with h
      subst e h
      exact .head _
    · exact .tail _ (gvX_mem h)
theorem gvX_none {k : κ} : ∀ {l : List (κ × α)}, k ∉ l.map Prod.fst → gvX k l = none
  | [], _ => rfl
  | p :: l, h => by
    rw [List.map_cons, List.mem_cons, not_or] at h
    rw [gvX_cons, if_neg h.1]
    exact gvX_none h.2
theorem putX_keys {k : κ} {x : α} : ∀ {l : List (κ × α)}, (putX k x l).map Prod.fst = if k ∈ l.map Prod.fst then l.map Prod.fst else l.map Prod.fst ++ [k]
  | [] => rfl
  | p :: l => by
    rw [putX_cons]
    by_cases h : k = p.1
    · rw [if_pos h, List.map_cons, List.map_cons, if_pos (by rw [h]; exact .head _)]
      dsimp only
      rw [h]
    · rw [if_neg h, List.map_cons, List.map_cons, putX_keys (l := l)]
      by_cases h2 : k ∈ l.map Prod.fst
      · rw [if_pos h2, if_pos (.tail _ h2)]
      · rw [if_neg h2, if_neg (fun e => by rcases List.mem_cons.1 e with e | e; exact h e; exact h2 e)]
        rfl
theorem putX_nodup {k : κ} {x : α} {l : List (κ × α)} (h : (l.map Prod.fst).Nodup) : ((putX k x l).map Prod.fst).Nodup := by
  rw [putX_keys]
  split
  · exact h
  · rename_i hn
    refine List.nodup_append.2 ⟨h, by simp, fun a ha b hb => ?_⟩
    simp only [List.mem_cons, List.not_mem_nil, or_false] at hb
    subst hb
    exact fun e => hn (e ▸ ha)
theorem gvX_del {k k' : κ} : ∀ {l : List (κ × α)}, (l.map Prod.fst).Nodup → gvX k (delX k' l) = if k = k' then none else gvX k l
  | [], _ => by
    show gvX k [] = _
    rw [gvX_nil]
    split <;> rfl
  | p :: l, hn => by
    rw [List.map_cons, List.nodup_cons] at hn
    rw [delX_cons]
    by_cases h : k' = p.1
    · rw [if_pos h, gvX_cons]
      by_cases h2 : k = k'
      · rw [if_pos h2]
        exact gvX_none (by rw [h2, h]; exact hn.1)
      · rw [if_neg h2, if_neg (by rw [← h]; exact h2)]
    · rw [if_neg h, gvX_cons, gvX_cons, gvX_del hn.2]
      by_cases h2 : k = p.1
      · rw [if_pos h2, if_pos h2, if_neg (by rw [h2]; exact fun e => h e.symm)]
      · rw [if_neg h2, if_neg h2]
theorem delX_nodup {k : κ} : ∀ {l : List (κ × α)}, (l.map Prod.fst).Nodup → ((delX k l).map Prod.fst).Nodup
  | [], h => h
  | p :: l, hn => by
    rw [List.map_cons, List.nodup_cons] at hn
    rw [delX_cons]
    split
    · exact hn.2
    · rw [List.map_cons, List.nodup_cons]
      refine ⟨fun h => hn.1 ?_, delX_nodup hn.2⟩
      obtain ⟨q, hq, e⟩ := List.mem_map.1 h
      refine List.mem_map.2 ⟨q, ?_, e⟩
      have : ∀ {l : List (κ × α)}, q ∈ delX k l → q ∈ l := by
        intro l
        induction l with
        | nil => exact fun h => h
        | cons r l ih =>
          intro h
          rw [delX_cons] at h
          split at h
          · exact .tail _ h
          · rcases List.mem_cons.1 h with rfl | h
            · exact .head _
            · exact .tail _ (ih h)
      exact this hq
end
section
variable {P : Program} {W0 w : World} {L S : List HP} {a : Act} {d : Option Tmp} {ty : TypeId} {pos : String} {aft : Array Edge} {gd : Option (Nat × Bool)}
/-- looking, with the word whether it is there -/
theorem sv_lookP {κ α : Type} [DecidableEq κ] {K : κ → Value} {R : MEnc α} {b : Nat} {l : List (κ × α)} {k : κ} {q : Option α} {t kt et : TypeId} {x y : Operand} {zv : Value} {sz by_ : Nat} [ut : UL P t (.map kt et)] [uk : KI P K kt] [ti : TI P et zv sz by_] (hm : mapx K R b l ∈ S) (hx : a.eval x = .map (some b)) (hy : a.eval y = K k) (hq : gvX k l = q) :
    SV P W0 S ⟨d, .lookup t x y true, ty, pos, aft, gd⟩ a (.tuple #[(q.map R.val).getD zv, .bool q.isSome]) := ⟨fun w s => by
  obtain ⟨L0, hp⟩ := s.mem hm
  obtain ⟨es, clock, m, hb, h⟩ := (s.perm hp).mapx_
  subst hq
  unfold execOp gvX
  simp [hx, hy, lookup_x (ok := true) ut.pf (zero_run (P := P) (t := et) w) hb h, Option.map_map]
  rfl⟩
/-- looking -/
theorem sv_lookN {κ α : Type} [DecidableEq κ] {K : κ → Value} {R : MEnc α} {b : Nat} {l : List (κ × α)} {k : κ} {q : Option α} {t kt et : TypeId} {x y : Operand} {zv : Value} {sz by_ : Nat} [ut : UL P t (.map kt et)] [uk : KI P K kt] [ti : TI P et zv sz by_] (hm : mapx K R b l ∈ S) (hx : a.eval x = .map (some b)) (hy : a.eval y = K k) (hq : gvX k l = q) :
    SV P W0 S ⟨d, .lookup t x y false, ty, pos, aft, gd⟩ a ((q.map R.val).getD zv) := ⟨fun w s => by
  obtain ⟨L0, hp⟩ := s.mem hm
  obtain ⟨es, clock, m, hb, h⟩ := (s.perm hp).mapx_
  subst hq
  unfold execOp gvX
  simp [hx, hy, lookup_x (ok := false) ut.pf (zero_run (P := P) (t := et) w) hb h, Option.map_map]
  rfl⟩
end
/-! ### keys that are integers -/
def kin (z : Int) : Value := .int .i64 z
instance {P : Program} {kt : TypeId} [hk : UL P kt (.int .i64)] : KI P kin kt where
  chk em k w := checkKey_l hk.pf
  fnd k w vs es h := by
    unfold findKey
    simp only [Sem.run_bind, run_underlying hk.pf, Result.andThen_ok]
    have hf : ∀ {vs : List (Int × Value)} {es : List MapEntry} {i : Nat}, All2 (fun p e => e.key = kin p.1 ∧ e.val = p.2) vs es → findNow (.int .i64) (kin k) es i = some (posX k vs i) := by
      intro vs
      induction vs with
      | nil => intro es i h; cases es with
        | nil => rfl
        | cons => exact h.elim
      | cons p vs ih => intro es i h; cases es with
        | nil => exact h.elim
        | cons e es =>
          unfold findNow posX
          rw [h.1.1]
          by_cases hk : k = p.1
          · simp [kin, sameNow, hk, h.1.2]
          · have : (k == p.1) = false := by simpa using hk
            have ih' := ih (es := es) (i := i + 1) h.2
            unfold kin at ih'
            simp [kin, sameNow, this, hk, ih']
    rw [hf h]
    rfl
  same k := same_key
end Go.Proofs.Ytlmabajgnjiigaa
