/-
  Maps with integer keys: an assertion, and what the operations do. No program.
-/
import Derived.Maps.RangeRun
import Derived.Lib.Hide
import Derived.Test.YtbjaecofccpahaaMJ
namespace Go.Proofs.Ytbjaecofccpahaa
open Go Go.RowKit Go.Instr
set_option linter.unusedVariables false
set_option linter.unusedSimpArgs false
/-- elements of a map: the value, and what holds of it for good -/
structure MEnc (α : Type) where
  val : α → Value
  im : α → Im
def entM {α : Type} (R : MEnc α) (m : Hp) (p : Int × α) (e : MapEntry) : Prop := e.key = .int .i64 p.1 ∧ e.val = R.val p.2 ∧ (R.im p.2).r m
theorem entM.mono {α : Type} {R : MEnc α} {m m' : Hp} (hm : m.le m') {p : Int × α} {e : MapEntry} (h : entM R m p e) : entM R m' p e := ⟨h.1, h.2.1, (R.im p.2).mono hm h.2.2⟩
/-- block b is a map that holds l -/
def mapo {α : Type} (R : MEnc α) (b : Nat) (l : List (Int × α)) : HP :=
  ⟨fun m h => ∃ es clock, h b = some (.map es clock) ∧ All2 (entM R m) l es.toList ∧ es.toList.Pairwise (fun x y => x.born < y.born) ∧ ∀ e ∈ es.toList, e.born < clock,
   fun hm ⟨es, clock, h1, h2, h3, h4⟩ => ⟨es, clock, h1, h2.imp fun _ _ => entM.mono hm, h3, h4⟩⟩
def posM {α : Type} (k : Int) : List (Int × α) → Nat → Option (Nat × α)
  | [], _ => none
  | p :: l, i => if k = p.1 then some (i, p.2) else posM k l (i + 1)
theorem findNow_l {α : Type} {R : MEnc α} {m : Hp} {k : Int} : ∀ {l : List (Int × α)} {es : List MapEntry} {i : Nat}, All2 (entM R m) l es → findNow (.int .i64) (.int .i64 k) es i = some ((posM k l i).map fun q => (q.1, R.val q.2))
  | [], [], i, _ => rfl
  | p :: l, e :: es, i, ⟨h, t⟩ => by
    have ih := findNow_l (k := k) (i := i + 1) t
    unfold findNow posM
    rw [h.1]
    by_cases hk : k = p.1
    · subst hk
      simp [sameNow, h.2.1]
    · have : (k == p.1) = false := by simpa using hk
      simp [sameNow, this, hk, ih]
  | [], _ :: _, _, h => h.elim
  | _ :: _, [], _, h => h.elim
section
variable {P : Program} {w : World}
theorem findKey_l {α : Type} {R : MEnc α} {m : Hp} {k : Int} {l : List (Int × α)} {es : List MapEntry} {kt : TypeId} (hk : P.underlying kt = some (.int .i64)) (h : All2 (entM R m) l es) : (findKey kt (.int .i64 k) es).run P w = .ok ((posM k l 0).map fun q => (q.1, R.val q.2)) w := by
  unfold findKey
  simp only [Sem.run_bind, run_underlying hk, Result.andThen_ok, findNow_l h]
  rfl
theorem checkKey_l {em : Bool} {k : Int} {kt : TypeId} (hk : P.underlying kt = some (.int .i64)) : (checkKey em 10000 kt (.int .i64 k)).run P w = .ok () w := by
  unfold checkKey
  simp only [Sem.run_bind, run_underlying hk, Result.andThen_ok]
  rfl
theorem lookup_l {α : Type} {R : MEnc α} {m : Hp} {k : Int} {l : List (Int × α)} {es : Array MapEntry} {clock : Nat} {t kt et : TypeId} {z : Value} {b : Nat} {ok : Bool} (ht : P.underlying t = some (.map kt et)) (hk : P.underlying kt = some (.int .i64)) (hz : (zeroValue et).run P w = .ok z w)
    (hb : w.heap[b]? = some (.map es clock)) (h : All2 (entM R m) l es.toList) :
    (lookup t (.map (some b)) (.int .i64 k) ok).run P w = .ok (if ok then .tuple #[((posM k l 0).map fun q => R.val q.2).getD z, .bool (posM k l 0).isSome] else ((posM k l 0).map fun q => R.val q.2).getD z) w := by
  unfold lookup
  simp only [Sem.run_bind, run_underlying ht, Result.andThen_ok, MapKept.run_getObj_map hb, Sem.run_pure, checkKey_l hk, findKey_l hk h]
  cases hp : posM k l 0 with
  | none => simp [hz]
  | some q => simp
/-- what putting does to the list -/
def putM {α : Type} (k : Int) (x : α) (l : List (Int × α)) : List (Int × α) := match posM k l 0 with
  | some q => l.set q.1 (k, x)
  | none => l ++ [(k, x)]
def delM {α : Type} (k : Int) (l : List (Int × α)) : List (Int × α) := match posM k l 0 with
  | some q => l.eraseIdx q.1
  | none => l
theorem posM_lt {α : Type} {k : Int} : ∀ {l : List (Int × α)} {i : Nat} {q : Nat × α}, posM k l i = some q → i ≤ q.1 ∧ q.1 < i + l.length ∧ l[q.1 - i]? = some (k, q.2)
  | [], _, _, h => by cases h
  | p :: l, i, q, h => by
    unfold posM at h
    split at h
    · rename_i hk
      injection h with h
      subst h
      refine ⟨Nat.le_refl _, by simp, ?_⟩
      rw [Nat.sub_self, hk]
      rfl
    · have ih := posM_lt h
      refine ⟨by omega, by simp only [List.length_cons]; omega, ?_⟩
      have e : q.1 - i = (q.1 - (i + 1)) + 1 := by omega
      rw [e, List.getElem?_cons_succ]
      exact ih.2.2
theorem same_key {k : Int} : sameBits 10000 (.int .i64 k) (.int .i64 k) = true := by
  simp [sameBits]
theorem update_l {α : Type} {R : MEnc α} {m : Hp} {k : Int} {l : List (Int × α)} {es : Array MapEntry} {clock : Nat} {t kt et : TypeId} {b : Nat} {v : Value} (ht : P.underlying t = some (.map kt et)) (hk : P.underlying kt = some (.int .i64))
    (hb : w.heap[b]? = some (.map es clock)) (h : All2 (entM R m) l es.toList) :
    (mapUpdate t (.map (some b)) (.int .i64 k) v).run P w = .ok () { w with heap := w.heap.setIfInBounds b (match posM k l 0 with
      | some q => .map (es.modify q.1 fun e => { e with key := .int .i64 k, val := v }) clock
      | none => .map (es.push { key := .int .i64 k, val := v, born := clock }) (clock + 1)) } := by
  unfold mapUpdate
  simp only [Sem.run_bind, run_underlying ht, Result.andThen_ok, MapKept.run_getObj_map hb, Sem.run_pure, checkKey_l hk, findKey_l hk h]
  cases hp : posM k l 0 with
  | none => simp only [Option.map_none]; exact MapKept.run_setObj_map _ hb
  | some q =>
    have hq := posM_lt hp
    have hq2 : l[q.1]? = some (k, q.2) := by simpa using hq.2.2
    obtain ⟨e, he, hke, _⟩ := h.get hq2
    have he' : es[q.1]? = some e := by simpa using he
    simp only [Option.map_some, he', Option.getD_some, hke, keyThatStays, same_key, if_true, Sem.run_pure, Sem.run_bind, Result.andThen_ok]
    exact MapKept.run_setObj_map _ hb
theorem delete_l {α : Type} {R : MEnc α} {m : Hp} {k : Int} {l : List (Int × α)} {es : Array MapEntry} {clock : Nat} {t kt et u ty : TypeId} {b : Nat} (ht : P.underlying t = some (.map kt et)) (hk : P.underlying kt = some (.int .i64))
    (hb : w.heap[b]? = some (.map es clock)) (h : All2 (entM R m) l es.toList) :
    (Builtin.delete_ #[t, u] ty #[.map (some b), .int .i64 k]).run P w = .ok (.tuple #[]) { w with heap := w.heap.setIfInBounds b (match posM k l 0 with
      | some q => .map (es.eraseIdxIfInBounds q.1) clock
      | none => .map es clock) } := by
  unfold Builtin.delete_
  simp only [List.getElem?_toArray, List.getElem?_cons_zero, List.getElem?_cons_succ, Sem.run_bind, run_underlying ht, Result.andThen_ok, MapKept.run_getObj_map hb, Sem.run_pure, checkKey_l hk, findKey_l hk h]
  cases hp : posM k l 0 with
  | none => simp only [Option.map_none]; rw [Sem.run_bind, MapKept.run_setObj_map _ hb]; rfl
  | some q => simp only [Option.map_some]; rw [Sem.run_bind, MapKept.run_setObj_map _ hb]; rfl
end
section
variable {P : Program} {W0 w : World} {L : List HP}
theorem All2.eraseM {α β : Type} {R : α → β → Prop} : ∀ {l : List α} {k : List β} (n : Nat), All2 R l k → All2 R (l.eraseIdx n) (k.eraseIdx n)
  | [], [], _, _ => trivial
  | _ :: _, _ :: _, 0, ⟨_, t⟩ => t
  | _ :: _, _ :: _, n + 1, ⟨h, t⟩ => ⟨h, All2.eraseM n t⟩
  | [], _ :: _, _, h => h.elim
  | _ :: _, [], _, h => h.elim
theorem All2.modM {α β : Type} {R : α → β → Prop} {x : α} {f : β → β} : ∀ {l : List α} {k : List β} (n : Nat), All2 R l k → (∀ e, k[n]? = some e → R x (f e)) → All2 R (l.set n x) (k.modify n f)
  | [], [], n, _, _ => by cases n <;> exact trivial
  | _ :: _, _ :: _, 0, ⟨_, t⟩, h => ⟨h _ rfl, t⟩
  | _ :: _, _ :: _, n + 1, ⟨g, t⟩, h => ⟨g, All2.modM n t fun e he => h e (by simpa using he)⟩
  | [], _ :: _, _, h, _ => h.elim
  | _ :: _, [], _, h, _ => h.elim
theorem born_mod {f : MapEntry → MapEntry} (hf : ∀ e, (f e).born = e.born) : ∀ (es : List MapEntry) (n : Nat), (es.modify n f).map MapEntry.born = es.map MapEntry.born
  | [], n => by cases n <;> rfl
  | e :: es, 0 => by show (f e :: es).map _ = _; rw [List.map_cons, List.map_cons, hf]
  | e :: es, n + 1 => by show (e :: es.modify n f).map _ = _; rw [List.map_cons, List.map_cons, born_mod hf es n]
theorem St.map_ {α : Type} {R : MEnc α} {b : Nat} {l : List (Int × α)} (s : St W0 w (mapo R b l :: L)) :
    ∃ es clock m, w.heap[b]? = some (.map es clock) ∧ All2 (entM R m) l es.toList := by
  obtain ⟨m, a, _, ⟨es, clock, h1, h2, _⟩, _, _, ha, _⟩ := s.lay
  exact ⟨es, clock, m, ha _ _ h1, h2⟩
theorem St.map_turn {α : Type} {R : MEnc α} {b : Nat} {l l' : List (Int × α)} (s : St W0 w (mapo R b l :: L)) {es : Array MapEntry} {clock : Nat} (hb : w.heap[b]? = some (.map es clock)) (es' : Array MapEntry) (clock' : Nat)
    (h1 : ∀ m h, SepL m L h → All2 (entM R m) l es.toList → All2 (entM R m) l' es'.toList)
    (h2 : es.toList.Pairwise (fun x y => x.born < y.born) → (∀ e ∈ es.toList, e.born < clock) → es'.toList.Pairwise (fun x y => x.born < y.born) ∧ ∀ e ∈ es'.toList, e.born < clock') :
    St W0 { w with heap := w.heap.setIfInBounds b (.map es' clock') } (mapo R b l' :: L) := by
  obtain ⟨m, a, c, ⟨es0, clock0, g1, g2, g3, g4⟩, hL, hm, ha, hc, d, g⟩ := s.lay
  have e0 := ha _ _ g1
  have e1 : w.heap[b]? = some (.map es0 clock0) := e0
  rw [hb] at e1
  injection e1 with e1
  injection e1 with e1 e2
  subst e1 e2
  obtain ⟨k1, k2⟩ := h2 g3 g4
  have hlt : b < w.heap.size := (Array.getElem?_eq_some_iff.1 hb).1
  refine g (a' := fun k => if k = b then some (.map es' clock') else a k) rfl rfl rfl (by simp) ⟨es', clock', by simp, h1 m c hL g2, k1, k2⟩ ?_ ?_ hL
  · intro k o e
    show ({ w with heap := w.heap.setIfInBounds b (.map es' clock') } : World).heap[k]? = some o
    dsimp only at e ⊢
    by_cases hk : k = b
    · subst hk
      rw [if_pos rfl] at e
      rw [Array.getElem?_setIfInBounds_self_of_lt hlt]
      exact e
    · rw [if_neg hk] at e
      rw [Array.getElem?_setIfInBounds_ne (fun h => hk h.symm)]
      exact ha _ _ e
  · intro k hk hn
    have hne : k ≠ b := by
      intro e
      subst e
      rw [hn] at g1
      cases g1
    exact ⟨Array.getElem?_setIfInBounds_ne (fun h => hne h.symm), by rw [if_neg hne]; exact hn⟩
theorem St.map_put {α : Type} {R : MEnc α} {b : Nat} {l : List (Int × α)} (s : St W0 w (mapo R b l :: L)) {t kt et : TypeId} (ht : P.underlying t = some (.map kt et)) (hk : P.underlying kt = some (.int .i64)) (k : Int) (x : α) (hx : ∀ m h, SepL m L h → (R.im x).r m) :
    ∃ w', (mapUpdate t (.map (some b)) (.int .i64 k) (R.val x)).run P w = .ok () w' ∧ St W0 w' (mapo R b (putM k x l) :: L) := by
  obtain ⟨es, clock, m, hb, h⟩ := s.map_
  refine ⟨_, update_l ht hk hb h, ?_⟩
  unfold putM
  cases hp : posM k l 0 with
  | none =>
    refine s.map_turn hb _ _ (fun m h hL ha => ?_) (fun g3 g4 => ?_)
    · rw [Array.toList_push]
      exact ha.append ⟨⟨rfl, rfl, hx m h hL⟩, trivial⟩
    · rw [Array.toList_push]
      refine ⟨List.pairwise_append.2 ⟨g3, List.pairwise_singleton _ _, fun a ha c hc => ?_⟩, fun e he => ?_⟩
      · simp only [List.mem_cons, List.not_mem_nil, or_false] at hc
        subst hc
        exact g4 a ha
      · rcases List.mem_append.1 he with he | he
        · exact Nat.lt_succ_of_lt (g4 e he)
        · simp only [List.mem_cons, List.not_mem_nil, or_false] at he
          subst he
          exact Nat.lt_succ_self _
  | some q =>
    have e : (es.modify q.1 fun e => { e with key := .int .i64 k, val := R.val x }).toList = es.toList.modify q.1 fun e => { e with key := .int .i64 k, val := R.val x } := by simp
    have hbn := born_mod (f := fun e : MapEntry => { e with key := .int .i64 k, val := R.val x }) (fun _ => rfl) es.toList q.1
    refine s.map_turn hb _ _ (fun m h hL ha => ?_) (fun g3 g4 => ?_)
    · rw [e]
      exact ha.modM q.1 (fun e _ => ⟨rfl, rfl, hx m h hL⟩)
    · rw [e]
      have p1 : (es.toList.map MapEntry.born).Pairwise (· < ·) := List.pairwise_map.2 g3
      rw [← hbn] at p1
      refine ⟨List.pairwise_map.1 p1, fun y hy => ?_⟩
      have h1 : y.born ∈ (es.toList.modify q.1 fun e => { e with key := .int .i64 k, val := R.val x }).map MapEntry.born := List.mem_map.2 ⟨y, hy, rfl⟩
      rw [hbn] at h1
      obtain ⟨z, hz, hzb⟩ := List.mem_map.1 h1
      rw [← hzb]
      exact g4 z hz
theorem St.map_del {α : Type} {R : MEnc α} {b : Nat} {l : List (Int × α)} (s : St W0 w (mapo R b l :: L)) {t kt et u ty : TypeId} (ht : P.underlying t = some (.map kt et)) (hk : P.underlying kt = some (.int .i64)) (k : Int) :
    ∃ w', (Builtin.delete_ #[t, u] ty #[.map (some b), .int .i64 k]).run P w = .ok (.tuple #[]) w' ∧ St W0 w' (mapo R b (delM k l) :: L) := by
  obtain ⟨es, clock, m, hb, h⟩ := s.map_
  refine ⟨_, delete_l ht hk hb h, ?_⟩
  unfold delM
  cases hp : posM k l 0 with
  | none => exact s.map_turn hb _ _ (fun m h hL ha => ha) (fun g3 g4 => ⟨g3, g4⟩)
  | some q =>
    have e : (es.eraseIdxIfInBounds q.1).toList = es.toList.eraseIdx q.1 := by simp
    refine s.map_turn hb _ _ (fun m h hL ha => ?_) (fun g3 g4 => ?_)
    · rw [e]; exact ha.eraseM _
    · rw [e]
      exact ⟨g3.sublist (List.eraseIdx_sublist _ _), fun x hx => g4 x (List.mem_of_mem_eraseIdx hx)⟩
/-! ### the operations, for the walk -/
variable {a : Act} {d : Option Tmp} {ty : TypeId} {pos : String} {aft : Array Edge} {gd : Option (Nat × Bool)} {S : List HP}
theorem sv_look1 {α : Type} {R : MEnc α} {b : Nat} {l : List (Int × α)} {k : Int} {q : Nat × α} {t kt et : TypeId} {x y : Operand} {zv : Value} {sz by_ : Nat} [ut : UL P t (.map kt et)] [uk : UL P kt (.int .i64)] [ti : TI P et zv sz by_] (hm : mapo R b l ∈ S) (hx : a.eval x = .map (some b)) (hy : a.eval y = .int .i64 k) (hq : posM k l 0 = some q) :
    SV P W0 S ⟨d, .lookup t x y true, ty, pos, aft, gd⟩ a (.tuple #[R.val q.2, .bool true]) := ⟨fun w s => by
  obtain ⟨L0, hp⟩ := s.mem hm
  obtain ⟨es, clock, m, hb, h⟩ := (s.perm hp).map_
  unfold execOp
  simp [hx, hy, lookup_l (ok := true) ut.pf uk.pf (zero_run (P := P) (t := et) w) hb h, hq]⟩
theorem sv_look0 {α : Type} {R : MEnc α} {b : Nat} {l : List (Int × α)} {k : Int} {t kt et : TypeId} {x y : Operand} {zv : Value} {sz by_ : Nat} [ut : UL P t (.map kt et)] [uk : UL P kt (.int .i64)] [ti : TI P et zv sz by_] (hm : mapo R b l ∈ S) (hx : a.eval x = .map (some b)) (hy : a.eval y = .int .i64 k) (hq : posM k l 0 = none) :
    SV P W0 S ⟨d, .lookup t x y true, ty, pos, aft, gd⟩ a (.tuple #[zv, .bool false]) := ⟨fun w s => by
  obtain ⟨L0, hp⟩ := s.mem hm
  obtain ⟨es, clock, m, hb, h⟩ := (s.perm hp).map_
  unfold execOp
  simp [hx, hy, lookup_l (ok := true) ut.pf uk.pf (zero_run (P := P) (t := et) w) hb h, hq]⟩
theorem dy_put {α : Type} {R : MEnc α} {b i : Nat} {l : List (Int × α)} {k : Int} (el : α) {t kt et : TypeId} {x y z : Operand} [ut : UL P t (.map kt et)] [uk : UL P kt (.int .i64)] (hm : L[i]? = some (mapo R b l)) (hx : a.eval x = .map (some b)) (hy : a.eval y = .int .i64 k) (hz : a.eval z = R.val el) {Le : List HP} (hLe : L.eraseIdx i = Le) (he : ∀ m h, SepL m Le h → (R.im el).r m) :
    DY P W0 L ⟨d, .mapUpdate t x y z, ty, pos, aft, gd⟩ a fun a' L' => a.put d undef = a' ∧ L' = L.set i (mapo R b (putM k el l)) :=
  dy_skp fun w s => by
    have s1 := s.at_ hm
    obtain ⟨w', hr, hs⟩ := s1.map_put ut.pf uk.pf k el (by rw [hLe]; exact he)
    refine ⟨w', _, ?_, ⟨rfl, rfl⟩, hs.back hm⟩
    unfold execOp
    simp [hx, hy, hz, hr]
theorem dy_del {α : Type} {R : MEnc α} {b i : Nat} {l : List (Int × α)} {k : Int} {t kt et u : TypeId} {x y : Operand} [ut : UL P t (.map kt et)] [uk : UL P kt (.int .i64)] (hm : L[i]? = some (mapo R b l)) (hx : a.eval x = .map (some b)) (hy : a.eval y = .int .i64 k) :
    DY P W0 L ⟨d, .call { callee := .builtin .delete, args := #[x, y], argTypes := #[t, u] }, ty, pos, aft, gd⟩ a fun a' L' => a.put d (.tuple #[]) = a' ∧ L' = L.set i (mapo R b (delM k l)) :=
  dy_val fun w s => by
    obtain ⟨w', hr, hs⟩ := (s.at_ hm).map_del (u := u) (ty := ty) ut.pf uk.pf k
    refine ⟨_, w', _, ?_, ⟨rfl, rfl⟩, hs.back hm⟩
    unfold execOp
    simp only [resolve, invoke, builtin, Sem.run_bind, Sem.run_pure, Result.andThen_ok, List.map_toArray, List.map_cons, List.map_nil, hx, hy, hr]
theorem dy_mkmap {α : Type} (R : MEnc α) {t : TypeId} : DY P W0 L ⟨d, .makeMap t none, ty, pos, aft, gd⟩ a fun a' L' => ∃ b, a.put d (.map (some b)) = a' ∧ L' = mapo R b [] :: L :=
  dy_val fun w s => ⟨_, w.alloc (.map #[] 0), _, by unfold execOp; simp [Instr.makeMap, newObj, Sem.run], ⟨w.heap.size, rfl, rfl⟩, by
    refine (s.alloc (.map #[] 0)).imp fun m h hb => ⟨#[], 0, hb, trivial, List.Pairwise.nil, fun e he => by cases he⟩⟩
theorem mapo_imp {α : Type} {R : MEnc α} {b : Nat} {l : List (Int × α)} {k : Int} {q : Nat × α} (hm : mapo R b l ∈ L) (hq : posM k l 0 = some q) : Sub L (im (R.im q.2) :: L) := fun m h s => by
  obtain ⟨a, _, es, clock, _, ha, _⟩ := s.mem hm
  have hq2 : l[q.1]? = some (k, q.2) := by simpa using (posM_lt hq).2.2
  obtain ⟨e, _, he⟩ := ha.get hq2
  exact ⟨Hp.none, h, Hp.none_dj _, Hp.none_le _, Hp.le_refl _, he.2.2, s⟩
end
end Go.Proofs.Ytbjaecofccpahaa
namespace Go.Proofs.Ytbjaecofccpahaa
open Go Go.RowKit Go.Instr
set_option linter.unusedVariables false
set_option linter.unusedSimpArgs false
/-- block r is an iterator over the map in block b -/
def ito (r b : Nat) : HP := ⟨fun _ h => ∃ since seen c0, h r = some (.mapIter (some b) since seen c0) ∧ since ≤ c0, fun _ h => h⟩
section
variable {P : Program} {W0 w : World} {L S : List HP} {a : Act} {d : Option Tmp} {ty : TypeId} {pos : String} {aft : Array Edge} {gd : Option (Nat × Bool)}
theorem dy_range {α : Type} {R : MEnc α} {b : Nat} {l : List (Int × α)} {t kt et : TypeId} {x : Operand} [ut : UL P t (.map kt et)] (hm : mapo R b l ∈ L) (hx : a.eval x = .map (some b)) :
    DY P W0 L ⟨d, .range t x, ty, pos, aft, gd⟩ a fun a' L' => ∃ r, a.put d (.pointer (some ⟨r, 0, none⟩)) = a' ∧ L' = ito r b :: L :=
  dy_val fun w s => by
    obtain ⟨L0, hp⟩ := s.mem hm
    obtain ⟨es, clock, m, hb, h⟩ := (s.perm hp).map_
    refine ⟨_, w.alloc (.mapIter (some b) clock #[] clock), _, ?_, ⟨w.heap.size, rfl, rfl⟩, (s.alloc (.mapIter (some b) clock #[] clock)).imp fun m h hb => ⟨clock, #[], clock, hb, Nat.le_refl _⟩⟩
    unfold execOp
    simp [hx, run_range_map w t kt et b es clock ut.pf hb]
theorem St.ito_ {r b : Nat} (s : St W0 w (ito r b :: L)) : ∃ since seen c0, w.heap[r]? = some (.mapIter (some b) since seen c0) ∧ since ≤ c0 := by
  obtain ⟨m, a, _, ⟨since, seen, c0, h1, h2⟩, _, _, ha, _⟩ := s.lay
  exact ⟨since, seen, c0, ha _ _ h1, h2⟩
theorem sv_next0 {α : Type} {R : MEnc α} {r b : Nat} {x : Operand} (hi : ito r b ∈ S) (hm : mapo R b ([] : List (Int × α)) ∈ S) (hx : a.eval x = .pointer (some ⟨r, 0, none⟩)) :
    SV P W0 S ⟨d, .next x false, ty, pos, aft, gd⟩ a (.tuple #[.bool false]) := ⟨fun w s => by
  obtain ⟨L0, hp⟩ := s.mem hm
  obtain ⟨es, clock, m, hb, h⟩ := (s.perm hp).map_
  obtain ⟨L1, hp1⟩ := s.mem hi
  obtain ⟨since, seen, c0, hr, hsc⟩ := (s.perm hp1).ito_
  have he : es = #[] := by
    obtain ⟨l⟩ := es
    cases l with
    | nil => rfl
    | cons _ _ => exact h.elim
  subst he
  rcases run_next_at (P := P) w ty r b since c0 seen #[] clock hr hb (fun x hx => by cases hx) hsc with ⟨_, hrun⟩ | ⟨e, he, _⟩
  · unfold execOp
    simp [hx, hrun]
  · simp [leftOf] at he⟩
theorem sub_spnil : Sub L (sp [] :: L) := sub_close (Ls := [])
theorem sub_spcons {A : HP} {l : List HP} : Sub (sp (A :: l) :: L) (A :: sp l :: L) := fun m h s => by
  obtain ⟨a, b, d, ha, hb, ⟨a1, a2, d2, h1, h2, hA, hl⟩, hL⟩ := s
  have s2 : SepL m (A :: sp l :: L) h := ⟨a1, a2.or b, Hp.dj_or d2 (d.sub h1 (Hp.le_refl b)), h1.trans ha, Hp.or_le (h2.trans ha) hb, hA, a2, b, d.sub h2 (Hp.le_refl b), Hp.le_or_left a2 b, Hp.le_or_right (d.sub h2 (Hp.le_refl b)), hl, hL⟩
  exact s2
theorem sub_spsnoc {A : HP} {l : List HP} : Sub (A :: sp l :: L) (sp (l ++ [A]) :: L) := fun m h s => by
  have s1 : SepL m (sp l :: A :: L) h := s.swap
  have s2 := sub_open m h s1
  refine sub_close (Ls := l ++ [A]) m h ?_
  rw [List.append_assoc]
  exact s2
end
end Go.Proofs.Ytbjaecofccpahaa
namespace Go.Proofs.Ytbjaecofccpahaa
open Go Go.RowKit Go.Instr
open Go.ChangeMaps (setBlock)
set_option linter.unusedVariables false
set_option linter.unusedSimpArgs false
/-- block b is a map that holds l, block r an iterator over it; fl says which entries have come; cur: the one that came last, fit to be read -/
def rngo {α : Type} (R : MEnc α) (b r : Nat) (l : List (Int × α)) (fl : List Bool) (cur : Option Nat) : HP :=
  ⟨fun m h => ∃ es clock since seen c0, h b = some (.map es clock) ∧ All2 (entM R m) l es.toList ∧ es.toList.Pairwise (fun x y => x.born < y.born) ∧ (∀ e ∈ es.toList, e.born < since) ∧ since ≤ c0 ∧ since ≤ clock ∧
      h r = some (.mapIter (some b) since seen c0) ∧ r ≠ b ∧ All2 (fun f (e : MapEntry) => f = seen.contains e.born) fl es.toList ∧ (∀ j, cur = some j → c0 = clock ∧ ∃ (e : MapEntry) (s' : Array Nat), es[j]? = some e ∧ seen = s'.push e.born),
   fun hm ⟨es, clock, since, seen, c0, h1, h2, h3⟩ => ⟨es, clock, since, seen, c0, h1, h2.imp fun _ _ => entM.mono hm, h3⟩⟩
section
variable {P : Program} {W0 w : World} {L S : List HP} {a : Act} {d : Option Tmp} {ty : TypeId} {pos : String} {aft : Array Edge} {gd : Option (Nat × Bool)}
theorem St.turn_blk {A A' : HP} (s : St W0 w (A :: L)) (k : Nat) (o' : Obj) (h : ∀ m a c, A.p m a → SepL m L c → (∃ o, a k = some o) ∧ A'.p m (fun j => if j = k then some o' else a j)) :
    St W0 (setBlock w k o') (A' :: L) := by
  obtain ⟨m, a, c, hA, hL, hm, ha, hc, dd, g⟩ := s.lay
  obtain ⟨⟨o, ho⟩, hA'⟩ := h m a c hA hL
  have hlt : k < w.heap.size := Hp.of_lt (ha _ _ ho)
  refine g (a' := fun j => if j = k then some o' else a j) rfl rfl rfl (by simp [setBlock]) hA' ?_ ?_ hL
  · intro j x e
    show (setBlock w k o').heap[j]? = some x
    unfold setBlock
    dsimp only at e ⊢
    by_cases hk : j = k
    · subst hk
      rw [if_pos rfl] at e
      rw [Array.getElem?_setIfInBounds_self_of_lt hlt]
      exact e
    · rw [if_neg hk] at e
      rw [Array.getElem?_setIfInBounds_ne (fun h => hk h.symm)]
      exact ha _ _ e
  · intro j hj hn
    have hne : j ≠ k := by
      intro e
      subst e
      rw [hn] at ho
      cases ho
    refine ⟨?_, by rw [if_neg hne]; exact hn⟩
    unfold setBlock
    exact Array.getElem?_setIfInBounds_ne (fun h => hne h.symm)
theorem St.rngo_ {α : Type} {R : MEnc α} {b r : Nat} {l : List (Int × α)} {fl : List Bool} {cur : Option Nat} (s : St W0 w (rngo R b r l fl cur :: L)) :
    ∃ es clock since seen c0 m, w.heap[b]? = some (.map es clock) ∧ All2 (entM R m) l es.toList ∧ es.toList.Pairwise (fun x y => x.born < y.born) ∧ (∀ e ∈ es.toList, e.born < since) ∧ since ≤ c0 ∧ since ≤ clock ∧
      w.heap[r]? = some (.mapIter (some b) since seen c0) ∧ r ≠ b ∧ All2 (fun f (e : MapEntry) => f = seen.contains e.born) fl es.toList ∧ (∀ j, cur = some j → c0 = clock ∧ ∃ (e : MapEntry) (s' : Array Nat), es[j]? = some e ∧ seen = s'.push e.born) := by
  obtain ⟨m, a, _, ⟨es, clock, since, seen, c0, h1, h2, h3, h4, h5, h6, h7, h8⟩, _, _, ha, _⟩ := s.lay
  exact ⟨es, clock, since, seen, c0, m, ha _ _ h1, h2, h3, h4, h5, h6, ha _ _ h7, h8⟩
theorem sub_rng_close {α : Type} {R : MEnc α} {b r : Nat} {l : List (Int × α)} {fl : List Bool} {cur : Option Nat} : Sub (rngo R b r l fl cur :: L) (mapo R b l :: L) := fun m h ⟨a, c, dd, ha, hc, ⟨es, clock, since, seen, c0, h1, h2, h3, h4, h5, h6, _⟩, hL⟩ =>
  ⟨a, c, dd, ha, hc, ⟨es, clock, h1, h2, h3, fun e he => Nat.lt_of_lt_of_le (h4 e he) h6⟩, hL⟩
theorem All2.rep {α β : Type} {p : α → β → Prop} {x : α} : ∀ {k : List β} {n : Nat}, k.length = n → (∀ y ∈ k, p x y) → All2 p (List.replicate n x) k
  | [], 0, _, _ => trivial
  | y :: k, n + 1, hn, h => ⟨h y (.head _), All2.rep (by simpa using hn) fun z hz => h z (.tail _ hz)⟩
  | [], _ + 1, hn, _ => by simp at hn
  | _ :: _, 0, hn, _ => by simp at hn
theorem All2.getR {α β : Type} {R : α → β → Prop} : ∀ {l : List α} {k : List β} {i : Nat} {b : β}, All2 R l k → k[i]? = some b → ∃ a, l[i]? = some a ∧ R a b
  | a :: l, c :: k, 0, b, ⟨h, _⟩, e => by
    simp only [List.getElem?_cons_zero, Option.some.injEq] at e
    subst e
    exact ⟨a, rfl, h⟩
  | _ :: _, _ :: _, i + 1, b, ⟨_, t⟩, e => by
    rw [List.getElem?_cons_succ] at e
    obtain ⟨a, h1, h2⟩ := All2.getR t e
    exact ⟨a, by rw [List.getElem?_cons_succ]; exact h1, h2⟩
  | [], [], _, _, _, e => by simp at e
  | [], _ :: _, _, _, h, _ => h.elim
  | _ :: _, [], _, _, h, _ => h.elim
theorem All2.impI {α β : Type} {R R' : α → β → Prop} : ∀ {l : List α} {k : List β}, All2 R l k → (∀ (j : Nat) a y, k[j]? = some y → R a y → R' a y) → All2 R' l k
  | [], [], _, _ => trivial
  | a :: l, y :: k, ⟨h, t⟩, g => ⟨g 0 _ _ rfl h, All2.impI t fun j a y hj hr => g (j + 1) a y (by rw [List.getElem?_cons_succ]; exact hj) hr⟩
  | [], _ :: _, h, _ => h.elim
  | _ :: _, [], h, _ => h.elim
theorem All2.setI {α β : Type} {R R' : α → β → Prop} {x : α} : ∀ {l : List α} {k : List β} (n : Nat), All2 R l k → (∀ y, k[n]? = some y → R' x y) → (∀ (j : Nat) a y, j ≠ n → k[j]? = some y → R a y → R' a y) → All2 R' (l.set n x) k
  | [], [], n, _, _, _ => by cases n <;> exact trivial
  | a :: l, y :: k, 0, ⟨_, t⟩, h, g => ⟨h _ rfl, t.impI fun j a y hj hr => g (j + 1) a y (by omega) (by rw [List.getElem?_cons_succ]; exact hj) hr⟩
  | a :: l, y :: k, n + 1, ⟨h0, t⟩, h, g => ⟨g 0 _ _ (by omega) rfl h0, All2.setI n t (fun y hy => h y (by rw [List.getElem?_cons_succ]; exact hy)) fun j a y hj hy hr => g (j + 1) a y (by omega) (by rw [List.getElem?_cons_succ]; exact hy) hr⟩
  | [], _ :: _, _, h, _, _ => h.elim
  | _ :: _, [], _, h, _, _ => h.elim
theorem dy_rangeG {α : Type} {R : MEnc α} {b i : Nat} {l : List (Int × α)} {t kt et : TypeId} {x : Operand} [ut : UL P t (.map kt et)] (hm : L[i]? = some (mapo R b l)) (hx : a.eval x = .map (some b)) :
    DY P W0 L ⟨d, .range t x, ty, pos, aft, gd⟩ a fun a' L' => ∃ r, a.put d (.pointer (some ⟨r, 0, none⟩)) = a' ∧ L' = L.set i (rngo R b r l (List.replicate l.length false) none) :=
  dy_val fun w s => by
    have s1 := s.at_ hm
    obtain ⟨es, clock, m, hb, h⟩ := s1.map_
    refine ⟨_, w.alloc (.mapIter (some b) clock #[] clock), _, ?_, ⟨w.heap.size, rfl, rfl⟩, ?_⟩
    · unfold execOp
      simp [hx, run_range_map w t kt et b es clock ut.pf hb]
    obtain ⟨m, a1, c, ⟨es1, clock1, g1, g2, g3, g4⟩, hL, hm1, ha, hc, dd, g⟩ := s1.lay
    have e1 := (ha _ _ g1).symm.trans hb
    injection e1 with e1
    injection e1 with e1 e2
    subst e1 e2
    have hlt : b < w.heap.size := (Array.getElem?_eq_some_iff.1 hb).1
    have hne : b ≠ w.heap.size := by omega
    refine St.back (g (w' := w.alloc (.mapIter (some b) clock1 #[] clock1)) (a' := fun k => if k = w.heap.size then some (.mapIter (some b) clock1 #[] clock1) else a1 k) rfl rfl rfl (by simp) ?_ ?_ ?_ hL) hm
    · refine ⟨es1, clock1, clock1, #[], clock1, (if_neg hne).trans g1, g2, g3, g4, Nat.le_refl _, Nat.le_refl _, if_pos rfl, fun h => hne h.symm, All2.rep g2.length.symm fun y _ => by simp, fun j hj => by cases hj⟩
    · intro k x e
      show (w.alloc _).heap[k]? = some x
      dsimp only at e
      by_cases hk : k = w.heap.size
      · subst hk
        rw [if_pos rfl] at e
        rw [← e]
        exact heap_alloc_new w _
      · rw [if_neg hk] at e
        have h1 := ha _ _ e
        rw [← h1]
        exact (World.grownBy_alloc w _ none).block k (Hp.of_lt h1) (by simp)
    · intro k hk hn
      have hne2 : k ≠ w.heap.size := by omega
      exact ⟨(World.grownBy_alloc w _ none).block k hk (by simp), by rw [if_neg hne2]; exact hn⟩
theorem map_nodup {es : List MapEntry} (h : es.Pairwise (fun x y => x.born < y.born)) : (es.map (·.born)).Nodup := List.pairwise_map.2 (h.imp fun {x y} hxy => Nat.ne_of_lt hxy)
/-- next: nothing is left, or some entry comes -/
theorem dy_next {α : Type} {R : MEnc α} {b r i : Nat} {l : List (Int × α)} {fl : List Bool} {cur : Option Nat} {x : Operand} (hm : L[i]? = some (rngo R b r l fl cur)) (hx : a.eval x = .pointer (some ⟨r, 0, none⟩)) :
    DY P W0 L ⟨d, .next x false, ty, pos, aft, gd⟩ a fun a' L' => ((∀ f ∈ fl, f = true) ∧ a.put d (.tuple #[.bool false]) = a' ∧ L' = L) ∨
      ∃ j p, fl[j]? = some false ∧ l[j]? = some p ∧ a.put d (.tuple #[.bool true, .int .i64 p.1, R.val p.2]) = a' ∧ L' = L.set i (rngo R b r l (fl.set j true) (some j)) :=
  dy_val fun w s => by
    have s1 := s.at_ hm
    obtain ⟨es, clock, since, seen, c0, m, hb, h, hp, hs, h5, h6, hr, hne, hfl, hcur⟩ := s1.rngo_
    rcases run_next_at (P := P) w ty r b since c0 seen es clock hr hb hs h5 with ⟨h0, hrun⟩ | ⟨e, he, w1, hw1, hrun⟩
    · refine ⟨_, w, L, ?_, .inl ⟨fun f hf => ?_, rfl, rfl⟩, s⟩
      · unfold execOp
        simp [hx, hrun]
      · obtain ⟨j, hj⟩ := List.getElem?_of_mem hf
        obtain ⟨e, he, hfe⟩ := hfl.get hj
        rw [hfe]
        exact all_seen es seen h0 e (List.mem_of_getElem? he)
    · obtain ⟨hem, hes⟩ := mem_left he
      obtain ⟨j, hj⟩ := List.getElem?_of_mem hem
      obtain ⟨p, hpj, hpe⟩ := h.getR hj
      obtain ⟨f, hfj, hfe⟩ := hfl.getR hj
      rw [hes] at hfe
      subst hfe
      refine ⟨.tuple #[.bool true, .int .i64 p.1, R.val p.2], setBlock w1 r (.mapIter (some b) since (seen.push e.born) clock), _, ?_, .inr ⟨j, p, hfj, hpj, rfl, rfl⟩, ?_⟩
      · unfold execOp
        simp only [hx, hrun, hpe.1, hpe.2.1]
        simp [hrun, hpe.1, hpe.2.1]
      have s2 : St W0 w1 (rngo R b r l fl cur :: L.eraseIdx i) := by
        rcases hw1 with rfl | rfl
        · exact s1
        · exact s1.drew
      have hb1 : w1.heap[b]? = some (.map es clock) := by rcases hw1 with rfl | rfl <;> exact hb
      have hr1 : w1.heap[r]? = some (.mapIter (some b) since seen c0) := by rcases hw1 with rfl | rfl <;> exact hr
      obtain ⟨m2, a2, c2, ⟨es2, clock2, since2, seen2, c02, k1, k2, k3, k4, k5, k6, k7, k8, k9, k10⟩, hL2, hm2, ha2, hc2, dd2, g2⟩ := s2.lay
      have e1 := (ha2 _ _ k1).symm.trans hb1
      injection e1 with e1
      injection e1 with e1 e2
      subst e1 e2
      have e3 := (ha2 _ _ k7).symm.trans hr1
      injection e3 with e3
      injection e3 with e4 e5 e6 e7
      subst e5 e6 e7
      have hlt : r < w1.heap.size := (Array.getElem?_eq_some_iff.1 hr1).1
      have hnd := map_nodup k3
      refine St.back (g2 (w' := setBlock w1 r (.mapIter (some b) since2 (seen2.push e.born) clock2)) (a' := fun k => if k = r then some (.mapIter (some b) since2 (seen2.push e.born) clock2) else a2 k) rfl rfl rfl (by simp [setBlock]) ?_ ?_ ?_ hL2) hm
      · refine ⟨es2, clock2, since2, seen2.push e.born, clock2, (if_neg fun h => k8 h.symm).trans k1, k2, k3, k4, k6, k6, if_pos rfl, k8, ?_, ?_⟩
        · refine k9.setI j (fun y hy => ?_) (fun j' f y hne' hy hf => ?_)
          · rw [hj] at hy
            injection hy with hy
            subst hy
            rw [contains_push]
            simp
          · rw [hf, contains_push]
            have hbne : y.born ≠ e.born := fun hbe => by
              obtain ⟨l1, v1⟩ := List.getElem?_eq_some_iff.1 hy
              obtain ⟨l2, v2⟩ := List.getElem?_eq_some_iff.1 hj
              rcases Nat.lt_trichotomy j' j with h | h | h
              · have := List.pairwise_iff_getElem.1 k3 j' j l1 l2 h
                rw [v1, v2] at this
                omega
              · exact hne' h
              · have := List.pairwise_iff_getElem.1 k3 j j' l2 l1 h
                rw [v1, v2] at this
                omega
            have : (y.born == e.born) = false := by simpa using hbne
            rw [this, Bool.or_false]
        · intro j' hj'
          injection hj' with hj'
          subst hj'
          exact ⟨rfl, e, seen2, by simpa using hj, rfl⟩
      · intro k x hk
        show (setBlock w1 r _).heap[k]? = some x
        unfold setBlock
        dsimp only at hk ⊢
        by_cases hkr : k = r
        · subst hkr
          rw [if_pos rfl] at hk
          rw [Array.getElem?_setIfInBounds_self_of_lt hlt]
          exact hk
        · rw [if_neg hkr] at hk
          rw [Array.getElem?_setIfInBounds_ne (fun h => hkr h.symm)]
          exact ha2 _ _ hk
      · intro k hk hn
        have hkr : k ≠ r := by
          intro h
          subst h
          rw [hn] at k7
          cases k7
        refine ⟨?_, by rw [if_neg hkr]; exact hn⟩
        unfold setBlock
        exact Array.getElem?_setIfInBounds_ne (fun h => hkr h.symm)
theorem sv_entry {α : Type} {R : MEnc α} {b r j : Nat} {l : List (Int × α)} {fl : List Bool} {p : Int × α} {x : Operand} (hm : rngo R b r l fl (some j) ∈ S) (hx : a.eval x = .pointer (some ⟨r, 0, none⟩)) (hp : l[j]? = some p) :
    SV P W0 S ⟨d, .entry x, ty, pos, aft, gd⟩ a (.tuple #[.int .i64 p.1, R.val p.2]) := ⟨fun w s => by
  obtain ⟨L0, hq⟩ := s.mem hm
  obtain ⟨es, clock, since, seen, c0, m, hb, h, hpw, hs, h5, h6, hr, hne, hfl, hcur⟩ := (s.perm hq).rngo_
  obtain ⟨rfl, e, s', he, rfl⟩ := hcur j rfl
  have he2 : es.toList[j]? = some e := by simpa using he
  obtain ⟨p2, hp2, hpe⟩ := h.getR he2
  rw [hp] at hp2
  injection hp2 with hp2
  subst hp2
  have := run_entry_at (P := P) w r b since s' es c0 e hr hb (List.mem_of_getElem? he2) (map_nodup hpw)
  unfold execOp
  simp only [hx, this, hpe.1, hpe.2.1]
  simp [this, hpe.1, hpe.2.1]⟩
/-- m[k] = x in the round, at a key that is there -/
theorem dy_putR {α : Type} {R : MEnc α} {b r i : Nat} {l : List (Int × α)} {fl : List Bool} {cur : Option Nat} {k : Int} {q : Nat × α} (el : α) {t kt et : TypeId} {x y z : Operand} [ut : UL P t (.map kt et)] [uk : UL P kt (.int .i64)] (hm : L[i]? = some (rngo R b r l fl cur)) (hq : posM k l 0 = some q)
    (hx : a.eval x = .map (some b)) (hy : a.eval y = .int .i64 k) (hz : a.eval z = R.val el) {Le : List HP} (hLe : L.eraseIdx i = Le) (he : ∀ m h, SepL m Le h → (R.im el).r m) :
    DY P W0 L ⟨d, .mapUpdate t x y z, ty, pos, aft, gd⟩ a fun a' L' => a.put d undef = a' ∧ L' = L.set i (rngo R b r (l.set q.1 (k, el)) fl none) :=
  dy_skp fun w s => by
    have s1 := s.at_ hm
    subst hLe
    obtain ⟨es, clock, since, seen, c0, m, hb, h, hp, hs, h5, h6, hr, hne, hfl, hcur⟩ := s1.rngo_
    have hup := update_l (v := R.val el) ut.pf uk.pf (k := k) hb h
    rw [hq] at hup
    dsimp only at hup
    refine ⟨{ w with heap := w.heap.setIfInBounds b (.map (es.modify q.1 fun e => { e with key := .int .i64 k, val := R.val el }) clock) }, L.set i (rngo R b r (l.set q.1 (k, el)) fl none), ?_, ⟨rfl, rfl⟩, ?_⟩
    · unfold execOp
      simp [hx, hy, hz, hup]
    obtain ⟨m2, a2, c2, ⟨es2, clock2, since2, seen2, c02, k1, k2, k3, k4, k5, k6, k7, k8, k9, k10⟩, hL2, hm2, ha2, hc2, dd2, g2⟩ := s1.lay
    have e1 := (ha2 _ _ k1).symm.trans hb
    injection e1 with e1
    injection e1 with e1 e2
    subst e1 e2
    have hlt : b < w.heap.size := (Array.getElem?_eq_some_iff.1 hb).1
    obtain ⟨es', hes'⟩ : ∃ es', (es2.modify q.1 fun e => { e with key := .int .i64 k, val := R.val el }) = es' := ⟨_, rfl⟩
    have e : es'.toList = es2.toList.modify q.1 fun e => { e with key := .int .i64 k, val := R.val el } := by rw [← hes']; simp
    have hbn := born_mod (f := fun e : MapEntry => { e with key := .int .i64 k, val := R.val el }) (fun _ => rfl) es2.toList q.1
    rw [hes']
    refine St.back (g2 (w' := { w with heap := w.heap.setIfInBounds b (.map es' clock2) }) (a' := fun k => if k = b then some (.map es' clock2) else a2 k) rfl rfl rfl (by simp) ?_ ?_ ?_ hL2) hm
    · refine ⟨es', clock2, since2, seen2, c02, if_pos rfl, ?_, ?_, ?_, k5, k6, (if_neg k8).trans k7, k8, ?_, fun j hj => by cases hj⟩
      · rw [e]
        exact k2.modM q.1 (fun e _ => ⟨rfl, rfl, he m2 c2 hL2⟩)
      · rw [e]
        have p1 : (es2.toList.map MapEntry.born).Pairwise (· < ·) := List.pairwise_map.2 k3
        rw [← hbn] at p1
        exact List.pairwise_map.1 p1
      · intro y hy
        rw [e] at hy
        have h1 : y.born ∈ (es2.toList.modify q.1 fun e => { e with key := .int .i64 k, val := R.val el }).map MapEntry.born := List.mem_map.2 ⟨y, hy, rfl⟩
        rw [hbn] at h1
        obtain ⟨z, hz, hzb⟩ := List.mem_map.1 h1
        rw [← hzb]
        exact k4 z hz
      · rw [e]
        have h2 : ∀ (n : Nat) {fl : List Bool} {l : List MapEntry}, All2 (fun f (e : MapEntry) => f = seen2.contains e.born) fl l → All2 (fun f (e : MapEntry) => f = seen2.contains e.born) fl (l.modify n fun e => { e with key := .int .i64 k, val := R.val el }) := by
          intro n
          induction n with
          | zero => intro fl l h; cases fl <;> cases l <;> first | exact h | exact h.elim | exact ⟨h.1, h.2⟩
          | succ n ih => intro fl l h; cases fl <;> cases l <;> first | exact h | exact h.elim | exact ⟨h.1, ih h.2⟩
        exact h2 q.1 k9
    · intro j x hk
      show ({ w with heap := w.heap.setIfInBounds b (.map es' clock2) } : World).heap[j]? = some x
      dsimp only at hk ⊢
      by_cases hkr : j = b
      · subst hkr
        rw [if_pos rfl] at hk
        rw [Array.getElem?_setIfInBounds_self_of_lt hlt]
        exact hk
      · rw [if_neg hkr] at hk
        rw [Array.getElem?_setIfInBounds_ne (fun h => hkr h.symm)]
        exact ha2 _ _ hk
    · intro j hk hn
      have hkr : j ≠ b := by
        intro h
        subst h
        rw [hn] at k1
        cases k1
      exact ⟨Array.getElem?_setIfInBounds_ne (fun h => hkr h.symm), by rw [if_neg hkr]; exact hn⟩
theorem sv_lookp {α : Type} {R : MEnc α} {b : Nat} {l : List (Int × α)} {k : Int} {t kt et : TypeId} {x y : Operand} {zv : Value} {sz by_ : Nat} [ut : UL P t (.map kt et)] [uk : UL P kt (.int .i64)] [ti : TI P et zv sz by_] (hm : mapo R b l ∈ S) (hx : a.eval x = .map (some b)) (hy : a.eval y = .int .i64 k) {v : Value} (hv : ((posM k l 0).map fun q => R.val q.2).getD zv = v) :
    SV P W0 S ⟨d, .lookup t x y false, ty, pos, aft, gd⟩ a v := ⟨fun w s => by
  subst hv
  obtain ⟨L0, hp⟩ := s.mem hm
  obtain ⟨es, clock, m, hb, h⟩ := (s.perm hp).map_
  unfold execOp
  simp [hx, hy, lookup_l (ok := false) ut.pf uk.pf (zero_run (P := P) (t := et) w) hb h]⟩
end
end Go.Proofs.Ytbjaecofccpahaa
namespace Go.Proofs.Ytbjaecofccpahaa
open Go Go.RowKit
set_option linter.unusedVariables false
set_option linter.unusedSimpArgs false
set_option maxRecDepth 20000
set_option synthInstance.maxSize 100000
set_option synthInstance.maxHeartbeats 400000
theorem bit_flip {y : UInt8} {k : Nat} (hk : k < 8) : ∃ z : UInt8, bits .xor .u8 (y.toNat : Int) (IntKind.u8.wrap (1 * 2 ^ k)) = (z.toNat : Int) ∧ z ≠ y := by
  have h : ∀ (k : Fin 8) (y : Fin 256), 0 ≤ bits .xor .u8 (y.val : Int) (IntKind.u8.wrap (1 * 2 ^ k.val)) ∧ bits .xor .u8 (y.val : Int) (IntKind.u8.wrap (1 * 2 ^ k.val)) < 256 ∧ bits .xor .u8 (y.val : Int) (IntKind.u8.wrap (1 * 2 ^ k.val)) ≠ (y.val : Int) := by decide +kernel
  obtain ⟨h1, h2, h3⟩ := h ⟨k, hk⟩ ⟨y.toNat, y.toNat_lt⟩
  dsimp only at h1 h2 h3
  have e : ((UInt8.ofNat (bits .xor .u8 (y.toNat : Int) (IntKind.u8.wrap (1 * 2 ^ k))).toNat).toNat : Int) = bits .xor .u8 (y.toNat : Int) (IntKind.u8.wrap (1 * 2 ^ k)) := by
    rw [UInt8.toNat_ofNat']
    omega
  refine ⟨UInt8.ofNat (bits .xor .u8 (y.toNat : Int) (IntKind.u8.wrap (1 * 2 ^ k))).toNat, e.symm, fun hz => h3 ?_⟩
  rw [← e, hz]
theorem O_front {P : Program} {W0 : World} {L Le : List HP} {ops : Array Oper} {Q : Exit → Act → World → Prop} {rest : List Oper} {a : Act} {A : HP} (i : Nat) (hi : L[i]? = some A) (he : L.eraseIdx i = Le) (k : OL P W0 (A :: Le) ops Q rest a) : OL P W0 L ops Q rest a := by
  subst he
  exact O_at hi k
section
variable {W0 : World} {L : List HP}
theorem Clone_ct {v : Value} {l : List UInt8} (hv : Src L eB v l) (hl : l.length ≤ 100000000000000) :
    CT Try.prog 44 #[v] W0 L fun r L' => ∃ A c, r = .slice A l.length c ∧ L' = own 5 eB (.slice A l.length c) l :: L := by
  refine CT_fact (fun w s => (hv.sl s).form) ?_
  rintro ⟨A, cap, rfl, hcap⟩
  cases A with
  | none =>
    refine CT_fact (fun w s => (hv.sl s).nil_of) ?_
    rintro rfl
    refine CT_enter Try.func44 rfl ?_; (simp only [Try.ntmps44, List.size_toArray, List.length_cons, List.length_nil, Nat.reduceAdd, Nat.reduceSub, Array.replicate_succ, Array.replicate_zero, List.push_toArray, List.append_toArray, List.nil_append, List.cons_append])
    repeat' (first | refine go ?_ | intro _ | (apply cG; first | refine cT ?_ | refine cF ?_ | refine cS (fun _ => ?_) fun _ => ?_) | (apply gW; refine sW ?_) | (apply gI; refine sI ?_) | (apply gE; refine sE ?_) | (apply gP; refine sP ?_) | (apply gC; refine sC ?_) | (apply gD; refine sD ?_) | fail)
    refine E_ownnil 5 eB ?_
    refine E_end1 (by rfl) (by rfl) Ev.pf ⟨none, 0, rfl, rfl⟩
  | some ad =>
    have hv : Sc L (.slice (some ad) l.length cap) eB l := ⟨hv⟩
    refine CT_enter Try.func44 rfl ?_; (simp only [Try.ntmps44, List.size_toArray, List.length_cons, List.length_nil, Nat.reduceAdd, Nat.reduceSub, Array.replicate_succ, Array.replicate_zero, List.push_toArray, List.append_toArray, List.nil_append, List.cons_append])
    repeat' (first | refine go ?_ | intro _ | (apply cG; first | refine cT ?_ | refine cF ?_ | refine cS (fun _ => ?_) fun _ => ?_) | (apply gW; refine sW ?_) | (apply gI; refine sI ?_) | (apply gE; refine sE ?_) | (apply gP; refine sP ?_) | (apply gC; refine sC ?_) | (apply gD; refine sD ?_) | fail)
    refine O_d (dy_lit0 eB rfl) ?_; rintro _ _ ⟨_, rfl, rfl⟩; refine O_n ?_
    repeat' (first | refine go ?_ | intro _ | (apply cG; first | refine cT ?_ | refine cF ?_ | refine cS (fun _ => ?_) fun _ => ?_) | (apply gW; refine sW ?_) | (apply gI; refine sI ?_) | (apply gE; refine sE ?_) | (apply gP; refine sP ?_) | (apply gC; refine sC ?_) | (apply gD; refine sD ?_) | fail)
    refine E_end1 (by rfl) (by rfl) Ev.pf ⟨_, _, rfl, rfl⟩
end
end Go.Proofs.Ytbjaecofccpahaa
