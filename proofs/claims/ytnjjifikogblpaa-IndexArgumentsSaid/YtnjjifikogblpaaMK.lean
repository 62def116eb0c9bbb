/-
  Maps with integer keys: an assertion, and what the operations do. No program.
-/
import Derived.Test.YtnjjifikogblpaaMJ
import Derived.Test.YtnjjifikogblpaaMI
namespace Go.Proofs.Ytnjjifikogblpaa
open Go Go.RowKit Go.Instr
set_option linter.unusedVariables false
set_option linter.unusedSimpArgs false
/-- elements of a map: the value, and what holds of it for good -/
structure MEnc (α : Type) where
  val : α → Value
  im : α → Im
def entM {α : Type} (R : MEnc α) (m : Hp) (p : Int × α) (e : MapEntry) : Prop := e.key = .int .i64 p.1 ∧ e.val = R.val p.2 ∧ (R.im p.2).r m
theorem entM.mono {α : Type} {R : MEnc α} {m m' : Hp} (hm : m.le m') {p : Int × α} {e : MapEntry} (h : entM R m p e) : entM R m' p e := ⟨h.1, h.2.1, (R.im p.2).mono hm h.2.2⟩
/-- block b is a map that holds l -/
def mapo {α : Type} (R : MEnc α) (b : Nat) (l : List (Int × α)) : HP :=
  ⟨fun m h => ∃ es clock, h b = some (.map es clock) ∧ All2 (entM R m) l es.toList ∧ es.toList.Pairwise (fun x y => x.born < y.born) ∧ ∀ e ∈ es.toList, e.born < clock,
   fun hm ⟨es, clock, h1, h2, h3, h4⟩ => ⟨es, clock, h1, h2.imp fun _ _ => entM.mono hm, h3, h4⟩⟩
def posM {α : Type} (k : Int) : List (Int × α) → Nat → Option (Nat × α)
  | [], _ => none
  | p :: l, i => if k = p.1 then some (i, p.2) else posM k l (i + 1)
theorem findNow_l {α : Type} {R : MEnc α} {m : Hp} {k : Int} : ∀ {l : List (Int × α)} {es : List MapEntry} {i : Nat}, All2 (entM R m) l es → findNow (.int .i64) (.int .i64 k) es i = some ((posM k l i).map fun q => (q.1, R.val q.2))
  | [], [], i, _ => rfl
  | p :: l, e :: es, i, ⟨h, t⟩ => by
    have ih := findNow_l (k := k) (i := i + 1) t
    unfold findNow posM
    rw [h.1]
    by_cases hk : k = p.1
    · subst hk
      simp [sameNow, h.2.1]
    · have : (k == p.1) = false := by simpa using hk
      simp [sameNow, this, hk, ih]
  | [], _ :: _, _, h => h.elim
  | _ :: _, [], _, h => h.elim
section
variable {P : Program} {w : World}
theorem findKey_l {α : Type} {R : MEnc α} {m : Hp} {k : Int} {l : List (Int × α)} {es : List MapEntry} {kt : TypeId} (hk : P.underlying kt = some (.int .i64)) (h : All2 (entM R m) l es) : (findKey kt (.int .i64 k) es).run P w = .ok ((posM k l 0).map fun q => (q.1, R.val q.2)) w := by
  unfold findKey
  simp only [Sem.run_bind, run_underlying hk, Result.andThen_ok, findNow_l h]
  rfl
theorem checkKey_l {em : Bool} {k : Int} {kt : TypeId} (hk : P.underlying kt = some (.int .i64)) : (checkKey em 10000 kt (.int .i64 k)).run P w = .ok () w := by
  unfold checkKey
  simp only [Sem.run_bind, run_underlying hk, Result.andThen_ok]
  rfl
theorem lookup_l {α : Type} {R : MEnc α} {m : Hp} {k : Int} {l : List (Int × α)} {es : Array MapEntry} {clock : Nat} {t kt et : TypeId} {z : Value} {b : Nat} {ok : Bool} (ht : P.underlying t = some (.map kt et)) (hk : P.underlying kt = some (.int .i64)) (hz : (zeroValue et).run P w = .ok z w)
    (hb : w.heap[b]? = some (.map es clock)) (h : All2 (entM R m) l es.toList) :
    (lookup t (.map (some b)) (.int .i64 k) ok).run P w = .ok (if ok then .tuple #[((posM k l 0).map fun q => R.val q.2).getD z, .bool (posM k l 0).isSome] else ((posM k l 0).map fun q => R.val q.2).getD z) w := by
  unfold lookup
  simp only [Sem.run_bind, run_underlying ht, Result.andThen_ok, MapKept.run_getObj_map hb, Sem.run_pure, checkKey_l hk, findKey_l hk h]
  cases hp : posM k l 0 with
  | none => simp [hz]
  | some q => simp
/-- what putting does to the list -/
def putM {α : Type} (k : Int) (x : α) (l : List (Int × α)) : List (Int × α) := match posM k l 0 with
  | some q => l.set q.1 (k, x)
  | none => l ++ [(k, x)]
def delM {α : Type} (k : Int) (l : List (Int × α)) : List (Int × α) := match posM k l 0 with
  | some q => l.eraseIdx q.1
  | none => l
theorem posM_lt {α : Type} {k : Int} : ∀ {l : List (Int × α)} {i : Nat} {q : Nat × α}, posM k l i = some q → i ≤ q.1 ∧ q.1 < i + l.length ∧ l[q.1 - i]? = some (k, q.2)
  | [], _, _, h => by cases h
  | p :: l, i, q, h => by
    unfold posM at h
    split at h
    · rename_i hk
      injection h with h
      subst h
      refine ⟨Nat.le_refl _, by simp, ?_⟩
      rw [Nat.sub_self, hk]
      rfl
    · have ih := posM_lt h
      refine ⟨by omega, by simp only [List.length_cons]; omega, ?_⟩
      have e : q.1 - i = (q.1 - (i + 1)) + 1 := by omega
      rw [e, List.getElem?_cons_succ]
      exact ih.2.2
theorem same_key {k : Int} : sameBits 10000 (.int .i64 k) (.int .i64 k) = true := by
  simp [sameBits]
theorem update_l {α : Type} {R : MEnc α} {m : Hp} {k : Int} {l : List (Int × α)} {es : Array MapEntry} {clock : Nat} {t kt et : TypeId} {b : Nat} {v : Value} (ht : P.underlying t = some (.map kt et)) (hk : P.underlying kt = some (.int .i64))
    (hb : w.heap[b]? = some (.map es clock)) (h : All2 (entM R m) l es.toList) :
    (mapUpdate t (.map (some b)) (.int .i64 k) v).run P w = .ok () { w with heap := w.heap.setIfInBounds b (match posM k l 0 with
      | some q => .map (es.modify q.1 fun e => { e with key := .int .i64 k, val := v }) clock
      | none => .map (es.push { key := .int .i64 k, val := v, born := clock }) (clock + 1)) } := by
  unfold mapUpdate
  simp only [Sem.run_bind, run_underlying ht, Result.andThen_ok, MapKept.run_getObj_map hb, Sem.run_pure, checkKey_l hk, findKey_l hk h]
  cases hp : posM k l 0 with
  | none => simp only [Option.map_none]; exact MapKept.run_setObj_map _ hb
  | some q =>
    have hq := posM_lt hp
    have hq2 : l[q.1]? = some (k, q.2) := by simpa using hq.2.2
    obtain ⟨e, he, hke, _⟩ := h.get hq2
    have he' : es[q.1]? = some e := by simpa using he
    simp only [Option.map_some, he', Option.getD_some, hke, keyThatStays, same_key, if_true, Sem.run_pure, Sem.run_bind, Result.andThen_ok]
    exact MapKept.run_setObj_map _ hb
theorem delete_l {α : Type} {R : MEnc α} {m : Hp} {k : Int} {l : List (Int × α)} {es : Array MapEntry} {clock : Nat} {t kt et u ty : TypeId} {b : Nat} (ht : P.underlying t = some (.map kt et)) (hk : P.underlying kt = some (.int .i64))
    (hb : w.heap[b]? = some (.map es clock)) (h : All2 (entM R m) l es.toList) :
    (Builtin.delete_ #[t, u] ty #[.map (some b), .int .i64 k]).run P w = .ok (.tuple #[]) { w with heap := w.heap.setIfInBounds b (match posM k l 0 with
      | some q => .map (es.eraseIdxIfInBounds q.1) clock
      | none => .map es clock) } := by
  unfold Builtin.delete_
  simp only [List.getElem?_toArray, List.getElem?_cons_zero, List.getElem?_cons_succ, Sem.run_bind, run_underlying ht, Result.andThen_ok, MapKept.run_getObj_map hb, Sem.run_pure, checkKey_l hk, findKey_l hk h]
  cases hp : posM k l 0 with
  | none => simp only [Option.map_none]; rw [Sem.run_bind, MapKept.run_setObj_map _ hb]; rfl
  | some q => simp only [Option.map_some]; rw [Sem.run_bind, MapKept.run_setObj_map _ hb]; rfl
end
section
variable {P : Program} {W0 w : World} {L : List HP}
theorem All2.eraseM {α β : Type} {R : α → β → Prop} : ∀ {l : List α} {k : List β} (n : Nat), All2 R l k → All2 R (l.eraseIdx n) (k.eraseIdx n)
  | [], [], _, _ => trivial
  | _ :: _, _ :: _, 0, ⟨_, t⟩ => t
  | _ :: _, _ :: _, n + 1, ⟨h, t⟩ => ⟨h, All2.eraseM n t⟩
  | [], _ :: _, _, h => h.elim
  | _ :: _, [], _, h => h.elim
theorem All2.modM {α β : Type} {R : α → β → Prop} {x : α} {f : β → β} : ∀ {l : List α} {k : List β} (n : Nat), All2 R l k → (∀ e, k[n]? = some e → R x (f e)) → All2 R (l.set n x) (k.modify n f)
  | [], [], n, _, _ => by cases n <;> exact trivial
  | _ :: _, _ :: _, 0, ⟨_, t⟩, h => ⟨h _ rfl, t⟩
  | _ :: _, _ :: _, n + 1, ⟨g, t⟩, h => ⟨g, All2.modM n t fun e he => h e (by simpa using he)⟩
  | [], _ :: _, _, h, _ => h.elim
  | _ :: _, [], _, h, _ => h.elim
theorem born_mod {f : MapEntry → MapEntry} (hf : ∀ e, (f e).born = e.born) : ∀ (es : List MapEntry) (n : Nat), (es.modify n f).map MapEntry.born = es.map MapEntry.born
  | [], n => by cases n <;> rfl
  | e :: es, 0 => by show (f e :: es).map _ = _; rw [List.map_cons, List.map_cons, hf]
  | e :: es, n + 1 => by show (e :: es.modify n f).map _ = _; rw [List.map_cons, List.map_cons, born_mod hf es n]
theorem St.map_ {α : Type} {R : MEnc α} {b : Nat} {l : List (Int × α)} (s : St W0 w (mapo R b l :: L)) :
    ∃ es clock m, w.heap[b]? = some (.map es clock) ∧ All2 (entM R m) l es.toList := by
  obtain ⟨m, a, _, ⟨es, clock, h1, h2, _⟩, _, _, ha, _⟩ := s.lay
  exact ⟨es, clock, m, ha _ _ h1, h2⟩
theorem St.map_turn {α : Type} {R : MEnc α} {b : Nat} {l l' : List (Int × α)} (s : St W0 w (mapo R b l :: L)) {es : Array MapEntry} {clock : Nat} (hb : w.heap[b]? = some (.map es clock)) (es' : Array MapEntry) (clock' : Nat)
    (h1 : ∀ m h, SepL m L h → All2 (entM R m) l es.toList → All2 (entM R m) l' es'.toList)
    (h2 : es.toList.Pairwise (fun x y => x.born < y.born) → (∀ e ∈ es.toList, e.born < clock) → es'.toList.Pairwise (fun x y => x.born < y.born) ∧ ∀ e ∈ es'.toList, e.born < clock') :
    St W0 { w with heap := w.heap.setIfInBounds b (.map es' clock') } (mapo R b l' :: L) := by
  obtain ⟨m, a, c, ⟨es0, clock0, g1, g2, g3, g4⟩, hL, hm, ha, hc, d, g⟩ := s.lay
  have e0 := ha _ _ g1
  have e1 : w.heap[b]? = some (.map es0 clock0) := e0
  rw [hb] at e1
  injection e1 with e1
  injection e1 with e1 e2
  subst e1 e2
  obtain ⟨k1, k2⟩ := h2 g3 g4
  have hlt : b < w.heap.size := (Array.getElem?_eq_some_iff.1 hb).1
  refine g (a' := fun k => if k = b then some (.map es' clock') else a k) rfl rfl rfl (by simp) ⟨es', clock', by simp, h1 m c hL g2, k1, k2⟩ ?_ ?_ hL
  · intro k o e
    show ({ w with heap := w.heap.setIfInBounds b (.map es' clock') } : World).heap[k]? = some o
    dsimp only at e ⊢
    by_cases hk : k = b
    · subst hk
      rw [if_pos rfl] at e
      rw [Array.getElem?_setIfInBounds_self_of_lt hlt]
      exact e
    · rw [if_neg hk] at e
      rw [Array.getElem?_setIfInBounds_ne (fun h => hk h.symm)]
      exact ha _ _ e
  · intro k hk hn
    have hne : k ≠ b := by
      intro e
      subst e
      rw [hn] at g1
      cases g1
    exact ⟨Array.getElem?_setIfInBounds_ne (fun h => hne h.symm), by rw [if_neg hne]; exact hn⟩
theorem St.map_put {α : Type} {R : MEnc α} {b : Nat} {l : List (Int × α)} (s : St W0 w (mapo R b l :: L)) {t kt et : TypeId} (ht : P.underlying t = some (.map kt et)) (hk : P.underlying kt = some (.int .i64)) (k : Int) (x : α) (hx : ∀ m h, SepL m L h → (R.im x).r m) :
    ∃ w', (mapUpdate t (.map (some b)) (.int .i64 k) (R.val x)).run P w = .ok () w' ∧ St W0 w' (mapo R b (putM k x l) :: L) := by
  obtain ⟨es, clock, m, hb, h⟩ := s.map_
  refine ⟨_, update_l ht hk hb h, ?_⟩
  unfold putM
  cases hp : posM k l 0 with
  | none =>
    refine s.map_turn hb _ _ (fun m h hL ha => ?_) (fun g3 g4 => ?_)
    · rw [Array.toList_push]
      exact ha.append ⟨⟨rfl, rfl, hx m h hL⟩, trivial⟩
    · rw [Array.toList_push]
      refine ⟨List.pairwise_append.2 ⟨g3, List.pairwise_singleton _ _, fun a ha c hc => ?_⟩, fun e he => ?_⟩
      · simp only [List.mem_cons, List.not_mem_nil, or_false] at hc
        subst hc
        exact g4 a ha
      · rcases List.mem_append.1 he with he | he
        · exact Nat.lt_succ_of_lt (g4 e he)
        · simp only [List.mem_cons, List.not_mem_nil, or_false] at he
          subst he
          exact Nat.lt_succ_self _
  | some q =>
    have e : (es.modify q.1 fun e => { e with key := .int .i64 k, val := R.val x }).toList = es.toList.modify q.1 fun e => { e with key := .int .i64 k, val := R.val x } := by simp
    have hbn := born_mod (f := fun e : MapEntry => { e with key := .int .i64 k, val := R.val x }) (fun _ => rfl) es.toList q.1
    refine s.map_turn hb _ _ (fun m h hL ha => ?_) (fun g3 g4 => ?_)
    · rw [e]
      exact ha.modM q.1 (fun e _ => ⟨rfl, rfl, hx m h hL⟩)
    · rw [e]
      have p1 : (es.toList.map MapEntry.born).Pairwise (· < ·) := List.pairwise_map.2 g3
      rw [← hbn] at p1
      refine ⟨List.pairwise_map.1 p1, fun y hy => ?_⟩
      have h1 : y.born ∈ (es.toList.modify q.1 fun e => { e with key := .int .i64 k, val := R.val x }).map MapEntry.born := List.mem_map.2 ⟨y, hy, rfl⟩
      rw [hbn] at h1
      obtain ⟨z, hz, hzb⟩ := List.mem_map.1 h1
      rw [← hzb]
      exact g4 z hz
theorem St.map_del {α : Type} {R : MEnc α} {b : Nat} {l : List (Int × α)} (s : St W0 w (mapo R b l :: L)) {t kt et u ty : TypeId} (ht : P.underlying t = some (.map kt et)) (hk : P.underlying kt = some (.int .i64)) (k : Int) :
    ∃ w', (Builtin.delete_ #[t, u] ty #[.map (some b), .int .i64 k]).run P w = .ok (.tuple #[]) w' ∧ St W0 w' (mapo R b (delM k l) :: L) := by
  obtain ⟨es, clock, m, hb, h⟩ := s.map_
  refine ⟨_, delete_l ht hk hb h, ?_⟩
  unfold delM
  cases hp : posM k l 0 with
  | none => exact s.map_turn hb _ _ (fun m h hL ha => ha) (fun g3 g4 => ⟨g3, g4⟩)
  | some q =>
    have e : (es.eraseIdxIfInBounds q.1).toList = es.toList.eraseIdx q.1 := by simp
    refine s.map_turn hb _ _ (fun m h hL ha => ?_) (fun g3 g4 => ?_)
    · rw [e]; exact ha.eraseM _
    · rw [e]
      exact ⟨g3.sublist (List.eraseIdx_sublist _ _), fun x hx => g4 x (List.mem_of_mem_eraseIdx hx)⟩
/-! ### the operations, for the walk -/
variable {a : Act} {d : Option Tmp} {ty : TypeId} {pos : String} {aft : Array Edge} {gd : Option (Nat × Bool)} {S : List HP}
theorem sv_look1 {α : Type} {R : MEnc α} {b : Nat} {l : List (Int × α)} {k : Int} {q : Nat × α} {t kt et : TypeId} {x y : Operand} {zv : Value} {sz by_ : Nat} [ut : UL P t (.map kt et)] [uk : UL P kt (.int .i64)] [ti : TI P et zv sz by_] (hm : mapo R b l ∈ S) (hx : a.eval x = .map (some b)) (hy : a.eval y = .int .i64 k) (hq : posM k l 0 = some q) :
    SV P W0 S ⟨d, .lookup t x y true, ty, pos, aft, gd⟩ a (.tuple #[R.val q.2, .bool true]) := ⟨fun w s => by
  obtain ⟨L0, hp⟩ := s.mem hm
  obtain ⟨es, clock, m, hb, h⟩ := (s.perm hp).map_
  unfold execOp
  simp [hx, hy, lookup_l (ok := true) ut.pf uk.pf (zero_run (P := P) (t := et) w) hb h, hq]⟩
theorem sv_look0 {α : Type} {R : MEnc α} {b : Nat} {l : List (Int × α)} {k : Int} {t kt et : TypeId} {x y : Operand} {zv : Value} {sz by_ : Nat} [ut : UL P t (.map kt et)] [uk : UL P kt (.int .i64)] [ti : TI P et zv sz by_] (hm : mapo R b l ∈ S) (hx : a.eval x = .map (some b)) (hy : a.eval y = .int .i64 k) (hq : posM k l 0 = none) :
    SV P W0 S ⟨d, .lookup t x y true, ty, pos, aft, gd⟩ a (.tuple #[zv, .bool false]) := ⟨fun w s => by
  obtain ⟨L0, hp⟩ := s.mem hm
  obtain ⟨es, clock, m, hb, h⟩ := (s.perm hp).map_
  unfold execOp
  simp [hx, hy, lookup_l (ok := true) ut.pf uk.pf (zero_run (P := P) (t := et) w) hb h, hq]⟩
theorem dy_put {α : Type} {R : MEnc α} {b i : Nat} {l : List (Int × α)} {k : Int} (el : α) {t kt et : TypeId} {x y z : Operand} [ut : UL P t (.map kt et)] [uk : UL P kt (.int .i64)] (hm : L[i]? = some (mapo R b l)) (hx : a.eval x = .map (some b)) (hy : a.eval y = .int .i64 k) (hz : a.eval z = R.val el) {Le : List HP} (hLe : L.eraseIdx i = Le) (he : ∀ m h, SepL m Le h → (R.im el).r m) :
    DY P W0 L ⟨d, .mapUpdate t x y z, ty, pos, aft, gd⟩ a fun a' L' => a.put d undef = a' ∧ L' = L.set i (mapo R b (putM k el l)) :=
  dy_skp fun w s => by
    have s1 := s.at_ hm
    obtain ⟨w', hr, hs⟩ := s1.map_put ut.pf uk.pf k el (by rw [hLe]; exact he)
    refine ⟨w', _, ?_, ⟨rfl, rfl⟩, hs.back hm⟩
    unfold execOp
    simp [hx, hy, hz, hr]
theorem dy_del {α : Type} {R : MEnc α} {b i : Nat} {l : List (Int × α)} {k : Int} {t kt et u : TypeId} {x y : Operand} [ut : UL P t (.map kt et)] [uk : UL P kt (.int .i64)] (hm : L[i]? = some (mapo R b l)) (hx : a.eval x = .map (some b)) (hy : a.eval y = .int .i64 k) :
    DY P W0 L ⟨d, .call { callee := .builtin .delete, args := #[x, y], argTypes := #[t, u] }, ty, pos, aft, gd⟩ a fun a' L' => a.put d (.tuple #[]) = a' ∧ L' = L.set i (mapo R b (delM k l)) :=
  dy_val fun w s => by
    obtain ⟨w', hr, hs⟩ := (s.at_ hm).map_del (u := u) (ty := ty) ut.pf uk.pf k
    refine ⟨_, w', _, ?_, ⟨rfl, rfl⟩, hs.back hm⟩
    unfold execOp
    simp only [resolve, invoke, builtin, Sem.run_bind, Sem.run_pure, Result.andThen_ok, List.map_toArray, List.map_cons, List.map_nil, hx, hy, hr]
theorem dy_mkmap {α : Type} (R : MEnc α) {t : TypeId} : DY P W0 L ⟨d, .makeMap t none, ty, pos, aft, gd⟩ a fun a' L' => ∃ b, a.put d (.map (some b)) = a' ∧ L' = mapo R b [] :: L :=
  dy_val fun w s => ⟨_, w.alloc (.map #[] 0), _, by unfold execOp; simp [Instr.makeMap, newObj, Sem.run], ⟨w.heap.size, rfl, rfl⟩, by
    refine (s.alloc (.map #[] 0)).imp fun m h hb => ⟨#[], 0, hb, trivial, List.Pairwise.nil, fun e he => by cases he⟩⟩
theorem mapo_imp {α : Type} {R : MEnc α} {b : Nat} {l : List (Int × α)} {k : Int} {q : Nat × α} (hm : mapo R b l ∈ L) (hq : posM k l 0 = some q) : Sub L (im (R.im q.2) :: L) := fun m h s => by
  obtain ⟨a, _, es, clock, _, ha, _⟩ := s.mem hm
  have hq2 : l[q.1]? = some (k, q.2) := by simpa using (posM_lt hq).2.2
  obtain ⟨e, _, he⟩ := ha.get hq2
  exact ⟨Hp.none, h, Hp.none_dj _, Hp.none_le _, Hp.le_refl _, he.2.2, s⟩
end
end Go.Proofs.Ytnjjifikogblpaa
namespace Go.Proofs.Ytnjjifikogblpaa
open Go Go.RowKit
set_option linter.unusedVariables false
set_option linter.unusedSimpArgs false
theorem posM_none {α : Type} {k : Int} : ∀ {l : List (Int × α)} {i : Nat}, posM k l i = none ↔ ∀ p ∈ l, p.1 ≠ k
  | [], _ => by simp [posM]
  | p :: l, i => by
    unfold posM
    split
    · rename_i h
      simp [h]
    · rename_i h
      rw [posM_none]
      simp only [List.mem_cons, forall_eq_or_imp]
      exact ⟨fun g => ⟨fun e => h e.symm, g⟩, fun g => g.2⟩
/-- the element at k -/
def getM {α : Type} (k : Int) (l : List (Int × α)) : Option α := (posM k l 0).map Prod.snd
theorem getM_some {α : Type} {k : Int} {x : α} {l : List (Int × α)} (h : getM k l = some x) : (k, x) ∈ l := by
  unfold getM at h
  cases hp : posM k l 0 with
  | none => rw [hp] at h; cases h
  | some q =>
    rw [hp] at h
    injection h with h
    subst h
    exact List.mem_of_getElem? (posM_lt hp).2.2
theorem getM_none {α : Type} {k : Int} {l : List (Int × α)} : getM k l = none ↔ ∀ p ∈ l, p.1 ≠ k := by
  unfold getM
  rw [Option.map_eq_none_iff, posM_none]
theorem putM_new {α : Type} {k : Int} {x : α} {l : List (Int × α)} (h : getM k l = none) : putM k x l = l ++ [(k, x)] := by
  unfold getM at h
  rw [Option.map_eq_none_iff] at h
  unfold putM
  rw [h]
end Go.Proofs.Ytnjjifikogblpaa
namespace Go.Proofs.Ytnjjifikogblpaa
set_option linter.unusedVariables false
set_option linter.unusedSimpArgs false
/-- a node whose things may be none -/
structure QPre (mm : List Ent) (k0 k1 k2 k3 : QT) (n : Nat) (E : List Ent) : Prop where
  mm : mm.Perm (E.filter (hereQ n))
  a : QOk k0 (n - 1) (E.filter (inQ n 0))
  b : QOk k1 (n - 1) (E.filter (inQ n 1))
  c : QOk k2 (n - 1) (E.filter (inQ n 2))
  d : QOk k3 (n - 1) (E.filter (inQ n 3))
theorem QPre.ok {p m : Nat} {mm : List Ent} {k0 k1 k2 k3 : QT} {n : Nat} {E : List Ent} (h : QPre mm k0 k1 k2 k3 n E) (hE : E ≠ []) : QOk (.nd p m mm k0 k1 k2 k3) n E := ⟨hE, h.mm, h.a, h.b, h.c, h.d⟩
theorem QOk.pre {p m : Nat} {mm : List Ent} {k0 k1 k2 k3 : QT} {n : Nat} {E : List Ent} (h : QOk (.nd p m mm k0 k1 k2 k3) n E) : QPre mm k0 k1 k2 k3 n E := ⟨h.2.1, h.2.2.1, h.2.2.2.1, h.2.2.2.2.1, h.2.2.2.2.2⟩
theorem QPre.nil (n : Nat) : QPre [] .nil .nil .nil .nil n [] := ⟨List.Perm.nil, rfl, rfl, rfl, rfl⟩
theorem QOk.nil {t : QT} {n : Nat} (h : QOk t n []) : t = .nil := by
  cases t with
  | nil => rfl
  | nd => exact absurd rfl h.1
theorem filt_yes {p : Ent → Bool} {E : List Ent} {e : Ent} (h : p e = true) : (E ++ [e]).filter p = E.filter p ++ [e] := by
  rw [List.filter_append, List.filter_cons_of_pos h]; rfl
theorem filt_no {p : Ent → Bool} {E : List Ent} {e : Ent} (h : ¬ p e = true) : (E ++ [e]).filter p = E.filter p := by
  rw [List.filter_append, List.filter_cons_of_neg h]; exact List.append_nil _
theorem QPre.here {p m : Nat} {mm : List Ent} {k0 k1 k2 k3 : QT} {n : Nat} {E : List Ent} {e : Ent} (h : QPre mm k0 k1 k2 k3 n E) (hl : lvB e.2.b = n) : QOk (.nd p m (mm ++ [e]) k0 k1 k2 k3) n (E ++ [e]) := by
  have h0 : ∀ q, ¬ inQ n q e = true := fun q hq => by have := (of_decide_eq_true hq).1; omega
  refine ⟨by simp, ?_, ?_, ?_, ?_, ?_⟩
  · rw [filt_yes (decide_eq_true hl)]
    exact h.mm.append_right [e]
  · rw [filt_no (h0 0)]; exact h.a
  · rw [filt_no (h0 1)]; exact h.b
  · rw [filt_no (h0 2)]; exact h.c
  · rw [filt_no (h0 3)]; exact h.d
def KidP (n q q' : Nat) (E : List Ent) (e : Ent) (k k' : QT) : Prop := if q = q' then QOk k' (n - 1) (E.filter (inQ n q) ++ [e]) else k' = k
theorem KidP.ok {n q q' : Nat} {E : List Ent} {e : Ent} {k k' : QT} (h : KidP n q q' E e k k') (hl : lvB e.2.b < n) (hq : qB e.2.b n = q') (hk : QOk k (n - 1) (E.filter (inQ n q))) : QOk k' (n - 1) ((E ++ [e]).filter (inQ n q)) := by
  unfold KidP at h
  by_cases hqq : q = q'
  · rw [if_pos hqq] at h
    rw [filt_yes (decide_eq_true ⟨hl, by omega⟩)]
    exact h
  · rw [if_neg hqq] at h
    rw [filt_no fun hx => hqq (by have := (of_decide_eq_true hx).2; omega), h]
    exact hk
theorem QPre.kid {p m : Nat} {mm : List Ent} {k0 k1 k2 k3 k0' k1' k2' k3' : QT} {n q : Nat} {E : List Ent} {e : Ent} (h : QPre mm k0 k1 k2 k3 n E) (hl : lvB e.2.b < n) (hq : qB e.2.b n = q)
    (h0 : KidP n 0 q E e k0 k0') (h1 : KidP n 1 q E e k1 k1') (h2 : KidP n 2 q E e k2 k2') (h3 : KidP n 3 q E e k3 k3') : QOk (.nd p m mm k0' k1' k2' k3') n (E ++ [e]) := by
  refine ⟨by simp, ?_, h0.ok hl hq h.a, h1.ok hl hq h.b, h2.ok hl hq h.c, h3.ok hl hq h.d⟩
  rw [filt_no fun hx => by have := of_decide_eq_true hx; omega]
  exact h.mm
/-- without what has this number -/
def delE (id : Int) (E : List Ent) : List Ent := E.filter fun a => decide (a.1 ≠ id)
theorem delE_filter {id : Int} {p : Ent → Bool} {E : List Ent} : (delE id E).filter p = delE id (E.filter p) := by
  unfold delE
  rw [List.filter_filter, List.filter_filter]
  congr 1
  funext a
  exact Bool.and_comm _ _
theorem delE_none {id : Int} {E : List Ent} (h : ∀ a ∈ E, a.1 ≠ id) : delE id E = E := List.filter_eq_self.2 fun a ha => decide_eq_true (h a ha)
def KeysU (E : List Ent) : Prop := (E.map Prod.fst).Nodup
theorem KeysU.filter {E : List Ent} (h : KeysU E) (p : Ent → Bool) : KeysU (E.filter p) := h.sublist (List.filter_sublist.map _)
theorem KeysU.one {E : List Ent} (h : KeysU E) {a e : Ent} (ha : a ∈ E) (he : e ∈ E) (hk : a.1 = e.1) : a = e := by
  induction E with
  | nil => cases ha
  | cons x E ih =>
    obtain ⟨h1, h2⟩ := List.nodup_cons.1 (show (x.1 :: E.map Prod.fst).Nodup from h)
    rcases List.mem_cons.1 ha with rfl | ha'
    · rcases List.mem_cons.1 he with rfl | he'
      · rfl
      · exact absurd (List.mem_map.2 ⟨e, he', hk.symm⟩) h1
    · rcases List.mem_cons.1 he with rfl | he'
      · exact absurd (List.mem_map.2 ⟨a, ha', hk⟩) h1
      · exact ih h2 ha' he'
theorem KeysU.perm {E E' : List Ent} (h : KeysU E) (p : E.Perm E') : KeysU E' := (p.map Prod.fst).nodup_iff.1 h
theorem delE_no {E : List Ent} (hu : KeysU E) {e : Ent} (he : e ∈ E) {p : Ent → Bool} (hp : ¬ p e = true) : (delE e.1 E).filter p = E.filter p := by
  rw [delE_filter]
  exact delE_none fun a ha hk => by
    obtain ⟨ha, hpa⟩ := List.mem_filter.1 ha
    rw [hu.one ha he hk] at hpa
    exact hp hpa
theorem QOk.del_here {p m : Nat} {mm mm' : List Ent} {k0 k1 k2 k3 : QT} {n : Nat} {E : List Ent} {e : Ent} (h : QOk (.nd p m mm k0 k1 k2 k3) n E) (hu : KeysU E) (he : e ∈ E) (hl : lvB e.2.b = n) (hm : mm' = delE e.1 mm) : QPre mm' k0 k1 k2 k3 n (delE e.1 E) := by
  have h0 : ∀ q, ¬ inQ n q e = true := fun q hq => by have := (of_decide_eq_true hq).1; omega
  obtain ⟨_, h1, h2, h3, h4, h5⟩ := h
  refine ⟨?_, ?_, ?_, ?_, ?_⟩
  · rw [delE_filter, hm]
    exact h1.filter _
  · rw [delE_no hu he (h0 0)]; exact h2
  · rw [delE_no hu he (h0 1)]; exact h3
  · rw [delE_no hu he (h0 2)]; exact h4
  · rw [delE_no hu he (h0 3)]; exact h5
def KidD (n q q' : Nat) (E : List Ent) (id : Int) (k k' : QT) : Prop := if q = q' then QOk k' (n - 1) (delE id (E.filter (inQ n q))) else k' = k
theorem KidD.ok {n q q' : Nat} {E : List Ent} {e : Ent} {k k' : QT} (h : KidD n q q' E e.1 k k') (hu : KeysU E) (he : e ∈ E) (hq : qB e.2.b n = q') (hk : QOk k (n - 1) (E.filter (inQ n q))) : QOk k' (n - 1) ((delE e.1 E).filter (inQ n q)) := by
  unfold KidD at h
  by_cases hqq : q = q'
  · rw [if_pos hqq] at h
    rw [delE_filter]
    exact h
  · rw [if_neg hqq] at h
    rw [delE_no hu he fun hx => hqq (by have := (of_decide_eq_true hx).2; omega), h]
    exact hk
theorem QOk.del_kid {p m : Nat} {mm : List Ent} {k0 k1 k2 k3 k0' k1' k2' k3' : QT} {n q : Nat} {E : List Ent} {e : Ent} (h : QOk (.nd p m mm k0 k1 k2 k3) n E) (hu : KeysU E) (he : e ∈ E) (hl : lvB e.2.b < n) (hq : qB e.2.b n = q)
    (h0 : KidD n 0 q E e.1 k0 k0') (h1 : KidD n 1 q E e.1 k1 k1') (h2 : KidD n 2 q E e.1 k2 k2') (h3 : KidD n 3 q E e.1 k3 k3') : QPre mm k0' k1' k2' k3' n (delE e.1 E) := by
  have h := h.pre
  refine ⟨?_, h0.ok hu he hq h.a, h1.ok hu he hq h.b, h2.ok hu he hq h.c, h3.ok hu he hq h.d⟩
  rw [delE_no hu he fun hx => by have := of_decide_eq_true hx; omega]
  exact h.mm
theorem QPre.empty {k0 k1 k2 k3 : QT} {mm : List Ent} {n : Nat} {E : List Ent} (h : QPre mm k0 k1 k2 k3 n E) (hm : mm = []) (h0 : k0 = .nil) (h1 : k1 = .nil) (h2 : k2 = .nil) (h3 : k3 = .nil) (hl : ∀ e ∈ E, lvB e.2.b ≤ n) : E = [] := by
  subst hm h0 h1 h2 h3
  have e1 := List.filter_eq_nil_iff.1 (List.Perm.nil_eq h.mm).symm
  have a1 := List.filter_eq_nil_iff.1 (show E.filter (inQ n 0) = [] from h.a)
  have a2 := List.filter_eq_nil_iff.1 (show E.filter (inQ n 1) = [] from h.b)
  have a3 := List.filter_eq_nil_iff.1 (show E.filter (inQ n 2) = [] from h.c)
  have a4 := List.filter_eq_nil_iff.1 (show E.filter (inQ n 3) = [] from h.d)
  refine List.eq_nil_iff_forall_not_mem.2 fun e he => ?_
  have h1 := hl e he
  have hq := qB_lt e.2.b n
  by_cases hn : lvB e.2.b = n
  · exact e1 e he (decide_eq_true hn)
  · rcases (show qB e.2.b n = 0 ∨ qB e.2.b n = 1 ∨ qB e.2.b n = 2 ∨ qB e.2.b n = 3 by omega) with h | h | h | h
    · exact a1 e he (decide_eq_true ⟨by omega, h⟩)
    · exact a2 e he (decide_eq_true ⟨by omega, h⟩)
    · exact a3 e he (decide_eq_true ⟨by omega, h⟩)
    · exact a4 e he (decide_eq_true ⟨by omega, h⟩)
theorem QPre.some {k0 k1 k2 k3 : QT} {mm : List Ent} {n : Nat} {E : List Ent} (h : QPre mm k0 k1 k2 k3 n E) (hm : ¬ (mm = [] ∧ k0 = .nil ∧ k1 = .nil ∧ k2 = .nil ∧ k3 = .nil)) : E ≠ [] := by
  intro hE
  subst hE
  exact hm ⟨List.Perm.eq_nil h.mm, QOk.nil h.a, QOk.nil h.b, QOk.nil h.c, QOk.nil h.d⟩
theorem delM_eq {id : Int} : ∀ {l : List Ent}, KeysU l → delM id l = delE id l := by
  intro l hu
  unfold delM
  cases hp : posM id l 0 with
  | none =>
    exact (delE_none fun a ha hk => by
      have := posM_none.1 hp a ha
      exact this hk).symm
  | some q =>
    obtain ⟨_, h2, h3⟩ := posM_lt hp
    rw [Nat.sub_zero] at h3
    rw [Nat.zero_add] at h2
    dsimp only
    have hmem := List.mem_of_getElem? h3
    have hs : l = l.take q.1 ++ (id, q.2) :: l.drop (q.1 + 1) := by
      conv => lhs; rw [← List.take_append_drop q.1 l, List.drop_eq_getElem_cons h2, (List.getElem?_eq_some_iff.1 h3).2]
    rw [List.eraseIdx_eq_take_drop_succ]
    unfold delE
    conv => rhs; rw [hs]
    have hu' := hu
    unfold KeysU at hu'
    rw [hs, List.map_append, List.map_cons] at hu'
    obtain ⟨g1, g2, g3⟩ := List.nodup_append.1 hu'
    obtain ⟨g4, g5⟩ := List.nodup_cons.1 g2
    rw [List.filter_append, List.filter_cons_of_neg (by simp), List.filter_eq_self.2, List.filter_eq_self.2]
    · intro a ha
      exact decide_eq_true fun hk => g4 (List.mem_map.2 ⟨a, ha, hk⟩)
    · intro a ha
      exact decide_eq_true fun hk => g3 a.1 (List.mem_map.2 ⟨a, ha, rfl⟩) id (.head _) hk
end Go.Proofs.Ytnjjifikogblpaa
namespace Go.Proofs.Ytnjjifikogblpaa
set_option linter.unusedVariables false
set_option linter.unusedSimpArgs false
/-- a block covers a point of a box -/
def covB (b : BX) (x : Blk) : Bool := decide (X0 b / 2 ^ x.1 ≤ x.2.1 ∧ x.2.1 ≤ X1 b / 2 ^ x.1 ∧ Y0 b / 2 ^ x.1 ≤ x.2.2 ∧ x.2.2 ≤ Y1 b / 2 ^ x.1)
def meetF (a b : BX) : Bool := decide (a.x0 ≤ b.x1 ∧ b.x0 ≤ a.x1 ∧ a.y0 ≤ b.y1 ∧ b.y0 ≤ a.y1)
def hitF (b : BX) (d : Int) (e : Ent) : Bool := decide (e.2.f ≤ d ∧ d ≤ e.2.t) && meetF e.2.b b
/-- how many blocks a search looks at -/
def visC (b : BX) : QT → Nat → Nat → Nat → Nat
  | .nil, _, _, _ => 0
  | .nd _ _ _ k0 k1 k2 k3, n, i, j => if covB b (n, i, j) = true then 1 + visC b k0 (n - 1) (2 * i) (2 * j) + visC b k1 (n - 1) (2 * i + 1) (2 * j) + visC b k2 (n - 1) (2 * i) (2 * j + 1) + visC b k3 (n - 1) (2 * i + 1) (2 * j + 1) else 0
/-- the blocks of a tree -/
def nodesT : QT → Nat → Nat → Nat → List Blk
  | .nil, _, _, _ => []
  | .nd _ _ _ k0 k1 k2 k3, n, i, j => (n, i, j) :: (nodesT k0 (n - 1) (2 * i) (2 * j) ++ nodesT k1 (n - 1) (2 * i + 1) (2 * j) ++ nodesT k2 (n - 1) (2 * i) (2 * j + 1) ++ nodesT k3 (n - 1) (2 * i + 1) (2 * j + 1))
theorem ne_of_inQ {n q : Nat} {E : List Ent} (h : E.filter (inQ n q) ≠ []) : 0 < n := by
  obtain ⟨e, he⟩ := List.exists_mem_of_ne_nil _ h
  have := (of_decide_eq_true (List.mem_filter.1 he).2).1
  omega
theorem QOk.ne {t : QT} {n q : Nat} {E : List Ent} (h : QOk t (n - 1) (E.filter (inQ n q))) : t = .nil ∨ 0 < n := by
  by_cases hE : E.filter (inQ n q) = []
  · rw [hE] at h
    exact .inl h.nil
  · exact .inr (ne_of_inQ hE)
theorem cov_par {b : BX} {n i j q : Nat} (hn : 0 < n) (h : covB b (n - 1, 2 * i + q % 2, 2 * j + q / 2) = true) (hq : q < 4) : covB b (n, i, j) = true := by
  obtain ⟨k, rfl⟩ : ∃ k, n = k + 1 := ⟨n - 1, by omega⟩
  obtain ⟨h1, h2, h3, h4⟩ := of_decide_eq_true h
  rw [Nat.add_sub_cancel] at h1 h2 h3 h4
  refine decide_eq_true ⟨?_, ?_, ?_, ?_⟩ <;> dsimp only at h1 h2 h3 h4 ⊢ <;> rw [div_pow_succ] <;> omega
/-- where a block does not cover, none below it does -/
theorem nodes_none {b : BX} : ∀ {t : QT} {n i j : Nat} {E : List Ent}, QOk t n E → covB b (n, i, j) = false → (nodesT t n i j).countP (covB b) = 0
  | .nil, _, _, _, _, _, _ => rfl
  | .nd _ _ _ k0 k1 k2 k3, n, i, j, E, h, hc => by
    have kid : ∀ {k : QT} {q : Nat} (ih : ∀ {n i j : Nat} {E : List Ent}, QOk k n E → covB b (n, i, j) = false → (nodesT k n i j).countP (covB b) = 0), q < 4 → QOk k (n - 1) (E.filter (inQ n q)) → (nodesT k (n - 1) (2 * i + q % 2) (2 * j + q / 2)).countP (covB b) = 0 := by
      intro k q ih hq hk
      rcases hk.ne with rfl | hn
      · rfl
      · refine ih hk ?_
        cases hcv : covB b (n - 1, 2 * i + q % 2, 2 * j + q / 2) with
        | false => rfl
        | true => rw [cov_par hn hcv hq] at hc; cases hc
    have h0 := kid (fun h c => nodes_none h c) (q := 0) (by omega) h.pre.a
    have h1 := kid (fun h c => nodes_none h c) (q := 1) (by omega) h.pre.b
    have h2 := kid (fun h c => nodes_none h c) (q := 2) (by omega) h.pre.c
    have h3 := kid (fun h c => nodes_none h c) (q := 3) (by omega) h.pre.d
    simp only [Nat.reduceMod, Nat.reduceDiv, Nat.add_zero] at h0 h1 h2 h3
    unfold nodesT
    rw [List.countP_cons_of_neg (by rw [hc]; decide), List.countP_append, List.countP_append, List.countP_append, h0, h1, h2, h3]
theorem visC_eq {b : BX} : ∀ {t : QT} {n i j : Nat} {E : List Ent}, QOk t n E → visC b t n i j = (nodesT t n i j).countP (covB b)
  | .nil, _, _, _, _, _ => rfl
  | .nd p m mm k0 k1 k2 k3, n, i, j, E, h => by
    cases hc : covB b (n, i, j) with
    | false =>
      rw [nodes_none h hc]
      unfold visC
      rw [if_neg (by rw [hc]; decide)]
    | true =>
      unfold visC nodesT
      rw [if_pos hc, List.countP_cons_of_pos hc, List.countP_append, List.countP_append, List.countP_append, visC_eq h.pre.a, visC_eq h.pre.b, visC_eq h.pre.c, visC_eq h.pre.d]
      omega
theorem qB_of {n i j q : Nat} {E : List Ent} {e : Ent} (h : e ∈ E.filter (inQ n q)) : qB e.2.b n = q ∧ lvB e.2.b < n ∧ e ∈ E := by
  obtain ⟨h1, h2⟩ := List.mem_filter.1 h
  obtain ⟨h3, h4⟩ := of_decide_eq_true h2
  exact ⟨h4, h3, h1⟩
/-- which blocks a tree has -/
theorem nodes_mem : ∀ {t : QT} {n i j : Nat} {E : List Ent}, QOk t n E → Under n i j E → ∀ x : Blk, x ∈ nodesT t n i j ↔ ∃ e ∈ E, lvB e.2.b ≤ x.1 ∧ x.1 ≤ n ∧ x.2 = blkB e.2.b x.1
  | .nil, _, _, _, E, h, _, x => by
    have h' : E = [] := h
    subst h'
    exact ⟨fun h => absurd h List.not_mem_nil, fun ⟨e, he, _⟩ => absurd he List.not_mem_nil⟩
  | .nd p m mm k0 k1 k2 k3, n, i, j, E, h, hu, x => by
    have i0 := nodes_mem h.pre.a (hu.kid (q := 0)) x
    have i1 := nodes_mem h.pre.b (hu.kid (q := 1)) x
    have i2 := nodes_mem h.pre.c (hu.kid (q := 2)) x
    have i3 := nodes_mem h.pre.d (hu.kid (q := 3)) x
    simp only [Nat.reduceMod, Nat.reduceDiv, Nat.add_zero] at i0 i1 i2 i3
    unfold nodesT
    rw [List.mem_cons, List.mem_append, List.mem_append, List.mem_append, i0, i1, i2, i3]
    have down : ∀ {q : Nat}, (∃ e ∈ E.filter (inQ n q), lvB e.2.b ≤ x.1 ∧ x.1 ≤ n - 1 ∧ x.2 = blkB e.2.b x.1) → ∃ e ∈ E, lvB e.2.b ≤ x.1 ∧ x.1 ≤ n ∧ x.2 = blkB e.2.b x.1 := fun ⟨e, he, h1, h2, h3⟩ => ⟨e, (List.mem_filter.1 he).1, h1, by omega, h3⟩
    constructor
    · rintro (rfl | ((hx | hx) | hx) | hx)
      · obtain ⟨e, he⟩ := List.exists_mem_of_ne_nil _ h.1
        exact ⟨e, he, (hu e he).2.1, Nat.le_refl _, (hu e he).2.2.symm⟩
      · exact down hx
      · exact down hx
      · exact down hx
      · exact down hx
    · rintro ⟨e, he, h1, h2, h3⟩
      rcases Nat.lt_or_ge x.1 n with hn | hn
      · have hq := qB_lt e.2.b n
        have hin : e ∈ E.filter (inQ n (qB e.2.b n)) := List.mem_filter.2 ⟨he, decide_eq_true ⟨by omega, rfl⟩⟩
        rcases (show qB e.2.b n = 0 ∨ qB e.2.b n = 1 ∨ qB e.2.b n = 2 ∨ qB e.2.b n = 3 by omega) with hk | hk | hk | hk <;> rw [hk] at hin
        · exact .inr (.inl (.inl (.inl ⟨e, hin, h1, by omega, h3⟩)))
        · exact .inr (.inl (.inl (.inr ⟨e, hin, h1, by omega, h3⟩)))
        · exact .inr (.inl (.inr ⟨e, hin, h1, by omega, h3⟩))
        · exact .inr (.inr ⟨e, hin, h1, by omega, h3⟩)
      · refine .inl ?_
        have hx : x.1 = n := by omega
        obtain ⟨a, c, d⟩ := x
        dsimp only at hx h3
        subst hx
        rw [h3, (hu e he).2.2]
theorem blk_q {a c : BX} {m n : Nat} (h : blkB a m = blkB c m) (hm : m ≤ n - 1) : qB a n = qB c n := by
  obtain ⟨k, hk⟩ : ∃ k, n - 1 = m + k := ⟨n - 1 - m, by omega⟩
  unfold blkB at h
  injection h with h1 h2
  unfold qB
  rw [hk, div_pow_add, div_pow_add, div_pow_add, div_pow_add, h1, h2]
theorem nodes_nodup : ∀ {t : QT} {n i j : Nat} {E : List Ent}, QOk t n E → Under n i j E → (nodesT t n i j).Nodup
  | .nil, _, _, _, _, _, _ => List.nodup_nil
  | .nd p m mm k0 k1 k2 k3, n, i, j, E, h, hu => by
    have i0 := nodes_mem h.pre.a (hu.kid (q := 0))
    have i1 := nodes_mem h.pre.b (hu.kid (q := 1))
    have i2 := nodes_mem h.pre.c (hu.kid (q := 2))
    have i3 := nodes_mem h.pre.d (hu.kid (q := 3))
    have n0 := nodes_nodup h.pre.a (hu.kid (q := 0))
    have n1 := nodes_nodup h.pre.b (hu.kid (q := 1))
    have n2 := nodes_nodup h.pre.c (hu.kid (q := 2))
    have n3 := nodes_nodup h.pre.d (hu.kid (q := 3))
    simp only [Nat.reduceMod, Nat.reduceDiv, Nat.add_zero] at i0 i1 i2 i3 n0 n1 n2 n3
    have lev : ∀ {q : Nat} {x : Blk}, (∃ e ∈ E.filter (inQ n q), lvB e.2.b ≤ x.1 ∧ x.1 ≤ n - 1 ∧ x.2 = blkB e.2.b x.1) → x.1 < n := fun ⟨e, he, h1, h2, h3⟩ => by
      have := (of_decide_eq_true (List.mem_filter.1 he).2).1
      omega
    have apart : ∀ {q q' : Nat} {x : Blk}, (∃ e ∈ E.filter (inQ n q), lvB e.2.b ≤ x.1 ∧ x.1 ≤ n - 1 ∧ x.2 = blkB e.2.b x.1) → (∃ e ∈ E.filter (inQ n q'), lvB e.2.b ≤ x.1 ∧ x.1 ≤ n - 1 ∧ x.2 = blkB e.2.b x.1) → q = q' := by
      rintro q q' x ⟨e, he, h1, h2, h3⟩ ⟨e', he', h1', h2', h3'⟩
      have g1 := (of_decide_eq_true (List.mem_filter.1 he).2).2
      have g2 := (of_decide_eq_true (List.mem_filter.1 he').2).2
      have g3 := blk_q (h3.symm.trans h3') h2
      omega
    unfold nodesT
    refine List.nodup_cons.2 ⟨fun hx => ?_, List.nodup_append.2 ⟨List.nodup_append.2 ⟨List.nodup_append.2 ⟨n0, n1, ?_⟩, n2, ?_⟩, n3, ?_⟩⟩
    · rw [List.mem_append, List.mem_append, List.mem_append, i0, i1, i2, i3] at hx
      have : (n, i, j).1 < n := by
        rcases hx with ((hx | hx) | hx) | hx
        · exact lev hx
        · exact lev hx
        · exact lev hx
        · exact lev hx
      exact Nat.lt_irrefl _ this
    · rintro x hx _ hy rfl
      have := apart ((i0 x).1 hx) ((i1 x).1 hy)
      omega
    · rintro x hx _ hy rfl
      rcases List.mem_append.1 hx with hx | hx
      · have := apart ((i0 x).1 hx) ((i2 x).1 hy); omega
      · have := apart ((i1 x).1 hx) ((i2 x).1 hy); omega
    · rintro x hx _ hy rfl
      rcases List.mem_append.1 hx with hx | hx
      · rcases List.mem_append.1 hx with hx | hx
        · have := apart ((i0 x).1 hx) ((i3 x).1 hy); omega
        · have := apart ((i1 x).1 hx) ((i3 x).1 hy); omega
      · have := apart ((i2 x).1 hx) ((i3 x).1 hy); omega
/-! ### the reference's list of blocks -/
def addB (out : List Blk) (x : Blk) : List Blk := if x ∈ out then out else out ++ [x]
def ancs (b : BX) : List Blk := (List.range (33 - lvB b)).map fun k => (lvB b + k, blkB b (lvB b + k))
def blkL (l : List Ent) : List Blk := l.foldl (fun out e => (ancs e.2.b).foldl addB out) []
def lookF (l : List Ent) (b : BX) : Nat := (blkL l).countP (covB b)
theorem addB_mem {out : List Blk} {x y : Blk} : y ∈ addB out x ↔ y ∈ out ∨ y = x := by
  unfold addB
  split
  · rename_i h
    exact ⟨.inl, fun h' => h'.elim id fun e => e ▸ h⟩
  · rw [List.mem_append, List.mem_singleton]
theorem addB_nodup {out : List Blk} {x : Blk} (h : out.Nodup) : (addB out x).Nodup := by
  unfold addB
  split
  · exact h
  · rename_i hx
    refine List.nodup_append.2 ⟨h, List.pairwise_singleton _ _, ?_⟩
    rintro y hy _ hz rfl
    rw [List.mem_singleton] at hz
    subst hz
    exact hx hy
theorem adds_mem {y : Blk} : ∀ {xs out : List Blk}, y ∈ xs.foldl addB out ↔ y ∈ out ∨ y ∈ xs
  | [], out => by simp
  | x :: xs, out => by
    rw [List.foldl_cons, adds_mem, addB_mem, List.mem_cons, or_assoc]
theorem adds_nodup : ∀ {xs out : List Blk}, out.Nodup → (xs.foldl addB out).Nodup
  | [], _, h => h
  | x :: xs, out, h => adds_nodup (xs := xs) (addB_nodup h)
theorem blks_mem {y : Blk} : ∀ {l : List Ent} {out : List Blk}, y ∈ l.foldl (fun out e => (ancs e.2.b).foldl addB out) out ↔ y ∈ out ∨ ∃ e ∈ l, y ∈ ancs e.2.b
  | [], out => by simp
  | x :: xs, out => by
    rw [List.foldl_cons, blks_mem, adds_mem]
    simp only [List.mem_cons, exists_eq_or_imp, or_assoc]
theorem blks_nodup : ∀ {l : List Ent} {out : List Blk}, out.Nodup → (l.foldl (fun out e => (ancs e.2.b).foldl addB out) out).Nodup
  | [], _, h => h
  | x :: xs, out, h => blks_nodup (l := xs) (adds_nodup h)
theorem ancs_mem {b : BX} {x : Blk} : x ∈ ancs b ↔ lvB b ≤ x.1 ∧ x.1 ≤ 32 ∧ x.2 = blkB b x.1 := by
  have hl := lv_le b
  unfold ancs
  rw [List.mem_map]
  constructor
  · rintro ⟨k, hk, rfl⟩
    have := List.mem_range.1 hk
    exact ⟨Nat.le_add_right _ _, by dsimp only; omega, rfl⟩
  · rintro ⟨h1, h2, h3⟩
    refine ⟨x.1 - lvB b, List.mem_range.2 (by omega), ?_⟩
    obtain ⟨a, c⟩ := x
    dsimp only at h1 h2 h3 ⊢
    rw [show lvB b + (a - lvB b) = a by omega, h3]
theorem blkL_mem {l : List Ent} {x : Blk} : x ∈ blkL l ↔ ∃ e ∈ l, lvB e.2.b ≤ x.1 ∧ x.1 ≤ 32 ∧ x.2 = blkB e.2.b x.1 := by
  unfold blkL
  rw [blks_mem]
  simp only [List.not_mem_nil, false_or, ancs_mem]
theorem blkL_nodup {l : List Ent} : (blkL l).Nodup := blks_nodup List.nodup_nil
theorem under_top {l : List Ent} (h : ∀ e ∈ l, e.2.b.good) : Under 32 0 0 l := fun e he => by
  have hg := h e he
  obtain ⟨_, _, _, _, h1, h2, h3, h4⟩ := hg.nums
  refine ⟨hg, lv_le _, ?_⟩
  unfold blkB
  rw [Nat.div_eq_of_lt (by omega), Nat.div_eq_of_lt (by omega)]
/-- a search looks at as many blocks as the reference counts -/
theorem vis_look {t : QT} {l : List Ent} {b : BX} (h : QOk t 32 l) (hg : ∀ e ∈ l, e.2.b.good) : visC b t 32 0 0 = lookF l b := by
  rw [visC_eq h]
  refine List.Perm.countP_eq _ ((List.perm_ext_iff_of_nodup (nodes_nodup h (under_top hg)) blkL_nodup).2 fun x => ?_)
  rw [nodes_mem h (under_top hg), blkL_mem]
theorem lookF_perm {l l' : List Ent} {b : BX} (h : l.Perm l') : lookF l b = lookF l' b := by
  refine List.Perm.countP_eq _ ((List.perm_ext_iff_of_nodup blkL_nodup blkL_nodup).2 fun x => ?_)
  rw [blkL_mem, blkL_mem]
  exact ⟨fun ⟨e, he, h1⟩ => ⟨e, h.mem_iff.1 he, h1⟩, fun ⟨e, he, h1⟩ => ⟨e, h.mem_iff.2 he, h1⟩⟩
/-- a block that does not cover has nothing that meets -/
theorem cov_meet {n i j : Nat} {b : BX} {e : Ent} (hb : b.good) (hg : e.2.b.good) (hl : lvB e.2.b ≤ n) (hk : blkB e.2.b n = (i, j)) (hm : meetF e.2.b b = true) : covB b (n, i, j) = true := by
  obtain ⟨g1, g2, g3, g4, _⟩ := hg.nums
  obtain ⟨b1, b2, b3, b4, _⟩ := hb.nums
  obtain ⟨m1, m2, m3, m4⟩ := of_decide_eq_true hm
  obtain ⟨s1, s2⟩ := of_decide_eq_true (same_le hl (lv_same hg))
  unfold blkB at hk
  injection hk with k1 k2
  refine decide_eq_true ⟨?_, ?_, ?_, ?_⟩ <;> dsimp only
  · rw [← k1, s1]; exact Nat.div_le_div_right (by omega)
  · rw [← k1]; exact Nat.div_le_div_right (by omega)
  · rw [← k2, s2]; exact Nat.div_le_div_right (by omega)
  · rw [← k2]; exact Nat.div_le_div_right (by omega)
end Go.Proofs.Ytnjjifikogblpaa
