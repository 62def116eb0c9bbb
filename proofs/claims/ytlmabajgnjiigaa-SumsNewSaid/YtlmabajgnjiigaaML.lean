/-
  Maps whose entry is made ready and then written (m[k] op= v, m[k] = append(m[k], ..)). No program.
-/
import Derived.Test.YtlmabajgnjiigaaMK
import Derived.Test.YtlmabajgnjiigaaMJ
import Derived.Test.YtlmabajgnjiigaaMC
namespace Go.Proofs.Ytlmabajgnjiigaa
open Go Go.RowKit Go.Instr
set_option linter.unusedVariables false
set_option linter.unusedSimpArgs false
/-- a map with the entry of k made ready under the stamp st -/
def mape {κ α : Type} [DecidableEq κ] (K : κ → Value) (R : MEnc α) (b : Nat) (l : List (κ × α)) (k : κ) (st : Nat) : HP :=
  ⟨fun m h => ∃ es clock, h b = some (.map es clock) ∧ All2 (entX K R m) l es.toList ∧ es.toList.Pairwise (fun x y => x.born < y.born) ∧ (∀ e ∈ es.toList, e.born < clock) ∧ ∃ q e, posX k l 0 = some q ∧ es[q.1]? = some e ∧ e.born = st,
   fun hm ⟨es, clock, h1, h2, h3, h4, h5⟩ => ⟨es, clock, h1, h2.imp fun _ _ => entX.mono hm, h3, h4, h5⟩⟩
/-- what making ready does to the list -/
def ensX {κ α : Type} [DecidableEq κ] (k : κ) (z : α) (l : List (κ × α)) : List (κ × α) := match posX k l 0 with
  | some _ => l
  | none => l ++ [(k, z)]
/-- what a key gives, no more of the map -/
def mapz {κ α : Type} [DecidableEq κ] (K : κ → Value) (R : MEnc α) (b : Nat) (k : κ) (z x : α) : HP :=
  ⟨fun m h => ∃ es clock l, h b = some (.map es clock) ∧ All2 (entX K R m) l es.toList ∧ (gvX k l).getD z = x,
   fun hm ⟨es, clock, l, h1, h2, h3⟩ => ⟨es, clock, l, h1, h2.imp fun _ _ => entX.mono hm, h3⟩⟩
section
variable {κ α : Type} [DecidableEq κ]
theorem posX_append {k : κ} {l2 : List (κ × α)} : ∀ {l : List (κ × α)} {i : Nat}, posX k l i = none → posX k (l ++ l2) i = posX k l2 (i + l.length)
  | [], i, _ => rfl
  | p :: l, i, h => by
    unfold posX at h
    split at h
    · cases h
    · rename_i hk
      rw [List.cons_append]
      conv => lhs; unfold posX
      rw [if_neg hk, posX_append h, List.length_cons]
      congr 1
      omega
theorem posX_one {k : κ} {z : α} {i : Nat} : posX k [(k, z)] i = some (i, z) := by
  unfold posX
  rw [if_pos rfl]
theorem ensX_pos {k : κ} {z : α} {l : List (κ × α)} : ∃ q, posX k (ensX k z l) 0 = some q ∧ q.2 = (gvX k l).getD z := by
  unfold ensX gvX
  cases h : posX k l 0 with
  | some q => exact ⟨q, h, rfl⟩
  | none => exact ⟨(0 + l.length, z), by rw [posX_append h, posX_one], rfl⟩
theorem ensX_gv {k k' : κ} {z : α} {l : List (κ × α)} : (gvX k' (ensX k z l)).getD z = (gvX k' l).getD z := by
  unfold ensX
  cases h : posX k l 0 with
  | some q => rfl
  | none =>
    show (gvX k' (l ++ [(k, z)])).getD z = _
    unfold gvX
    cases h' : posX k' l 0 with
    | some q =>
      have : ∀ {l : List (κ × α)} {i : Nat} {q}, posX k' l i = some q → posX k' (l ++ [(k, z)]) i = some q := by
        intro l
        induction l with
        | nil => intro i q h; cases h
        | cons p l ih =>
          intro i q h
          rw [List.cons_append]
          unfold posX at h ⊢
          split
          · rename_i hk; rw [if_pos hk] at h; exact h
          · rename_i hk; rw [if_neg hk] at h; exact ih h
      rw [this h']
    | none =>
      rw [posX_append h']
      unfold posX
      split
      · rfl
      · rfl
theorem putX_ens {k : κ} {x z : α} {l : List (κ × α)} : putX k x (ensX k z l) = putX k x l := by
  unfold ensX
  cases h : posX k l 0 with
  | some q => rfl
  | none =>
    show putX k x (l ++ [(k, z)]) = _
    unfold putX
    rw [posX_append h, posX_one, h]
    dsimp only
    rw [Nat.zero_add, List.set_append_right _ _ (Nat.le_refl _), Nat.sub_self]
    rfl
end
theorem findIdx_born1 {es : List MapEntry} (hn : es.Pairwise (fun x y => x.born < y.born)) {p : Nat} {e : MapEntry} (h : es[p]? = some e) : es.findIdx? (fun x => ((x.born : Nat) : Int) == ((e.born : Nat) : Int)) = some p := by
  obtain ⟨hp, rfl⟩ := List.getElem?_eq_some_iff.1 h
  refine List.findIdx?_eq_some_iff_getElem.2 ⟨hp, by simp, fun j hj => ?_⟩
  have := List.pairwise_iff_getElem.1 hn j p (by omega) hp hj
  simp
  omega
section
variable {P : Program} {W0 w : World} {L : List HP}
theorem ment_x {κ α : Type} [DecidableEq κ] {K : κ → Value} {R : MEnc α} {m : Hp} {k : κ} {l : List (κ × α)} {es : Array MapEntry} {clock : Nat} {t kt et : TypeId} {b : Nat} {z : α} (ht : P.underlying t = some (.map kt et)) [hk : KI P K kt] (hz : (zeroValue et).run P w = .ok (R.val z) w)
    (hb : w.heap[b]? = some (.map es clock)) (h : All2 (entX K R m) l es.toList) :
    (mapEntry t (.map (some b)) (K k)).run P w = .ok (.tuple #[R.val ((gvX k l).getD z), goInt (match posX k l 0 with | some q => ((es[q.1]?.map (·.born)).getD 0 : Nat) | none => clock : Nat)]) { w with heap := w.heap.setIfInBounds b (match posX k l 0 with
      | some q => .map (es.modify q.1 fun e => { e with key := K k }) clock
      | none => .map (es.push { key := K k, val := R.val z, born := clock }) (clock + 1)) } := by
  unfold mapEntry gvX
  simp only [Sem.run_bind, run_underlying ht, Result.andThen_ok, MapKept.run_getObj_map hb, Sem.run_pure, hk.chk, findKey_x h]
  cases hp : posX k l 0 with
  | none =>
    simp only [Option.map_none, hz, Sem.run_bind, Result.andThen_ok, MapKept.run_setObj_map _ hb, Sem.run_pure]
    rfl
  | some q =>
    have hq := posX_lt hp
    have hq2 : l[q.1]? = some (k, q.2) := by simpa using hq.2.2
    obtain ⟨e, he, hke, _⟩ := h.get hq2
    have he' : es[q.1]? = some e := by simpa using he
    simp only [Option.map_some, he', Option.getD_some, hke, keyThatStays, hk.same k, if_true, Sem.run_pure, Sem.run_bind, Result.andThen_ok, MapKept.run_setObj_map _ hb]
theorem mest_x {es : Array MapEntry} {clock : Nat} {t : TypeId} {b p : Nat} {e : MapEntry} {v : Value} (hb : w.heap[b]? = some (.map es clock)) (hn : es.toList.Pairwise (fun x y => x.born < y.born)) (he : es[p]? = some e) :
    (entryStore t (.map (some b)) (.int .i64 (e.born : Int)) v).run P w = .ok () { w with heap := w.heap.setIfInBounds b (.map (es.modify p fun e => { e with val := v }) clock) } := by
  have h1 : es.findIdx? (fun x => ((x.born : Nat) : Int) == ((e.born : Nat) : Int)) = some p := by
    have : es.findIdx? (fun x => ((x.born : Nat) : Int) == ((e.born : Nat) : Int)) = es.toList.findIdx? (fun x => ((x.born : Nat) : Int) == ((e.born : Nat) : Int)) := by
      cases es
      simp
    rw [this]
    exact findIdx_born1 hn (by simpa using he)
  unfold entryStore
  simp [MapKept.run_getObj_map hb, asInt, asIntOf, h1, MapKept.run_setObj_map _ hb, Result.andThen]
theorem St.mapx_turnE {κ α : Type} [DecidableEq κ] {K : κ → Value} {R : MEnc α} {b : Nat} {l : List (κ × α)} {A B : HP} (s : St W0 w (A :: L)) (hA : ∀ m h, A.p m h → ∃ es clock, h b = some (.map es clock)) {es : Array MapEntry} {clock : Nat} (hb : w.heap[b]? = some (.map es clock)) (es' : Array MapEntry) (clock' : Nat)
    (h1 : ∀ m h a, SepL m L h → A.p m a → a b = some (.map es clock) → ∀ a', a' b = some (.map es' clock') → B.p m a') :
    St W0 { w with heap := w.heap.setIfInBounds b (.map es' clock') } (B :: L) := by
  obtain ⟨m, a, c, hAa, hL, hm, ha, hc, d, g⟩ := s.lay
  obtain ⟨es0, clock0, g1⟩ := hA m a hAa
  have e1 : w.heap[b]? = some (.map es0 clock0) := ha _ _ g1
  rw [hb] at e1
  injection e1 with e1
  injection e1 with e1 e2
  subst e1 e2
  have hlt : b < w.heap.size := (Array.getElem?_eq_some_iff.1 hb).1
  refine g (a' := fun k => if k = b then some (.map es' clock') else a k) rfl rfl rfl (by simp) (h1 m c a hL hAa g1 _ (by simp)) ?_ ?_ hL
  · intro k o e
    show ({ w with heap := w.heap.setIfInBounds b (.map es' clock') } : World).heap[k]? = some o
    dsimp only at e ⊢
    by_cases hk : k = b
    · subst hk
      rw [if_pos rfl] at e
      rw [Array.getElem?_setIfInBounds_self_of_lt hlt]
      exact e
    · rw [if_neg hk] at e
      rw [Array.getElem?_setIfInBounds_ne (fun h => hk h.symm)]
      exact ha _ _ e
  · intro k hk hn
    have hne : k ≠ b := by
      intro e
      subst e
      rw [hn] at g1
      cases g1
    exact ⟨Array.getElem?_setIfInBounds_ne (fun h => hne h.symm), by rw [if_neg hne]; exact hn⟩
theorem St.mapx_ent {κ α : Type} [DecidableEq κ] {K : κ → Value} {R : MEnc α} {b : Nat} {l : List (κ × α)} (s : St W0 w (mapx K R b l :: L)) {t kt et : TypeId} (ht : P.underlying t = some (.map kt et)) [hk : KI P K kt] (k : κ) (z : α) (hz : ∀ w, (zeroValue et).run P w = .ok (R.val z) w) (hx : ∀ m h, SepL m L h → (R.im z).r m) :
    ∃ st w', (mapEntry t (.map (some b)) (K k)).run P w = .ok (.tuple #[R.val ((gvX k l).getD z), .int .i64 ((st : Nat) : Int)]) w' ∧ St W0 w' (mape K R b (ensX k z l) k st :: L) := by
  obtain ⟨es, clock, m, hb, h⟩ := s.mapx_
  have hr := ment_x (k := k) ht (hz w) hb h
  cases hp : posX k l 0 with
  | none =>
    rw [hp] at hr
    refine ⟨_, _, hr, ?_⟩
    refine s.mapx_turnE (K := K) (R := R) (l := l) (fun m h ⟨es, clock, h1, _⟩ => ⟨es, clock, h1⟩) hb _ _ ?_
    intro m h a hL hA ha a' ha'
    obtain ⟨es1, clock1, g1, g2, g3, g4⟩ := hA
    rw [ha] at g1
    injection g1 with g1
    injection g1 with g1 g5
    subst g1 g5
    unfold ensX
    rw [hp]
    have hlen : l.length = es.size := by
      have := g2.length
      simpa using this
    refine ⟨_, _, ha', ?_, ?_, ?_, (l.length, z), ⟨K k, R.val z, clock⟩, by rw [posX_append hp, posX_one, Nat.zero_add], ?_, rfl⟩
    · rw [Array.toList_push]
      exact g2.append ⟨⟨rfl, rfl, hx m h hL⟩, trivial⟩
    · rw [Array.toList_push]
      refine List.pairwise_append.2 ⟨g3, List.pairwise_singleton _ _, fun a ha c hc => ?_⟩
      simp only [List.mem_cons, List.not_mem_nil, or_false] at hc
      subst hc
      exact g4 a ha
    · rw [Array.toList_push]
      intro e he
      rcases List.mem_append.1 he with he | he
      · exact Nat.lt_succ_of_lt (g4 e he)
      · simp only [List.mem_cons, List.not_mem_nil, or_false] at he
        subst he
        exact Nat.lt_succ_self _
    · rw [hlen]
      simp
  | some q =>
    have hq2 : l[q.1]? = some (k, q.2) := by simpa using (posX_lt hp).2.2
    obtain ⟨e, he, hke, hke2, hke3⟩ := h.get hq2
    have he' : es[q.1]? = some e := by simpa using he
    have hem : (es.modify q.1 fun e => { e with key := K k }).toList = es.toList.modify q.1 fun e => { e with key := K k } := by simp
    have hsame : es.modify q.1 (fun e => { e with key := K k }) = es := by
      apply Array.ext'
      rw [hem]
      refine List.ext_getElem? fun i => ?_
      rw [List.getElem?_modify]
      by_cases hi : q.1 = i
      · subst hi
        rw [he]
        simp only [if_true]
        show some _ = some e
        rw [← hke]
      · simp [hi]
    rw [hp] at hr
    dsimp only at hr
    rw [hsame, he'] at hr
    refine ⟨_, _, hr, ?_⟩
    refine s.mapx_turnE (K := K) (R := R) (l := l) (fun m h ⟨es, clock, h1, _⟩ => ⟨es, clock, h1⟩) hb _ _ ?_
    intro m h a hL hA ha a' ha'
    obtain ⟨es1, clock1, g1, g2, g3, g4⟩ := hA
    rw [ha] at g1
    injection g1 with g1
    injection g1 with g1 g5
    subst g1 g5
    unfold ensX
    rw [hp]
    exact ⟨_, _, ha', g2, g3, g4, q, e, hp, he', rfl⟩
theorem St.mapx_est {κ α : Type} [DecidableEq κ] {K : κ → Value} {R : MEnc α} {b st : Nat} {l : List (κ × α)} {t : TypeId} {k : κ} (s : St W0 w (mape K R b l k st :: L)) (x : α) (hx : ∀ m h, SepL m L h → (R.im x).r m) :
    ∃ w', (entryStore t (.map (some b)) (.int .i64 (st : Int)) (R.val x)).run P w = .ok () w' ∧ St W0 w' (mapx K R b (putX k x l) :: L) := by
  obtain ⟨m, a, _, ⟨es, clock, h1, h2, h3, h4, q, e, h5, h6, h7⟩, _, _, ha, _⟩ := s.lay
  have hb : w.heap[b]? = some (.map es clock) := ha _ _ h1
  subst h7
  refine ⟨_, mest_x hb h3 h6, ?_⟩
  refine s.mapx_turnE (K := K) (R := R) (l := l) (fun m h ⟨es, clock, h1, _⟩ => ⟨es, clock, h1⟩) hb _ _ ?_
  intro m h a hL hA ha a' ha'
  obtain ⟨es1, clock1, g1, g2, g3, g4, _⟩ := hA
  rw [ha] at g1
  injection g1 with g1
  injection g1 with g1 g5
  subst g1 g5
  have hem : (es.modify q.1 fun e => { e with val := R.val x }).toList = es.toList.modify q.1 fun e => { e with val := R.val x } := by simp
  have hbn := born_modx (f := fun e : MapEntry => { e with val := R.val x }) (fun _ => rfl) es.toList q.1
  refine ⟨_, _, ha', ?_, ?_, ?_⟩
  · rw [hem]
    unfold putX
    rw [h5]
    have hq2 : l[q.1]? = some (k, q.2) := by simpa using (posX_lt h5).2.2
    obtain ⟨e2, he2, hke, _⟩ := g2.get hq2
    exact g2.modX q.1 (fun e3 he3 => by
      rw [he2] at he3
      injection he3 with he3
      subst he3
      exact ⟨hke, rfl, hx m h hL⟩)
  · rw [hem]
    have p1 : (es.toList.map MapEntry.born).Pairwise (· < ·) := List.pairwise_map.2 g3
    rw [← hbn] at p1
    exact List.pairwise_map.1 p1
  · rw [hem]
    intro y hy
    have h1 : y.born ∈ (es.toList.modify q.1 fun e => { e with val := R.val x }).map MapEntry.born := List.mem_map.2 ⟨y, hy, rfl⟩
    rw [hbn] at h1
    obtain ⟨z, hz, hzb⟩ := List.mem_map.1 h1
    rw [← hzb]
    exact g4 z hz
/-! ### the operations, for the walk -/
variable {a : Act} {d : Option Tmp} {ty : TypeId} {pos : String} {aft : Array Edge} {gd : Option (Nat × Bool)} {S : List HP}
theorem dy_ment {κ α : Type} [DecidableEq κ] {K : κ → Value} {R : MEnc α} {b i : Nat} {l : List (κ × α)} {k : κ} (z : α) {t kt et : TypeId} {x y : Operand} {zv : Value} {sz by_ : Nat} [ut : UL P t (.map kt et)] [uk : KI P K kt] [ti : TI P et zv sz by_] (hm : L[i]? = some (mapx K R b l)) (hx : a.eval x = .map (some b)) (hy : a.eval y = K k) (hz : R.val z = zv) {Le : List HP} (hLe : L.eraseIdx i = Le) (he : ∀ m h, SepL m Le h → (R.im z).r m) :
    DY P W0 L ⟨d, .mapEntry t x y, ty, pos, aft, gd⟩ a fun a' L' => ∃ st : Nat, a.put d (.tuple #[R.val ((gvX k l).getD z), .int .i64 (st : Int)]) = a' ∧ L' = L.set i (mape K R b (ensX k z l) k st) :=
  dy_val fun w s => by
    have s1 := s.at_ hm
    obtain ⟨st, w', hr, hs⟩ := s1.mapx_ent (P := P) ut.pf k z (fun w => by rw [hz]; exact zero_run (P := P) (t := et) w) (by rw [hLe]; exact he)
    refine ⟨_, w', _, ?_, ⟨st, rfl, rfl⟩, hs.back hm⟩
    unfold execOp
    simp [hx, hy, hr]
theorem dy_mest {κ α : Type} [DecidableEq κ] {K : κ → Value} {R : MEnc α} {b st i : Nat} {l : List (κ × α)} {k : κ} (el : α) {t : TypeId} {x y z : Operand} (hm : L[i]? = some (mape K R b l k st)) (hx : a.eval x = .map (some b)) (hy : a.eval y = .int .i64 (st : Int)) (hz : a.eval z = R.val el) {Le : List HP} (hLe : L.eraseIdx i = Le) (he : ∀ m h, SepL m Le h → (R.im el).r m) :
    DY P W0 L ⟨d, .entryStore t x y z, ty, pos, aft, gd⟩ a fun a' L' => a.put d undef = a' ∧ L' = L.set i (mapx K R b (putX k el l)) :=
  dy_skp fun w s => by
    have s1 := s.at_ hm
    obtain ⟨w', hr, hs⟩ := s1.mapx_est (P := P) (t := t) el (by rw [hLe]; exact he)
    refine ⟨w', _, ?_, ⟨rfl, rfl⟩, hs.back hm⟩
    unfold execOp
    simp [hx, hy, hz, hr]
theorem sub_mapz {κ α : Type} [DecidableEq κ] {K : κ → Value} {R : MEnc α} {b : Nat} {l : List (κ × α)} {k : κ} {z : α} : Sub (mapx K R b l :: L) (mapz K R b k z ((gvX k l).getD z) :: L) := fun m h s => by
  obtain ⟨x, y, d, hx, hy, ⟨es, clock, h1, h2, _⟩, hL⟩ := s
  exact ⟨x, y, d, hx, hy, ⟨es, clock, l, h1, h2, rfl⟩, hL⟩
theorem sub_mapz2 {κ α : Type} [DecidableEq κ] {K : κ → Value} {R : MEnc α} {b st : Nat} {l : List (κ × α)} {k k' : κ} {z : α} : Sub (mape K R b (ensX k z l) k' st :: L) (mapz K R b k z ((gvX k l).getD z) :: L) := fun m h s => by
  obtain ⟨x, y, d, hx, hy, ⟨es, clock, h1, h2, _⟩, hL⟩ := s
  exact ⟨x, y, d, hx, hy, ⟨es, clock, _, h1, h2, ensX_gv⟩, hL⟩
theorem sv_lookz {κ α : Type} [DecidableEq κ] {K : κ → Value} {R : MEnc α} {b : Nat} {k : κ} {z v : α} {t kt et : TypeId} {x y : Operand} {sz by_ : Nat} [ut : UL P t (.map kt et)] [uk : KI P K kt] {zv : Value} [ti : TI P et zv sz by_] (hm : mapz K R b k z v ∈ S) (hx : a.eval x = .map (some b)) (hy : a.eval y = K k) (hz : R.val z = zv) :
    SV P W0 S ⟨d, .lookup t x y false, ty, pos, aft, gd⟩ a (R.val v) := ⟨fun w s => by
  obtain ⟨L0, hp⟩ := s.mem hm
  obtain ⟨m, a1, _, ⟨es, clock, l, h1, h2, h3⟩, _, _, ha, _⟩ := (s.perm hp).lay
  have hb : w.heap[b]? = some (.map es clock) := ha _ _ h1
  subst h3
  unfold execOp gvX
  simp [hx, hy, lookup_x (ok := false) ut.pf (zero_run (P := P) (t := et) w) hb h2, Option.map_map, ← hz]
  cases posX k l 0 <;> rfl⟩
end
end Go.Proofs.Ytlmabajgnjiigaa
namespace Go.Proofs.Ytlmabajgnjiigaa
open Go Go.RowKit
set_option linter.unusedVariables false
set_option linter.unusedSimpArgs false
section
variable {P : Program} {ops : Array Oper} {Q : Exit → Act → World → Prop} {rest : List Oper} {o : Oper} {a : Act} {W0 w : World} {L : List HP}
/-- An iterator's promise: it hands over ys one by one, each at some k, with what then holds. E: what it needs, and leaves. -/
def GivesR {β κ : Type} (P : Program) (gf : FuncId) (lb : Array Value) (arg : β → κ → Array Value) (hs : β → κ → List HP) (ys : List β) (E : List HP) : Prop :=
  ∀ (l : Nat) (W0 : World) (J : List β → HP),
    (∀ pre y post k W, ys = pre ++ y :: post → St W0 W (hs y k ++ (J pre :: E)) → Yields P l (arg y k) W fun e W' => e = .returned (.bool true) ∧ St W0 W' (J (pre ++ [y]) :: E)) →
    CT P gf (#[.func (.yield l) #[] #[]] ++ lb) W0 (J [] :: E) fun r L' => L' = J ys :: E
theorem C_rangeR {β κ : Type} {g : Operand} {ps : Array Tmp} {assign body : Code} {gf : FuncId} {lb : Array Value} (hg : a.eval g = .func (.func gf) #[] lb) (eg : Enters P gf)
    {arg : β → κ → Array Value} {hs : β → κ → List HP} {ys : List β} {E : List HP} (hit : GivesR P gf lb arg hs ys E) (hps : ∀ y k, (arg y k).size = ps.size) (I : List β → List HP) (hL : Sub L (I [] ++ E))
    (hbody : ∀ (l D : Nat) (rec : Obj) (pre : List β) (y : β) (post : List β) (k : κ), ys = pre ++ y :: post →
      ∃ a₁, (∀ W K, K a₁ W → assign.wpIn (Fr (some l)) 0 P (Exit.then K (fun _ _ _ => False)) { tmps := (ps.zip (arg y k)).foldl (fun t (p, v) => t.setIfInBounds p v) a.tmps, defers := [] } W) ∧
      ∀ W, St W0 W (blk l rec :: blk D (.deferred (some [])) :: (I pre ++ (hs y k ++ E))) → body.wpIn (Fr (some l)) 0 P (fun e _ W' => e = .normal ∧ St W0 W' (blk l rec :: blk D (.deferred (some [])) :: (I (pre ++ [y]) ++ E))) a₁ W)
    (hdone : ∀ D : Nat, EL W0 (blk D (.deferred (some [])) :: (I ys ++ E)) Q .normal { a with defers := { target := .collected D, args := #[] } :: a.defers }) :
    CL P W0 L (Code.rangeFunc g ps assign body) Q a := by
  refine ⟨fun w hS0 => ?_⟩
  have hS := hL.st hS0
  clear hS0
  refine (wpIn_wide (n := 0)).1 (wpIn_rangeFunc ?_)
  intro fn _
  obtain ⟨rec, hrec⟩ : ∃ rec : LoopState → Option Code → Loop, rec = fun st pe => { state := st, pending := pe, fn, tmps := a.tmps, params := ps, assign, body, defers := w.heap.size } := ⟨_, rfl⟩
  have hS1 := (hS.alloc (.deferred (some []))).alloc (.loop (rec .ready none))
  rw [World.size_alloc] at hS1
  generalize hl : w.heap.size + 1 = l at hS1
  generalize hD : w.heap.size = D at hS1 hl hrec
  have henter := run_enterLoop_outer (P := P) (w := w) fn a.tmps ps assign body
  rw [hD] at henter
  rw [hl] at henter
  have hr1 : (rec .ready none) = { state := .ready, pending := none, fn, tmps := a.tmps, params := ps, assign, body, defers := D } := by rw [hrec]
  rw [← hr1] at henter
  generalize hw1 : (w.alloc (.deferred (some []))).alloc (.loop (rec .ready none)) = w1 at henter hS1
  refine ⟨l, [{ target := .collected D, args := #[] }], w1, { target := .fn (.func gf) lb, args := #[.func (.yield l) #[] #[]] }, w1, gf,
    #[.func (.yield l) #[] #[]] ++ lb, w1, henter, ?_, fun _ _ => trivial, ?_, (fun hn => (by cases hn)), ?_⟩
  · simp only [resolve, hg]
    simp [go_sem]
  · exact eg _ _
  · have hJ : St W0 w1 (sp (blk l (.loop (rec .ready none)) :: blk D (.deferred (some [])) :: I []) :: E) := St.close_ (L := blk l (.loop (rec .ready none)) :: blk D (.deferred (some [])) :: I []) hS1
    refine callsIn_wide.2 (Calls.mono ((hit l W0 (fun pre => sp (blk l (.loop (rec .ready none)) :: blk D (.deferred (some [])) :: I pre)) ?_).run w1 hJ) ?_)
    · intro pre y post k W hx hW0
      have hW : St W0 W (blk l (.loop (rec .ready none)) :: blk D (.deferred (some [])) :: (I pre ++ (hs y k ++ E))) := (hW0.perm List.perm_middle).open_
      clear hW0
      have hblk : W.heap[l]? = some (.loop (rec .ready none)) := St.blk_ hW
      have hrp : (rec .ready none).params = ps := by rw [hrec]
      refine ⟨fn, (ps.zip (arg y k)).foldl (fun t (p, v) => t.setIfInBounds p v) a.tmps, assign, body, ?_, ?_⟩
      · have := run_yield (P := P) (args := arg y k) hblk (by rw [hrp]; exact hps y k)
        rw [this, hrec]
      · refine roundIn_of_wpIn trivial ?_
        obtain ⟨a₁, has, hb⟩ := hbody l D (.loop (rec .busy none)) pre y post k hx
        refine has W _ ?_
        refine ⟨W.putObj l (.loop (rec .busy none)), ?_, ?_⟩
        · have := run_beginRound (P := P) hblk (by rw [hrec])
          rw [this, hrec]
        · refine wpIn_mono (hb _ (St.putObj hW)) ?_
          rintro e a' W' ⟨rfl, hW'⟩
          have hblk' : W'.heap[l]? = some (.loop (rec .busy none)) := St.blk_ hW'
          refine ⟨_, _, run_endRound (P := P) none hblk', rfl, ?_⟩
          have h2 := St.putObj (o' := .loop (rec .ready none)) hW'
          have h3 : St W0 (W'.putObj l (.loop (rec .ready none))) (sp (blk l (.loop (rec .ready none)) :: blk D (.deferred (some [])) :: I (pre ++ [y])) :: E) := St.close_ (L := blk l (.loop (rec .ready none)) :: blk D (.deferred (some [])) :: I (pre ++ [y])) h2
          rw [hrec] at h3 ⊢
          exact h3
    · rintro e W' ⟨v, L', rfl, rfl, hW0⟩
      have hW' : St W0 W' (blk l (.loop (rec .ready none)) :: blk D (.deferred (some [])) :: (I ys ++ E)) := hW0.open_
      have hblk' : W'.heap[l]? = some (.loop (rec .ready none)) := St.blk_ hW'
      refine ⟨none, W'.putObj l (.loop { rec .ready none with state := .exhausted }), ?_, ?_⟩
      · rw [run_endLoop (P := P) hblk' (by rw [hrec]; simp), hrec]
      · exact (hdone D).run _ (St.drop (St.putObj hW'))
/-- 'if !yield(x, y)': the region of the call -/
theorem C_yield2 {id : Nat} {d1 d2 d3 d4 d5 : Tmp} {f x y : Operand} {t1 t2 t3 t4 t5 u5 : TypeId} {p1 p2 p3 p4 p5 : String} {q1 q2 q3 q4 q5 : Array Edge} {ats : Array TypeId} {l : Nat} {v1 v2 w1 w2 w3 : Value} {L' : List HP} {a1 a2 a3 a4 a5 : Act}
    (e1 : a.eval f = w1) (h1 : a.put (some d1) w1 = a1) (e2 : a1.eval x = w2) (h2 : a1.put (some d2) w2 = a2) (e3 : a2.eval y = w3) (h3 : a2.put (some d3) w3 = a3) (h4 : a3.put (some d4) (.bool true) = a4) (h5 : a4.put (some d5) (.bool false) = a5)
    (hF : a3.eval (.tmp d1) = .func (.yield l) #[] #[]) (hX : a3.eval (.tmp d2) = v1) (hY : a3.eval (.tmp d3) = v2) (hB : a4.eval (.tmp d4) = .bool true)
    (hy : ∀ w, St W0 w L → Yields P l #[v1, v2] w fun e w' => e = .returned (.bool true) ∧ St W0 w' L')
    (k : EL W0 L' Q .normal a5) :
    CL P W0 L (Code.region id #[⟨some d1, .move f, t1, p1, q1, none⟩, ⟨some d2, .move x, t2, p2, q2, none⟩, ⟨some d3, .move y, t3, p3, q3, none⟩, ⟨some d4, .call { callee := .value (.tmp d1), args := #[.tmp d2, .tmp d3], argTypes := ats }, t4, p4, q4, none⟩, ⟨some d5, .unOp .not u5 (.tmp d4), t5, p5, q5, none⟩] false) Q a := by
  refine ⟨fun w hS => ?_⟩
  subst h1 h2 h3 h4 h5
  subst e1 e2 e3
  refine (wpIn_wide (n := 0)).1 (wpIn_region_lit ?_)
  refine wlIn_move (wlIn_move (wlIn_move (wlIn_yield (l := l) (args := #[v1, v2]) (R := fun e w' => e = .returned (.bool true) ∧ St W0 w' L') rfl rfl hF (by rw [← hX, ← hY]; simp only [List.map_toArray, List.map_cons, List.map_nil]) (hy w hS) (fun e w' h => ⟨_, h.1⟩) ?_)))
  rintro v' w' ⟨hv, h⟩
  injection hv with hv
  subst hv
  exact wlIn_not (b := true) hB (wpListIn_nil (k.run w' h))
/-- the body of a range over a function, at round l -/
structure CI (l : Nat) (P : Program) (W0 : World) (L : List HP) (c : Code) (Q : Exit → Act → World → Prop) (a : Act) : Prop where
  run : ∀ w, St W0 w L → c.wpIn (Fr (some l)) 0 P Q a w
theorem CI_block {l id : Nat} {c : Code} (h : CI l P W0 L c (Exit.inBlock id Q) a) : CI l P W0 L (.block id c) Q a := ⟨fun w s => wpIn_block (h.run w s)⟩
theorem CI_seq {l : Nat} {x y : Code} (h : CI l P W0 L x (Exit.then (y.wpIn (Fr (some l)) 0 P Q) Q) a) : CI l P W0 L (.seq x y) Q a := ⟨fun w s => wpIn_seq (h.run w s)⟩
theorem CI_region {l id : Nat} {ls : List Oper} (hout : ∀ a w, ¬ Q .outgrown a w) (hd : (ls.all fun o => match o.op with | .defer _ => false | _ => true) = true) (h : OL P W0 L ls.toArray Q ls a) : CI l P W0 L (.region id ls.toArray false) Q a :=
  ⟨fun w s => wpIn_region_frl hout (noDefer hd) (h.run w s)⟩
theorem EI_then {l : Nat} {y : Code} {Q' : Exit → Act → World → Prop} (h : CI l P W0 L y Q a) : EL W0 L (Exit.then (y.wpIn (Fr (some l)) 0 P Q) Q') .normal a := ⟨h.run⟩
theorem wpIn_assignG {r : Option Nat} {n id : Nat} {d : Tmp} {x : Operand} {v : Value} {a' : Act} {ty : TypeId} {pos : String} {aft : Array Edge} {W : World} (hx : a.eval x = v) (hp : a.put (some d) v = a') (hout : ∀ a w, ¬ Q .outgrown a w) (h : Q .normal a' W) :
    (Code.region id #[⟨some d, .assign x, ty, pos, aft, none⟩] false).wpIn (Fr r) n P Q a W := by
  subst hx hp
  refine wpIn_region_fr hout (fun o ho c => ?_) ?_
  · simp at ho; subst ho; simp
  · show wpList P _ _ [_] a W
    refine step_val (v := a.eval x) (w' := W) (by rfl) (by unfold execOp; simp) ?_
    exact h
theorem zip2 {p q : Tmp} {v u : Value} {t : Array Value} : (#[p, q].zip #[v, u]).foldl (fun t (p, v) => t.setIfInBounds p v) t = (t.setIfInBounds p v).setIfInBounds q u := by simp
theorem CT_enterM {f : FuncId} {fn : Func} {c : Code} {args : Array Value} {R : Value → List HP → Prop} (hf : P.funcs[f]? = some fn) (hb : fn.body = some c)
    (h : CL P W0 L c (bodyPostM Fence.wide 0 P fn (RR W0 R)) { tmps := args ++ Array.replicate (fn.ntmps - args.size) undef, defers := [] }) : CT P f args W0 L R :=
  ⟨fun w s => callsIn_wide.1 (callsIn_of_wp_marks (n := 0) hf hb trivial (wpIn_wide.2 (h.run w s)))⟩
theorem E_res1d {fn : Func} {R : Value → List HP → Prop} {t : Tmp} {v : Value} {D : Nat} {L2 : List HP} (hd : a.defers = [{ target := .collected D, args := #[] }]) (hr : fn.results = #[.tmp t]) (hv : a.eval (.tmp t) = v) (hR : R v L2) (hS : Sub L (blk D (.deferred (some [])) :: L2)) : EL W0 L (bodyPostM Fence.wide 0 P fn (RR W0 R)) .ret a := by
  refine ⟨fun w s => ?_⟩
  subst hv
  exact post_marks hd (hS.st s) (results_tmp hr _ _) (fun w' h => ⟨_, _, rfl, hR, h⟩)
theorem E_res2d {fn : Func} {R : Value → List HP → Prop} {t u : Tmp} {v v' : Value} {D : Nat} {L2 : List HP} (hd : a.defers = [{ target := .collected D, args := #[] }]) (hr : fn.results = #[.tmp t, .tmp u]) (hv : a.eval (.tmp t) = v) (hv' : a.eval (.tmp u) = v') (hR : R (.tuple #[v, v']) L2) (hS : Sub L (blk D (.deferred (some [])) :: L2)) : EL W0 L (bodyPostM Fence.wide 0 P fn (RR W0 R)) .ret a := by
  refine ⟨fun w s => ?_⟩
  subst hv hv'
  exact post_marks hd (hS.st s) (results_tmp2 hr _ _) (fun w' h => ⟨_, _, rfl, hR, h⟩)
end
end Go.Proofs.Ytlmabajgnjiigaa
