/-
  My own layer over the kit's walk, part 4: assertions over disjoint parts of memory, and one law an operation. Nothing of a program stands here.
-/
import Derived.Test.YtbjaecofccpahaaSt3
namespace Go.Proofs.Ytbjaecofccpahaa
open Go Go.RowKit
set_option linter.unusedVariables false
set_option linter.unusedSimpArgs false
variable {P : Program} {ops : Array Oper} {Q : Exit → Act → World → Prop} {rest : List Oper} {o : Oper} {a : Act}
variable {W0 w w' : World} {L L' : List HP}

theorem at0 { A : HP} {L : List HP} : (A :: L)[0]? = some A := rfl
theorem at1 {x0 A : HP} {L : List HP} : (x0 :: A :: L)[1]? = some A := rfl
theorem at2 {x0 x1 A : HP} {L : List HP} : (x0 :: x1 :: A :: L)[2]? = some A := rfl
theorem at3 {x0 x1 x2 A : HP} {L : List HP} : (x0 :: x1 :: x2 :: A :: L)[3]? = some A := rfl
theorem at4 {x0 x1 x2 x3 A : HP} {L : List HP} : (x0 :: x1 :: x2 :: x3 :: A :: L)[4]? = some A := rfl
theorem at5 {x0 x1 x2 x3 x4 A : HP} {L : List HP} : (x0 :: x1 :: x2 :: x3 :: x4 :: A :: L)[5]? = some A := rfl
theorem at6 {x0 x1 x2 x3 x4 x5 A : HP} {L : List HP} : (x0 :: x1 :: x2 :: x3 :: x4 :: x5 :: A :: L)[6]? = some A := rfl
theorem at7 {x0 x1 x2 x3 x4 x5 x6 A : HP} {L : List HP} : (x0 :: x1 :: x2 :: x3 :: x4 :: x5 :: x6 :: A :: L)[7]? = some A := rfl
theorem at8 {x0 x1 x2 x3 x4 x5 x6 x7 A : HP} {L : List HP} : (x0 :: x1 :: x2 :: x3 :: x4 :: x5 :: x6 :: x7 :: A :: L)[8]? = some A := rfl
theorem at9 {x0 x1 x2 x3 x4 x5 x6 x7 x8 A : HP} {L : List HP} : (x0 :: x1 :: x2 :: x3 :: x4 :: x5 :: x6 :: x7 :: x8 :: A :: L)[9]? = some A := rfl
theorem at10 {x0 x1 x2 x3 x4 x5 x6 x7 x8 x9 A : HP} {L : List HP} : (x0 :: x1 :: x2 :: x3 :: x4 :: x5 :: x6 :: x7 :: x8 :: x9 :: A :: L)[10]? = some A := rfl
theorem at11 {x0 x1 x2 x3 x4 x5 x6 x7 x8 x9 x10 A : HP} {L : List HP} : (x0 :: x1 :: x2 :: x3 :: x4 :: x5 :: x6 :: x7 :: x8 :: x9 :: x10 :: A :: L)[11]? = some A := rfl
theorem at12 {x0 x1 x2 x3 x4 x5 x6 x7 x8 x9 x10 x11 A : HP} {L : List HP} : (x0 :: x1 :: x2 :: x3 :: x4 :: x5 :: x6 :: x7 :: x8 :: x9 :: x10 :: x11 :: A :: L)[12]? = some A := rfl
/-- what a source of an append is: a row that reads, owned or not -/
def Src {α : Type} (L : List HP) (R : Enc α) (y : Value) (l : List α) : Prop := rd R y l ∈ L ∨ ∃ E, own E R y l ∈ L
theorem SepL.mem {m : Hp} {A : HP} : ∀ {L : List HP} {h : Hp}, SepL m L h → A ∈ L → ∃ x : Hp, x.le h ∧ A.p m x
  | _ :: _, _, ⟨x, _, _, hx, _, hA, _⟩, .head _ => ⟨x, hx, hA⟩
  | _ :: _, _, ⟨_, _, _, _, hy, _, hL⟩, .tail _ h => by
    obtain ⟨x, hx, hA⟩ := SepL.mem hL h
    exact ⟨x, hx.trans hy, hA⟩
/-- its cells, in the hidden memory: the elements' relation by the immutable part alone -/
theorem Src.get {α : Type} {R : Enc α} {y : Value} {l : List α} (h : Src L R y l) {m hp : Hp} (s : SepL m L hp) {c : Hp} (hm : m.le c) (hh : hp.le c) :
    ∃ A cap css, y = .slice A l.length cap ∧ All2 (R.r m) l css ∧ (l = [] ∨ ∃ b off cs t fr, A = some ⟨b, off, none⟩ ∧ c b = some (.cells cs t fr) ∧ ∀ j u, css.flatten[j]? = some u → cs[off + j]? = some u) := by
  rcases h with h | ⟨E, h⟩
  · obtain ⟨x, hx, A, cap, css, hv, hc, ha, hr⟩ := s.mem h
    refine ⟨A, cap, css, hv, ha, ?_⟩
    rcases hr with hr | ⟨b, off, cs, t, fr, hA, hb, hcs⟩
    · exact .inl hr
    · exact .inr ⟨b, off, cs, t, fr, hA, hm _ _ hb, hcs⟩
  · obtain ⟨x, hx, css, ha, hr⟩ := s.mem h
    rcases hr with ⟨rfl, rfl⟩ | ⟨g, cap, cur, rfl, hg, hc, _, _, ht⟩
    · exact ⟨none, 0, css, rfl, ha, .inl rfl⟩
    · refine ⟨_, cap, css, rfl, ha, .inr ⟨g, 0, cur, E, (0, 0), rfl, (hx.trans hh) _ _ hg, fun j u hj => ?_⟩⟩
      rw [← ht, List.getElem?_take] at hj
      split at hj
      · simpa using hj
      · cases hj

theorem Src.c {α : Type} {R : Enc α} {y : Value} {l : List α} {A : HP} (h : Src L R y l) : Src (A :: L) R y l := by
  rcases h with h | ⟨E, h⟩
  · exact .inl (.tail _ h)
  · exact .inr ⟨E, .tail _ h⟩
theorem Src.sl {α : Type} {R : Enc α} {y : Value} {l : List α} (h : Src L R y l) (S : St W0 w L) : Sl (Hp.of w) R y l := by
  rcases h with h | ⟨E, h⟩
  · exact S.rd h
  · exact S.rdo h

theorem run_append_of_nil {t ty e : TypeId} {i : TypeInfo} {size : Nat} (ht : P.underlying t = some (.slice e)) (hi : P.info? e = some i) {v : Value} {n : Nat} {xs : List Value} (hown : w.ownsRow 0 e size v n xs) (c : Nat) :
    (Builtin.append_ #[t, t] ty #[v, .slice none 0 c]).run P w = .ok v w := by
  rcases hown.2 with ⟨rfl, rfl⟩ | ⟨g, cap, cur, rfl, _, _, hnc, _⟩
  · simp [Builtin.append_, run_underlying ht, sizeOf, typeInfo, hi, Builtin.lenOf, Builtin.firstCells]
  · simp [Builtin.append_, run_underlying ht, sizeOf, typeInfo, hi, Builtin.lenOf, Builtin.firstCells, hnc, storeCells]

theorem append_run {t ty e : TypeId} {z : Value} {s by_ : Nat} [u : UL P t (.slice e)] [ti : TI P e z s by_] (hzs : z.cells.size = s) (hs0 : 0 < s) {α : Type} {R : Enc α} (hR : R.sz = s)
    {v y : Value} {l l2 : List α} (S : St W0 w (own e R v l :: L)) (hy : Src L R y l2) (hb : (l.length + l2.length) * by_ ≤ 140737488355328) (h63 : l.length + l2.length ≤ maxLen) :
    ∃ v' w', (Builtin.append_ #[t, t] ty #[v, y]).run P w = .ok v' w' ∧ St W0 w' (own e R v' (l ++ l2) :: L) := by
  subst hR
  obtain ⟨i, hi, hz, hsz, hby⟩ := ti.pf
  obtain ⟨m, x, b, hA, hL, hm, hx, hbw, d, g⟩ := S.lay
  obtain ⟨css, hall, hrow, hblk⟩ := own_ownsRow hx hA
  have finish : ∀ {w' : World} {v' : Value} {css2 : List (List Value)}, All2 (R.r m) l2 css2 → w'.ownsRow 0 e R.sz v' (l.length + l2.length) (css.flatten ++ css2.flatten) → w.grownBy w' v.ownBlock →
      (v'.ownBlock = v.ownBlock ∨ v'.ownBlock = some w.heap.size) → St W0 w' (own e R v' (l ++ l2) :: L) := by
    intro w' v' css2 ha2 hown hg hbk
    refine g hg.os hg.tape hg.output hg.size (ownsRow_own (css := css ++ css2) (hall.append ha2) (by rw [List.length_append, List.flatten_append]; exact hown)) ?_ ?_ hL
    · intro k o e
      dsimp only at e
      split at e
      · exact e
      · cases e
    · intro k hk hn
      have hne : v.ownBlock ≠ some k := fun e => by
        have h1 := hblk k e
        rw [hn] at h1
        have : w.heap[k]? = some w.heap[k] := Array.getElem?_eq_getElem hk
        rw [this] at h1; cases h1
      refine ⟨hg.block k hk (fun e => hne e.symm), ?_⟩
      rw [if_neg]
      rcases hbk with hb | hb
      · rw [hb]; exact hne
      · rw [hb]; intro e; injection e with e; omega
  obtain ⟨A, c, css2, rfl, ha2, hsrc⟩ := hy.get hL hm hbw
  have hfl : css2.flatten.length = l2.length * R.sz := ha2.flen
  rcases A with _ | ad
  · have hn : l2 = [] := by
      rcases hsrc with h | ⟨b', off, cs, T, fr, hA', _⟩
      · exact h
      · cases hA'
    subst hn
    have hc2 : css2.flatten = [] := List.eq_nil_of_length_eq_zero (by simpa using hfl)
    exact ⟨v, w, run_append_of_nil u.pf hi hrow c, finish ha2 (by rw [hc2]; simpa using hrow) (World.grownBy.refl w _) (.inl rfl)⟩
  · have hcells : ∀ j u, css2.flatten[j]? = some u → w.cell? (ad.add j) = some u := by
      intro j u hj
      rcases hsrc with h | ⟨b', off, cs, T, fr, hA', hb', hcs⟩
      · subst h
        have hc2 : css2.flatten = [] := List.eq_nil_of_length_eq_zero (by simpa using hfl)
        rw [hc2] at hj; simp at hj
      · injection hA' with hA'
        subst hA'
        have hb'' : w.heap[b']? = some (.cells cs T fr) := hb'
        rw [add0]
        simp [World.cell?, hb'', hcs j u hj]
    obtain ⟨v', w', hrun, h2, h3, _, h5⟩ := run_append_own_at (P := P) w 0 t ty e i z R.sz by_ u.pf hi hz hsz hby hzs hs0 v l.length css.flatten hrow ad l2.length c css2.flatten hfl hcells ha2.ones h63 hb (Nat.zero_le _)
    exact ⟨v', w', hrun, finish ha2 h2 h3 h5⟩

theorem wl_append (hS : St W0 w L) {t : TypeId} {sx sy : Operand} (hop : o.op = .call { callee := .builtin .append, args := #[sx, sy], argTypes := #[t, t] }) (hw : Region.wanted o (yielded ops a.tmps) = true)
    {e : TypeId} {z : Value} {s by_ : Nat} [u : UL P t (.slice e)] [ti : TI P e z s by_] {α : Type} {R : Enc α} {v : Value} {l l2 : List α} {i : Nat} (hv : a.eval sx = v) (hm : L[i]? = some (own e R v l))
    {y : Value} (hy : a.eval sy = y) (hsrc : Src (L.eraseIdx i) R y l2) (hzs : z.cells.size = s) (hs0 : 0 < s) (hR : R.sz = s) (hb : (l.length + l2.length) * by_ ≤ 140737488355328)
    (k : ∀ A c w', St W0 w' (L.set i (own e R (.slice A (l.length + l2.length) c) (l ++ l2))) → wpList P ops Q rest (a.put o.dst (.slice A (l.length + l2.length) c)) w') (h63 : l.length + l2.length ≤ maxLen := by first | (unfold maxLen; omega) | (unfold maxLen; simp; omega)) : wpList P ops Q (o :: rest) a w := by
  obtain ⟨v', w', hr, hS'⟩ := append_run (P := P) (t := t) (ty := o.type) (e := e) hzs hs0 hR (hS.at_ hm) hsrc hb h63
  obtain ⟨A, c, rfl, _⟩ := (hS'.rdo (.head _)).form
  rw [List.length_append] at hr hS'
  refine step_val (v := .slice A (l.length + l2.length) c) (w' := w') hw ?_ (k A c w' (hS'.back hm))
  unfold execOp
  simp only [hop, resolve, invoke, builtin, Sem.run_bind, Sem.run_pure, Result.andThen_ok, List.map_toArray, List.map_cons, List.map_nil, hv, hy, hr]

/-- a slice literal: its cells, one cell an element -/
theorem wl_lit (hS : St W0 w L) {t : TypeId} {n : Nat} {parts : Array (Nat × Operand)} (hop : o.op = .buildSlice t n parts) (hw : Region.wanted o (yielded ops a.tmps) = true)
    {e : TypeId} {z : Value} {s by_ : Nat} [u : UL P t (.slice e)] [ti : TI P e z s by_] {cells : List Value}
    (hf : Instr.fill (fun i => some (i * s, s)) ((Array.range (n * s)).map (z.cells[· % z.cells.size]!)) (parts.map fun (i, x) => (i, a.eval x)).toList = some cells.toArray) (hsm : n * s ≤ 16777216 := by decide) (hpos : 0 < n * s := by decide)
    {α : Type} {R : Enc α} {l : List α} {css : List (List Value)} (hn : l.length = n) (hR : R.sz = s) (hel : ∀ m h, SepL m L h → All2 (R.r m) l css) (hc : cells = css.flatten) (hml : n ≤ maxLen := by decide)
    (k : ∀ A w', St W0 w' (own e R (.slice A n n) l :: L) → wpList P ops Q rest (a.put o.dst (.slice A n n)) w') : wpList P ops Q (o :: rest) a w := by
  obtain ⟨i, hi, hz, hsz, hby⟩ := ti.pf
  subst hsz; subst hc
  have hr := run_buildSlice (P := P) w t e n (parts.map fun (i, x) => (i, a.eval x)) css.flatten.toArray i z u.pf hi hz (by omega) (by omega) hf
  refine step_val (v := .slice (some ⟨w.heap.size, 0, none⟩) n n) (w' := w.alloc (.cells css.flatten.toArray e)) hw (by unfold execOp; simp [hop, hr]) (k _ _ ?_)
  have S := hS.alloc (.cells css.flatten.toArray e)
  refine S.weak fun m h hs => ?_
  obtain ⟨x, y, d, hx, hy, hA, hL⟩ := hs
  have hall := hel m y hL
  refine ⟨x, y, d, hx, hy, ⟨css, hall, .inr ⟨w.heap.size, n, css.flatten.toArray, by rw [hn], hA, by omega, hml, ?_, ?_⟩⟩, hL⟩
  · have := hall.flen
    rw [hR, hn] at this
    rw [hR]
    simpa using this
  · have := hall.flen
    rw [← this]
    exact List.take_length

theorem fold_set : ∀ (vs : List Value) (k : Nat) (cs : Array Value), k + vs.length = cs.size → (vs.zipIdx k).foldl (fun cs (x : Value × Nat) => cs.setIfInBounds (0 + x.2) x.1) cs = (cs.toList.take k ++ vs).toArray
  | [], k, cs, hk => by
    have : cs.toList.take k = cs.toList := List.take_of_length_le (by simp at hk; simp [hk])
    simp [this]
  | c :: vs, k, cs, hk => by
    simp at hk
    simp only [List.zipIdx_cons, List.foldl_cons]
    rw [fold_set vs (k + 1) _ (by simp; omega)]
    congr 1
    simp only [Nat.zero_add, Array.toList_setIfInBounds]
    have hlt : k < (cs.toList.set k c).length := by simp; omega
    rw [List.take_succ_eq_append_getElem hlt]
    have e : (cs.toList.set k c).take k = cs.toList.take k := by rw [List.take_set]; exact List.set_eq_of_length_le (by simp; omega)
    rw [e]; simp
/-- 'append(s, x)': the literal of one element, and the append, at once -/
theorem wl_push (hS : St W0 w L) {o2 : Oper} {t : TypeId} {x sx : Operand} {d : Tmp} (hop : o.op = .buildSlice t 1 #[(0, x)]) (hop2 : o2.op = .call { callee := .builtin .append, args := #[sx, .tmp d], argTypes := #[t, t] }) (hd : o.dst = some d)
    (hw : Region.wanted o (yielded ops a.tmps) = true) (hw2 : ∀ A, Region.wanted o2 (yielded ops (a.put o.dst (.slice A 1 1)).tmps) = true)
    {e : TypeId} {z : Value} {s by_ : Nat} [u : UL P t (.slice e)] [ti : TI P e z s by_] {α : Type} {R : Enc α} {v : Value} {l : List α} {i : Nat} (hv : ∀ A, (a.put o.dst (.slice A 1 1)).eval sx = v) (hdlt : d < a.tmps.size) (hm : L[i]? = some (own e R v l))
    {el : α} (hR : R.sz = s) (hzs : z.cells.size = s) (hs0 : 0 < s) (hs1 : s ≤ 16777216) (hel : ∀ m h, SepL m L h → R.r m el (a.eval x).cells.toList) (hb : (l.length + 1) * by_ ≤ 140737488355328)
    (k : ∀ A A1 c w', St W0 w' (L.set i (own e R (.slice A (l.length + 1) c) (l ++ [el]))) → wpList P ops Q rest ((a.put o.dst (.slice A1 1 1)).put o2.dst (.slice A (l.length + 1) c)) w') (h63 : l.length + 1 ≤ maxLen := by first | (unfold maxLen; omega) | (unfold maxLen; simp; omega)) : wpList P ops Q (o :: o2 :: rest) a w := by
  have hlen : (a.eval x).cells.size = s := by
    obtain ⟨h1, h2, h3, h4, m, h, hm', hw', hh, dd, hL⟩ := hS
    have := R.len (hel m h hL)
    rw [← hR, ← this]; simp
  have hcz : (z.cells).size = s := hzs
  have hfill : Instr.fill (fun i => some (i * s, s)) ((Array.range (1 * s)).map (z.cells[· % z.cells.size]!)) [(0, a.eval x)] = some (a.eval x).cells := by
    simp only [Instr.fill, hlen]
    rw [if_neg (by simp)]
    congr 1
    have key := @fold_set
    have := key (a.eval x).cells.toList 0 ((Array.range (1 * s)).map (z.cells[· % z.cells.size]!)) (by simp [hlen])
    simp at this
    refine Eq.trans ?_ this
    simp only [Nat.zero_mul, Nat.zero_add, Nat.one_mul]
    rw [← Array.foldl_toList, Array.toList_zipIdx]
  refine wl_lit (R := R) (l := [el]) (css := [(a.eval x).cells.toList]) (cells := (a.eval x).cells.toList) hS hop hw (e := e) (s := s) (by simpa using hfill) (by omega) (by omega) rfl hR (fun m h hL => ⟨hel m h hL, trivial⟩) (by simp) (by decide) ?_
  intro A w1 hS1
  have hm1 : (own e R (.slice A 1 1) [el] :: L)[i + 1]? = some (own e R v l) := by simpa using hm
  refine wl_append hS1 hop2 (hw2 A) (hv A) hm1 (y := .slice A 1 1) (l2 := [el]) ?_ (.inr ⟨e, by simp⟩) hzs hs0 hR (by simpa using hb) ?_ (by simpa using h63)
  · rw [hd]
    simp [Act.put, Act.eval, hdlt]
  · intro A2 c w2 hS2
    exact k A2 A c w2 (St.drop (by simpa using hS2))
/-- the same, its operations written out -/
theorem L_push (hS : St W0 w L) {dst2 : Option Tmp} {t : TypeId} {x sx : Operand} {d : Tmp} {ty ty2 : TypeId} {pos pos2 : String} {aft aft2 : Array Edge} {gd gd2 : Option (Nat × Bool)}
    {e : TypeId} {z : Value} {s by_ : Nat} [u : UL P t (.slice e)] [ti : TI P e z s by_] {α : Type} {R : Enc α} {v : Value} {l : List α} {i : Nat}
    (hw : Region.wanted ⟨some d, .buildSlice t 1 #[(0, x)], ty, pos, aft, gd⟩ (yielded ops a.tmps) = true)
    (hw2 : ∀ A, Region.wanted ⟨dst2, .call { callee := .builtin .append, args := #[sx, .tmp d], argTypes := #[t, t] }, ty2, pos2, aft2, gd2⟩ (yielded ops (a.put (some d) (.slice A 1 1)).tmps) = true)
    (hv : ∀ A, (a.put (some d) (.slice A 1 1)).eval sx = v) (hdlt : d < a.tmps.size) (hm : L[i]? = some (own e R v l))
    {el : α} (hR : R.sz = s) (hzs : z.cells.size = s) (hs0 : 0 < s) (hs1 : s ≤ 16777216) (hel : ∀ m h, SepL m L h → R.r m el (a.eval x).cells.toList) (hb : (l.length + 1) * by_ ≤ 140737488355328)
    (k : ∀ A A1 c w', St W0 w' (L.set i (own e R (.slice A (l.length + 1) c) (l ++ [el]))) → wpList P ops Q rest ((a.put (some d) (.slice A1 1 1)).put dst2 (.slice A (l.length + 1) c)) w') (h63 : l.length + 1 ≤ maxLen := by first | (unfold maxLen; omega) | (unfold maxLen; simp; omega)) :
    wpList P ops Q (⟨some d, .buildSlice t 1 #[(0, x)], ty, pos, aft, gd⟩ :: ⟨dst2, .call { callee := .builtin .append, args := #[sx, .tmp d], argTypes := #[t, t] }, ty2, pos2, aft2, gd2⟩ :: rest) a w :=
  wl_push hS rfl rfl rfl hw hw2 hv hdlt hm hR hzs hs0 hs1 hel hb k h63
theorem L_append (hS : St W0 w L) {dst : Option Tmp} {t : TypeId} {sx sy : Operand} {ty : TypeId} {pos : String} {aft : Array Edge} {gd : Option (Nat × Bool)}
    {e : TypeId} {z : Value} {s by_ : Nat} [u : UL P t (.slice e)] [ti : TI P e z s by_] {α : Type} {R : Enc α} {v y : Value} {l l2 : List α} {i : Nat}
    (hw : Region.wanted ⟨dst, .call { callee := .builtin .append, args := #[sx, sy], argTypes := #[t, t] }, ty, pos, aft, gd⟩ (yielded ops a.tmps) = true) (hv : a.eval sx = v) (hy : a.eval sy = y) (hm : L[i]? = some (own e R v l))
    (hsrc : Src (L.eraseIdx i) R y l2) (hzs : z.cells.size = s) (hs0 : 0 < s) (hR : R.sz = s) (hb : (l.length + l2.length) * by_ ≤ 140737488355328)
    (k : ∀ A c w', St W0 w' (L.set i (own e R (.slice A (l.length + l2.length) c) (l ++ l2))) → wpList P ops Q rest (a.put dst (.slice A (l.length + l2.length) c)) w') (h63 : l.length + l2.length ≤ maxLen := by first | (unfold maxLen; omega) | (unfold maxLen; simp; omega)) :
    wpList P ops Q (⟨dst, .call { callee := .builtin .append, args := #[sx, sy], argTypes := #[t, t] }, ty, pos, aft, gd⟩ :: rest) a w :=
  wl_append hS rfl hw hv hm hy hsrc hzs hs0 hR hb k h63
theorem wl_bytes (hS : St W0 w L) {t ts : TypeId} {x : Operand} (hop : o.op = .convert ts t x) (hw : Region.wanted o (yielded ops a.tmps) = true)
    {e : TypeId} {sv : ByteArray} (hx : a.eval x = .string sv) [us : UL P ts .string] [u : UL P t (.slice e)] [ub : UL P e (.int .u8)]
    (k : ∀ A c w', St W0 w' (rd eB (.slice A sv.size c) sv.data.toList :: L) → wpList P ops Q rest (a.put o.dst (.slice A sv.size c)) w') : wpList P ops Q (o :: rest) a w := by
  have hr := run_bytes_of_string (P := P) w ts t e sv us.pf u.pf ub.pf
  refine step_val hw (by unfold execOp; simp only [hop, hx, Sem.run_bind, hr, Result.andThen_ok]; rfl) (k (some ⟨w.heap.size, 0, none⟩) (grownCap w sv.size 0 e) (w.drew.alloc (.cells (bytesRow sv (grownCap w sv.size 0 e)) e ((bytesRow sv (grownCap w sv.size 0 e)).size, (bytesRow sv (grownCap w sv.size 0 e)).size + 1))) ?_)
  have S := hS.drew.alloc (.cells (bytesRow sv (grownCap w sv.size 0 e)) e ((bytesRow sv (grownCap w sv.size 0 e)).size, (bytesRow sv (grownCap w sv.size 0 e)).size + 1))
  refine S.freeze fun m h d hA => ?_
  refine (⟨some ⟨w.heap.size, 0, none⟩, grownCap w sv.size 0 e, sv.data.toList.map (fun b => [bv b]), ?_, ?_, ?_, .inr ⟨w.heap.size, 0, _, _, _, rfl, Hp.le_or_right d _ _ hA, ?_⟩⟩ : Sl (m.or h) eB (.slice (some ⟨w.heap.size, 0, none⟩) sv.size (grownCap w sv.size 0 e)) sv.data.toList)
  · rfl
  · exact grownCap_ge w sv.size 0 e
  · have : ∀ l : List UInt8, All2 (eB.r (m.or h)) l (l.map fun b => [bv b]) := fun l => by
      induction l with
      | nil => trivial
      | cons b l ih => exact ⟨rfl, ih⟩
    exact this _
  · intro j u hj
    have hfl : ∀ l : List UInt8, (l.map fun b => [bv b]).flatten = l.map bv := fun l => by
      induction l with
      | nil => rfl
      | cons b l ih => simp [ih]
    rw [hfl] at hj
    have hlt : j < sv.data.size := by
      have := (List.getElem?_eq_some_iff.1 hj).1
      simpa using this
    simp only [Nat.zero_add, bytesRow]
    rw [Array.getElem?_append_left (by simpa using hlt)]
    simpa using hj
theorem flat_one {α : Type} (f : α → Value) : ∀ l : List α, (l.map fun b => [f b]).flatten = l.map f
  | [] => rfl
  | b :: l => by simp [flat_one f l]
theorem all2_e1 {α : Type} {f : α → Value} {h : ∀ a, (f a).oneCell' = true} {m : Hp} : ∀ {l : List α} {css : List (List Value)}, All2 ((e1 f h).r m) l css ↔ css = l.map fun b => [f b]
  | [], [] => by simp [All2]
  | [], _ :: _ => by simp [All2]
  | _ :: _, [] => by simp [All2]
  | b :: l, c :: r => by
    have ih := all2_e1 (f := f) (h := h) (m := m) (l := l) (css := r)
    show (c = [f b] ∧ All2 _ l r) ↔ _
    rw [ih]; simp
theorem wl_string (hS : St W0 w L) {t ts : TypeId} {x : Operand} (hop : o.op = .convert ts t x) (hw : Region.wanted o (yielded ops a.tmps) = true)
    {e : TypeId} {y : Value} {l : List UInt8} (hx : a.eval x = y) [us : UL P t .string] [u : UL P ts (.slice e)] [ub : UL P e (.int .u8)] (hsrc : Src L eB y l)
    (k : wpList P ops Q rest (a.put o.dst (.string ⟨l.toArray⟩)) w) : wpList P ops Q (o :: rest) a w := by
  have hsl : Sl (Hp.of w) eB y l := by
    rcases hsrc with h | ⟨E, h⟩
    · exact hS.rd h
    · exact hS.rdo h
  obtain ⟨A, c, css, rfl, hc, ha, hr⟩ := hsl
  refine step_val (w' := w) hw ?_ k
  unfold execOp
  simp only [hop, hx, Sem.run_bind]
  rcases hr with h | ⟨b, off, cs, T, fr, hA, hb, hcs⟩
  · subst h
    have hz : (convert ts t (.slice A 0 c)).run P w = .ok (.string ⟨#[]⟩) w := by
      rcases A with _ | ad
      · rw [run_convert_bytes_string w ts t e none 0 c u.pf ub.pf us.pf]; rfl
      · exact run_convert_bytes_back (P := P) w ts t e ad c [] u.pf ub.pf us.pf (fun j hj => by simp at hj)
    simp [hz]
  · subst hA
    rw [run_convert_bytes_back (P := P) w ts t e ⟨b, off, none⟩ c l u.pf ub.pf us.pf (fun j hj => ?_)]
    · rfl
    · have ha := all2_e1.1 ha
      subst ha
      rw [flat_one] at hcs
      have := hcs j (bv l[j]) (by simp [List.getElem?_eq_getElem hj])
      have hb' : w.heap[b]? = some (.cells cs T fr) := hb
      rw [add0]
      simp [World.cell?, hb', this]
end Go.Proofs.Ytbjaecofccpahaa
