/-
  Append to bytes that are read again. No program.
-/
import Derived.ArgAppend
import Derived.Lib.SliceRun
import Derived.Deep.OwnRows
import Derived.Test.YtnjjifikogblpaaMT
import Derived.Test.YtnjjifikogblpaaMJ
import Derived.Test.YtnjjifikogblpaaML
namespace Go.Proofs.Ytnjjifikogblpaa
open Go Go.RowKit
set_option linter.unusedVariables false
set_option linter.unusedSimpArgs false
theorem all2B {m : Hp} : ∀ {l : List UInt8} {css : List (List Value)}, All2 (eB.r m) l css → css = l.map fun b => [bv b]
  | [], [], _ => rfl
  | b :: l, c :: css, ⟨h, t⟩ => by
    rw [List.map_cons, ← all2B t]
    have : c = [bv b] := h
    rw [this]
  | [], _ :: _, h => h.elim
  | _ :: _, [], h => h.elim
theorem all2B' (m : Hp) : ∀ (l : List UInt8), All2 (eB.r m) l (l.map fun b => [bv b])
  | [] => trivial
  | b :: l => ⟨rfl, all2B' m l⟩
theorem flatB : ∀ (l : List UInt8), (l.map fun b => [bv b]).flatten = l.map fun b => bv b
  | [] => rfl
  | b :: l => by rw [List.map_cons, List.flatten_cons, flatB l]; rfl
section
variable {P : Program} {W0 w : World} {L : List HP}
theorem append_keepB {t ty e : TypeId} {z : Value} {by_ : Nat} [u : UL P t (.slice e)] [ti : TI P e z 1 by_] (hzs : z.cells.size = 1) {A : Option Addr} {c : Nat} {l l2 : List UInt8} {y : Value}
    (S : St W0 w (own e eB (.slice A l.length c) l :: L)) (hy : Src L eB y l2) (h0 : 0 < l.length) (h02 : 0 < l2.length) (hb : (l.length + l2.length) * by_ ≤ 140737488355328) (h63 : l.length + l2.length ≤ maxLen) :
    ∃ A' c' w', (Builtin.append_ #[t, t] ty #[.slice A l.length c, y]).run P w = .ok (.slice A' (l.length + l2.length) c') w' ∧ St W0 w' (rd eB (.slice A' (l.length + l2.length) c') (l ++ l2) :: rd eB (.slice A l.length c) l :: L) := by
  obtain ⟨i, hi, hz, hsz, hby⟩ := ti.pf
  obtain ⟨v', w', hr, hS'⟩ := append_run (P := P) (t := t) (ty := ty) (e := e) hzs (by decide) rfl S hy hb h63
  obtain ⟨A', c', rfl, _⟩ := (hS'.rdo (.head _)).form
  rw [List.length_append] at hr hS'
  obtain ⟨m, x, b, hA, hL, hm, hx, hbw, d, g⟩ := S.lay
  obtain ⟨css, hall, hrow, hblk⟩ := own_ownsRow hx hA
  have hcss := all2B hall
  subst hcss
  rw [flatB] at hrow
  obtain ⟨A2, c2, css2, rfl, ha2, hsrc⟩ := hy.get hL hm hbw
  have hcss2 := all2B ha2
  subst hcss2
  rw [flatB] at hsrc
  obtain ⟨b2, off2, cs2, T2, fr2, rfl, hb2, hcs2⟩ : ∃ b off cs T fr, A2 = some ⟨b, off, none⟩ ∧ Hp.of w b = some (.cells cs T fr) ∧ ∀ j u, (l2.map fun b => bv b)[j]? = some u → cs[off + j]? = some u := by
    rcases hsrc with h | h
    · subst h; simp at h02
    · exact h
  obtain ⟨gg, cap, cur, hv, _, hgg, hnc, hcm, hcsz, hct⟩ : ∃ g cap cur, Value.slice A l.length c = .slice (some ⟨g, 0, none⟩) l.length cap ∧ 0 ≤ g ∧ w.heap[g]? = some (.cells cur e (0, 0)) ∧ l.length ≤ cap ∧ cap ≤ maxLen ∧ cur.size = cap * 1 ∧ cur.toList.take (l.length * 1) = (l.map fun b => bv b) := by
    rcases hrow.2 with ⟨h, hn⟩ | h
    · omega
    · exact h
  injection hv with e1 e2 e3
  subst e1 e3
  have hcell : ∀ j u, (l.map fun b => bv b)[j]? = some u → w.cell? ((⟨gg, 0, none⟩ : Addr).add j) = some u := by
    intro j u hj
    rw [← hct] at hj
    rw [List.getElem?_take] at hj
    split at hj
    · rw [add0]
      simpa [World.cell?, hgg] using hj
    · cases hj
  have hcell2 : ∀ j u, (l2.map fun b => bv b)[j]? = some u → w.cell? ((⟨b2, off2, none⟩ : Addr).add j) = some u := by
    intro j u hj
    have hb2' : w.heap[b2]? = some (.cells cs2 T2 fr2) := hb2
    rw [add0]
    simp [World.cell?, hb2', hcs2 j u hj]
  have hone : ∀ u ∈ (l2.map fun b => bv b), u.oneCell' = true := by
    intro u hu
    obtain ⟨b, _, rfl⟩ := List.mem_map.1 hu
    rfl
  by_cases hroom : l.length + l2.length ≤ c
  · have hr2 := run_append_room_cells (P := P) w t ty e i u.pf hi gg 0 l.length c ⟨b2, off2, none⟩ l2.length c2 (l2.map fun b => bv b) (by rw [List.length_map, hsz]; omega) hcell2 hone hroom
      (by
        intro j hj
        rw [List.length_map] at hj
        rw [hsz]
        simp [World.cell?, hgg]
        omega)
      (by
        intro j hj
        rw [List.length_map] at hj
        rw [hsz]
        simp [World.frozen?, hgg])
    rw [hr2] at hr
    injection hr with e1 e2
    injection e1 with e1 _ e3
    subst e1 e2 e3
    refine ⟨_, _, _, hr2, ?_⟩
    have h1 := hS'.own_rd.dup
    have h2 := (h1.rd_cut (lo := 0) (hi := l.length) (mx := c) (Nat.zero_le _) (Nat.le_add_right _ _) hnc)
    rw [if_neg (by omega), List.take_left, List.drop_zero, Nat.sub_zero, Nat.sub_zero] at h2
    exact h2.weak fun _ _ h => h.swap
  · obtain ⟨v3, w3, hr3, hown, hg⟩ := run_append_arg_grows (P := P) w t ty e i z 1 by_ u.pf hi hz hsz hby hzs (by decide) ⟨gg, 0, none⟩ l.length c (l.map fun b => bv b) (by simp) hcell ⟨b2, off2, none⟩ l2.length c2 (l2.map fun b => bv b) (by simp) hcell2 (by omega) h63 hb
    rw [hr3] at hr
    injection hr with e1 e2
    subst e1 e2
    refine ⟨_, _, _, hr3, ?_⟩
    have s1 := (S.own_rd).own_nil e eB
    obtain ⟨css3, _, _, _, k⟩ := s1.own_turn
    have hlen : (l ++ l2).length = l.length + l2.length := List.length_append
    refine St.own_rd (k (l' := l ++ l2) (css' := (l ++ l2).map fun b => [bv b]) (fun m h _ _ => all2B' m _) ?_ ?_ ?_)
    · rw [flatB, hlen, List.map_append]
      exact ⟨hown.1, hown.2.imp id fun ⟨g, cap, cur, a, _, rest⟩ => ⟨g, cap, cur, a, Nat.zero_le _, rest⟩⟩
    · exact hg
    · right
      have hg4 := run_append_grow (P := P) (w := w) t ty e i z u.pf hi hz ⟨gg, 0, none⟩ l.length c (l.map fun b => bv b) (by rw [hsz]; simp) hcell ⟨b2, off2, none⟩ l2.length c2 (l2.map fun b => bv b) (by rw [hsz]; simp) hcell2 (by omega) (by unfold maxLen at h63; omega) (growslice_fits (by omega) (by rw [hby]; exact hb))
      rw [hg4] at hr3
      injection hr3 with e1 _
      injection e1 with e1 _ _
      rw [← e1]
      rfl
theorem dy_appendK {t ty e : TypeId} {zv : Value} {by_ : Nat} [u : UL P t (.slice e)] [ti : TI P e zv 1 by_] {x y : Operand} {a : Act} {d : Option Tmp} {pos : String} {aft : Array Edge} {gd : Option (Nat × Bool)} {A : Option Addr} {n c : Nat} {v' : Value} {l l2 : List UInt8} (i : Nat) {Le : List HP} {N : Nat}
    (hx : a.eval x = .slice A n c := by exact Ev.pf) (hy : a.eval y = v' := by exact Ev.pf) (hm : L[i]? = some (own e eB (.slice A n c) l) := by rfl) (hn : n = l.length := by rfl) (he : L.eraseIdx i = Le := by exact EAt.pf) (hsrc : Src Le eB v' l2 := by exact Sc.pf) (hzs : zv.cells.size = 1 := by rfl) (h0 : 0 < l.length := by omega) (h02 : 0 < l2.length := by decide) (hN : l.length + l2.length = N := by (try simp only [List.length_append, List.length_cons, List.length_nil, Nat.zero_add, Nat.add_zero, Nat.reduceAdd]) <;> exact rfl) (hb : N * by_ ≤ 140737488355328 := by omega) (h63 : N ≤ 9223372036854775807 := by omega) :
    DY P W0 L ⟨d, .call { callee := .builtin .append, args := #[x, y], argTypes := #[t, t] }, ty, pos, aft, gd⟩ a fun a' L' => ∃ A2 c2, a.put d (.slice A2 N c2) = a' ∧ L' = rd eB (.slice A2 N c2) (l ++ l2) :: rd eB (.slice A n c) l :: Le :=
  dy_val fun w s => by
    subst he hn hN
    obtain ⟨A2, c2, w', hr, hS'⟩ := append_keepB (P := P) (t := t) (ty := ty) (e := e) hzs (s.at_ hm) hsrc h0 h02 hb (by unfold maxLen; omega)
    refine ⟨_, w', _, ?_, ⟨A2, c2, rfl, rfl⟩, hS'⟩
    unfold execOp
    simp only [resolve, invoke, builtin, Sem.run_bind, Sem.run_pure, Result.andThen_ok, List.map_toArray, List.map_cons, List.map_nil, hx, hy, hr]
end
end Go.Proofs.Ytnjjifikogblpaa
namespace Go.Proofs.Ytnjjifikogblpaa
open Go Go.RowKit
set_option linter.unusedVariables false
set_option linter.unusedSimpArgs false
set_option maxRecDepth 20000
set_option synthInstance.maxSize 100000
set_option synthInstance.maxHeartbeats 400000
/-- a slice of bytes with its value -/
structure SB where
  v : Value
  b : List UInt8
theorem Sl.one2 {α : Type} {m : Hp} {R : Enc α} {v : Value} {l : List α} (h : Sl m R v l) : v.oneCell' = true := by
  obtain ⟨A, cap, css, hv, _⟩ := h
  rw [hv]; rfl
def eSB : Enc SB :=
  ⟨1, fun m x cs => cs = [x.v] ∧ Sl m eB x.v x.b, fun hm ⟨e, h1⟩ => ⟨e, h1.mono hm⟩, fun ⟨e, _⟩ => by subst e; rfl,
    fun {_ x _} ⟨e, h1⟩ u hu => by
      subst e
      simp only [List.mem_cons, List.not_mem_nil, or_false] at hu
      subst hu
      exact h1.one2⟩
instance : Sz eSB 1 := ⟨rfl⟩
instance {x : SB} : EncC eSB x [x.v] := ⟨fun _ _ h => h.1⟩
theorem All2.openS {m : Hp} : ∀ {l : List (List UInt8)} {css : List (List Value)}, All2 ((eSl eB).r m) l css → ∃ l' : List SB, l'.map SB.b = l ∧ All2 (eSB.r m) l' css
  | [], [], _ => ⟨[], rfl, trivial⟩
  | b :: l, c :: css, ⟨⟨v, e, h⟩, t⟩ => by
    obtain ⟨l', h1, h2⟩ := All2.openS t
    exact ⟨⟨v, b⟩ :: l', by rw [List.map_cons, h1], ⟨e, h⟩, h2⟩
  | [], _ :: _, h => h.elim
  | _ :: _, [], h => h.elim
theorem Sl.openS {m : Hp} {v : Value} {l : List (List UInt8)} (h : Sl m (eSl eB) v l) : ∃ l' : List SB, l'.map SB.b = l ∧ Sl m eSB v l' := by
  obtain ⟨A, cap, css, hv, hc, ha, hr⟩ := h
  obtain ⟨l', h1, h2⟩ := ha.openS
  have hl : l'.length = l.length := by rw [← h1, List.length_map]
  refine ⟨l', h1, A, cap, css, by rw [hl]; exact hv, by rw [hl]; exact hc, h2, ?_⟩
  rcases hr with h | h
  · left
    subst h
    exact List.length_eq_zero_iff.1 hl
  · exact .inr h
section
variable {P : Program} {W0 : World} {L : List HP}
theorem CT_openS {f : FuncId} {args : Array Value} {R : Value → List HP → Prop} {v : Value} {l : List (List UInt8)} (hv : rd (eSl eB) v l ∈ L) (k : ∀ l' : List SB, l'.map SB.b = l → CT P f args W0 (rd eSB v l' :: L) R) : CT P f args W0 L R := ⟨fun w s => by
  obtain ⟨h1, h2, h3, h4, m, h, hm, hw, hh, d, hL⟩ := s
  obtain ⟨a, _, hs⟩ := hL.mem hv
  obtain ⟨l', e, hs'⟩ := Sl.openS hs
  exact (k l' e).run w ⟨h1, h2, h3, h4, m, h, hm, hw, hh, d, Hp.none, h, Hp.none_dj _, Hp.none_le _, Hp.le_refl _, hs', hL⟩⟩
theorem sub_peekSB {v : Value} {l : List SB} {j : Nat} {x : SB} (hm : rd eSB v l ∈ L) (hx : l[j]? = some x) : Sub L (rd eB x.v x.b :: L) := fun m h s => by
  obtain ⟨a, _, A, cap, css, _, _, ha, _⟩ := s.mem hm
  obtain ⟨cs, _, hc⟩ := ha.get hx
  exact ⟨Hp.none, h, Hp.none_dj _, Hp.none_le _, Hp.le_refl _, hc.2, s⟩
end
end Go.Proofs.Ytnjjifikogblpaa
namespace Go.Proofs.Ytnjjifikogblpaa
open Go Go.RowKit
set_option linter.unusedVariables false
set_option linter.unusedSimpArgs false
def allI {α : Type} (R : Enc α) (l : List α) (css : List (List Value)) : Im := ⟨fun m => All2 (R.r m) l css, fun hm h => h.imp fun _ _ => R.mono hm⟩
instance szSl {α : Type} {R : Enc α} : Sz (eSl R) 1 := ⟨rfl⟩
theorem Sl.cut0 {α : Type} {m : Hp} {R : Enc α} {A : Option Addr} {n c k : Nat} {l : List α} (h : Sl m R (.slice A n c) l) (hk : k ≤ n) : Sl m R (.slice A k c) (l.take k) := by
  have hc := h.cap_
  have := h.cut (lo := 0) (hi := k) (mx := c) (by omega) hk (by omega)
  rw [Nat.sub_zero, Nat.sub_zero, List.drop_zero, Nat.zero_mul] at this
  have e : (if c = 0 then A else Option.map (fun x => x.add 0) A) = A := by
    split
    · rfl
    · cases A <;> simp [Addr.add]
  rw [e] at this
  exact this
section
variable {P : Program} {W0 w : World} {L : List HP}
theorem St.own_open {α : Type} {R : Enc α} {E : TypeId} {v : Value} {l : List α} (s : St W0 w (own E R v l :: L)) (hl : l ≠ []) (h1 : R.sz = 1) :
    ∃ g cap css sp, v = .slice (some ⟨g, 0, none⟩) l.length cap ∧ l.length ≤ cap ∧ cap ≤ maxLen ∧ sp.length = cap - l.length ∧ css.flatten.length = l.length ∧ (∀ u ∈ css.flatten, u.oneCell' = true) ∧ (∀ x ∈ css, x.length = 1) ∧
      St W0 w (cel g (css.flatten ++ sp) E :: im (allI R l css) :: L) := by
  have s1 : St W0 w (ex (fun q : Nat × Nat × List (List Value) × List Value => Go.Proofs.Ytnjjifikogblpaa.sp [pur (v = .slice (some ⟨q.1, 0, none⟩) l.length q.2.1 ∧ l.length ≤ q.2.1 ∧ q.2.1 ≤ maxLen ∧ q.2.2.2.length = q.2.1 - l.length ∧ q.2.2.1.flatten.length = l.length ∧ (∀ u ∈ q.2.2.1.flatten, u.oneCell' = true) ∧ (∀ x ∈ q.2.2.1, x.length = 1)), cel q.1 (q.2.2.1.flatten ++ q.2.2.2) E, im (allI R l q.2.2.1)]) :: L) := by
    refine s.imp ?_
    rintro m h ⟨css, ha, k⟩
    rcases k with ⟨_, h0⟩ | ⟨g, cap, cur, hv, hg, hc, hm, hs, ht⟩
    · exact absurd h0 hl
    · have hfl := ha.flen
      rw [h1] at hs ht hfl
      simp only [Nat.mul_one] at hs ht hfl
      have hcur : cur.toList = css.flatten ++ cur.toList.drop l.length := by rw [← ht, List.take_append_drop]
      have hcell : Obj.cells (css.flatten ++ List.drop l.length cur.toList).toArray E (0, 0) = Obj.cells cur E (0, 0) := by rw [← hcur]
      refine ⟨(g, cap, css, cur.toList.drop l.length), Hp.none, h, Hp.none_dj _, Hp.none_le _, Hp.le_refl _, ⟨hv, hc, hm, by simp [hs], hfl, ha.ones, fun x hx => by rw [ha.lens x hx, h1]⟩, h, Hp.none, Hp.dj_none _, Hp.le_refl _, Hp.none_le _, ?_, Hp.none, Hp.none, Hp.dj_none _, Hp.le_refl _, Hp.le_refl _, ha, trivial⟩
      show h g = some (Obj.cells (css.flatten ++ List.drop l.length cur.toList).toArray E (0, 0))
      rw [hcell, hg]
  obtain ⟨q, h⟩ := s1.ex_
  have h2 := h.open_
  have hp := h2.pur_
  exact ⟨q.1, q.2.1, q.2.2.1, q.2.2.2, hp.1, hp.2.1, hp.2.2.1, hp.2.2.2.1, hp.2.2.2.2.1, hp.2.2.2.2.2.1, hp.2.2.2.2.2.2, h2.drop⟩
theorem sub_own1 {α : Type} {R : Enc α} {E : TypeId} {g cap : Nat} {l : List α} {css : List (List Value)} {sp : List Value} (h1 : R.sz = 1) (h2 : l.length ≤ cap) (h3 : cap ≤ maxLen) (h4 : sp.length = cap - l.length) :
    Sub (cel g (css.flatten ++ sp) E :: im (allI R l css) :: L) (own E R (.slice (some ⟨g, 0, none⟩) l.length cap) l :: L) := by
  rintro m h ⟨a, b, d, ha, hb, hA, c, e, d2, hc, he, hB, hL⟩
  have hB : All2 (R.r m) l css := hB
  have hfl := hB.flen
  rw [h1, Nat.mul_one] at hfl
  refine ⟨a, e, d.sub (Hp.le_refl _) he, ha, he.trans hb, ⟨css, hB, .inr ⟨g, cap, (css.flatten ++ sp).toArray, rfl, hA, h2, h3, ?_, ?_⟩⟩, hL⟩
  · rw [h1]; simp only [List.size_toArray, List.length_append]; omega
  · rw [h1, Nat.mul_one, ← hfl]; exact List.take_left
theorem flat_drop1 : ∀ (k : Nat) (css : List (List Value)), (∀ x ∈ css, x.length = 1) → css.flatten.drop k = (css.drop k).flatten
  | 0, css, _ => rfl
  | k + 1, [], _ => rfl
  | k + 1, c :: r, h => by
    have hc := h c (.head _)
    obtain ⟨v, rfl⟩ := List.length_eq_one_iff.1 hc
    exact flat_drop1 k r fun x hx => h x (.tail _ hx)
theorem sub_all {α : Type} {R : Enc α} {l l' : List α} {css css' : List (List Value)} (f : ∀ m, All2 (R.r m) l css → All2 (R.r m) l' css') : Sub (im (allI R l css) :: L) (im (allI R l' css') :: L) := by
  rintro m h ⟨a, b, d, ha, hb, hA, hL⟩
  exact ⟨a, b, d, ha, hb, f m hA, hL⟩
variable {a : Act} {d : Option Tmp} {ty : TypeId} {pos : String} {aft : Array Edge} {gd : Option (Nat × Bool)} {x y : Operand} {t : TypeId}
/-- append within the row, the source in the same row -/
theorem dy_appin {e : TypeId} {zv : Value} {by_ : Nat} [ut : UL P t (.slice e)] [ti : TI P e zv 1 by_] {g n c m c2 off : Nat} (i : Nat) {cs : List Value} (hx : a.eval x = .slice (some ⟨g, 0, none⟩) n c) (hy : a.eval y = .slice (some ⟨g, off, none⟩) m c2) (hm : L[i]? = some (cel g cs e))
    (hroom : n + m ≤ c) (hfit : n + m ≤ cs.length) (hoff : off + m ≤ cs.length) (h1 : ∀ u ∈ (cs.drop off).take m, u.oneCell' = true) {cs' : List Value} (hcs : cs.take n ++ (cs.drop off).take m ++ cs.drop (n + m) = cs') :
    DY P W0 L ⟨d, .call { callee := .builtin .append, args := #[x, y], argTypes := #[t, t] }, ty, pos, aft, gd⟩ a fun a' L' => a.put d (.slice (some ⟨g, 0, none⟩) (n + m) c) = a' ∧ L' = L.set i (cel g cs' e) :=
  dy_val fun w s => by
    obtain ⟨q, hi, hz, hsz, hby⟩ := ti.pf
    have hg := s.cel_ (List.mem_of_getElem? hm)
    have hlen : ((cs.drop off).take m).length = m := by rw [List.length_take, List.length_drop]; omega
    have hr := run_append_room (P := P) w t ty e q ut.pf hi g n c cs.toArray hg ⟨g, off, none⟩ m c2 ((cs.drop off).take m) (by rw [hlen, hsz, Nat.mul_one]) (fun j u hj => by
      rw [add0]
      rw [List.getElem?_take] at hj
      split at hj
      · rw [List.getElem?_drop] at hj
        simp [World.cell?, hg, hj]
      · cases hj) h1 hroom (by rw [hsz, hlen]; simp; omega)
    rw [hsz, hlen, Nat.mul_one] at hr
    refine ⟨_, w.setRow g cs'.toArray, _, ?_, ⟨rfl, rfl⟩, s.setRowAt hm⟩
    unfold execOp
    simp only [resolve, invoke, builtin, Sem.run_bind, Sem.run_pure, Result.andThen_ok, List.map_toArray, List.map_cons, List.map_nil, hx, hy, hr, hcs]
def setL : List Value → Nat → List Value → List Value
  | cs, _, [] => cs
  | cs, o, v :: r => setL (cs.set o v) (o + 1) r
theorem St.setCells {b i : Nat} {T : TypeId} : ∀ (vs : List Value) (o : Nat) (cs : List Value) (L : List HP) (w : World), St W0 w L → L[i]? = some (cel b cs T) → St W0 (w.setCells b o vs) (L.set i (cel b (setL cs o vs) T))
  | [], o, cs, L, w, s, hm => by
    have : L.set i (cel b cs T) = L := by
      apply List.ext_getElem?
      intro j
      rw [List.getElem?_set]
      split
      · rename_i h; subst h
        rw [if_pos (List.getElem?_eq_some_iff.1 hm).1, hm]
      · rfl
    show St W0 w (L.set i (cel b cs T))
    rw [this]; exact s
  | v :: r, o, cs, L, w, s, hm => by
    have h1 : St W0 (w.setCell ⟨b, o, none⟩ v) (L.set i (cel b (cs.set o v) T)) := s.setCellAt hm v
    have hlt := (List.getElem?_eq_some_iff.1 hm).1
    have h2 := St.setCells r (o + 1) (cs.set o v) (L.set i (cel b (cs.set o v) T)) _ h1 (by rw [List.getElem?_set, if_pos rfl, if_pos hlt])
    rw [List.set_set] at h2
    exact h2
theorem setL_rep {z : Value} : ∀ (n o : Nat) (cs : List Value), o + n ≤ cs.length → setL cs o (List.replicate n z) = cs.take o ++ List.replicate n z ++ cs.drop (o + n)
  | 0, o, cs, h => by
    show cs = _
    simp
  | n + 1, o, cs, h => by
    show setL (cs.set o z) (o + 1) (List.replicate n z) = _
    rw [setL_rep n (o + 1) _ (by rw [List.length_set]; omega)]
    have e1 : (cs.set o z).take (o + 1) = cs.take o ++ [z] := by
      rw [List.take_add_one, List.take_set, List.set_eq_of_length_le (by simp; omega), List.getElem?_set_self (by omega)]
      rfl
    have e2 : (cs.set o z).drop (o + 1 + n) = cs.drop (o + (n + 1)) := by
      rw [List.drop_set_of_lt (by omega)]
      congr 1; omega
    rw [e1, e2, List.replicate_succ]
    simp
theorem dy_clear {e : TypeId} {zv : Value} {by_ : Nat} [ut : UL P t (.slice e)] [ti : TI P e zv 1 by_] {g n c off : Nat} (i : Nat) {cs : List Value} (hx : a.eval x = .slice (some ⟨g, off, none⟩) n c) (hm : L[i]? = some (cel g cs e))
    (hn : 0 < n) (hfit : off + n ≤ cs.length) (hz : zv.cells = #[zv] := by rfl) (h1 : zv.oneCell' = true := by rfl) {cs' : List Value} (hcs : cs.take off ++ List.replicate n zv ++ cs.drop (off + n) = cs') :
    DY P W0 L ⟨d, .call { callee := .builtin .clear, args := #[x], argTypes := #[t] }, ty, pos, aft, gd⟩ a fun a' L' => a.put d (.tuple #[]) = a' ∧ L' = L.set i (cel g cs' e) :=
  dy_val fun w s => by
    have hg := s.cel_ (List.mem_of_getElem? hm)
    have hr := Lib.run_clear_slice (P := P) w t e ty zv ut.pf (fun w => zero_run (P := P) (t := e) w) hz h1 g off n c hn (fun j hj => by
      have : off + j < cs.length := by omega
      simp [World.cell?, hg, this]) (fun j hj => by simp [World.frozen?, hg])
    refine ⟨_, w.setCells g off (List.replicate n zv), _, ?_, ⟨rfl, rfl⟩, ?_⟩
    · unfold execOp
      simp only [resolve, invoke, builtin, Sem.run_bind, Sem.run_pure, Result.andThen_ok, List.map_toArray, List.map_cons, List.map_nil, hx, hr]
    · have := St.setCells (i := i) (List.replicate n zv) off cs L w s hm
      rw [setL_rep n off cs hfit, hcs] at this
      exact this
theorem sv_slice3 {S : List HP} {e : TypeId} {zv : Value} {s by_ n c : Nat} {A : Option Addr} {lo hi mx : Operand} {l h m : Int} {k1 k2 k3 : IntKind} [ut : UL P t (.slice e)] [ti : TI P e zv s by_] (hx : a.eval x = .slice A n c := by exact Ev.pf)
    (hl : a.eval lo = .int k1 l := by exact Ev.pf) (hh : a.eval hi = .int k2 h := by exact Ev.pf) (hmx : a.eval mx = .int k3 m := by exact Ev.pf) (h0 : 0 ≤ l := by omega) (h1 : l ≤ h := by omega) (h2 : h ≤ m := by omega) (h3 : m ≤ c := by omega) :
    SV P W0 S ⟨d, .slice t x (some lo) (some hi) (some mx), ty, pos, aft, gd⟩ a (.slice (if m.toNat = l.toNat then A else A.map (·.add (l.toNat * s))) (h.toNat - l.toNat) (m.toNat - l.toNat)) := ⟨fun w _ => by
  unfold execOp
  have f1 : 0 ≤ m := by omega
  have f2 : 0 ≤ h := by omega
  have f3 : h ≤ max m 0 := by omega
  have f4 : l ≤ max h 0 := by omega
  simp [hx, hl, hh, hmx, Instr.sliceAt, run_underlying ut.pf, Instr.slice, Instr.sliceBounds, Instr.sliceBound, asIntOf, sizeOf_run (P := P) (t := e), h0, h3, f1, f2, f3, f4]⟩
/-- '[]byte("a")': the literal's row, marked, is read from then on -/
theorem dy_mark {e : TypeId} (i : Nat) {E : TypeId} {g n c : Nat} {l : List UInt8} [ut : UL P t (.slice e)] [ue : UL P e (.int .u8)] (hx : a.eval x = .slice (some ⟨g, 0, none⟩) n c) (hm : L[i]? = some (own E eB (.slice (some ⟨g, 0, none⟩) n c) l)) (hl : l ≠ []) :
    DY P W0 L ⟨d, .convert t t x, ty, pos, aft, gd⟩ a fun a' L' => a.put d (.slice (some ⟨g, 0, none⟩) n c) = a' ∧ L' = L.set i (rd eB (.slice (some ⟨g, 0, none⟩) n c) l) :=
  dy_val fun w s => by
    obtain ⟨g', cap, css, sp, hv, hc1, hc2, hc3, hc4, hc5, hc6, s2⟩ := (s.at_ hm).own_open hl rfl
    injection hv with hA hn hcc
    injection hA with hA
    injection hA with hA
    subst hA; subst hcc; subst hn
    have hg := s2.cel_ (.head _)
    obtain ⟨cs, hcs⟩ : ∃ cs, css.flatten ++ sp = cs := ⟨_, rfl⟩
    rw [hcs] at hg s2
    have hsh : w.shape? g = some (E, cs.length) := by
      unfold World.shape?
      rw [hg]; simp
    have hf : w.freeze ⟨g, cs.length, none⟩ 1 = w.freeze ⟨g, cs.length, none⟩ 1 := rfl
    have hr : (convert t t (.slice (some ⟨g, 0, none⟩) l.length c)).run P w = .ok (.slice (some ⟨g, 0, none⟩) l.length c) (w.freeze ⟨g, cs.length, none⟩ 1) := by
      simp [convert, run_underlying ut.pf, run_underlying ue.pf, markStringish, hsh]
    have hh : (w.freeze ⟨g, cs.length, none⟩ 1).heap[g]? = some (.cells cs.toArray E (cs.length, cs.length + 1)) := by
      unfold World.freeze
      rw [if_neg (by decide)]
      simp [Array.getElem?_modify, hg]
    refine ⟨_, w.freeze ⟨g, cs.length, none⟩ 1, _, ?_, ⟨rfl, rfl⟩, ?_⟩
    · unfold execOp
      simp only [hx, Sem.run_bind, hr, Result.andThen_ok, Sem.run_pure]
    · have s3 := St.set_ (o' := .cells cs.toArray E (cs.length, cs.length + 1)) s2 ⟨by unfold World.freeze; rw [if_neg (by decide)], by unfold World.freeze; rw [if_neg (by decide)], by unfold World.freeze; rw [if_neg (by decide)], by unfold World.freeze; rw [if_neg (by decide)]; simp, fun k _ hk => by
        have hk : k ≠ g := fun h => hk (by rw [h])
        unfold World.freeze
        rw [if_neg (by decide)]
        simp [Array.getElem?_modify, hk, Ne.symm hk]⟩ hh
      have hall : All2 (eB.r (Hp.of (w.freeze ⟨g, cs.length, none⟩ 1))) l css := s3.im' (R := allI eB l css) (.tail _ (.head _))
      have hcss := all2_e1.1 hall
      refine St.back ?_ hm
      refine St.freeze (A := blk g (.cells cs.toArray E (cs.length, cs.length + 1))) (s3.weak fun m h hs => hs.skip fun b hb => hb.tail) ?_
      intro m h dj hA
      refine ⟨some ⟨g, 0, none⟩, c, css, rfl, hc1, all2_e1.2 hcss, .inr ⟨g, 0, cs.toArray, E, _, rfl, Hp.le_or_right dj _ _ hA, fun j u hj => ?_⟩⟩
      rw [Nat.zero_add]
      show cs.toArray[j]? = some u
      rw [← hcs]
      simp only [List.getElem?_toArray]
      rw [List.getElem?_append_left (List.getElem?_eq_some_iff.1 hj).1]
      exact hj
theorem made1 (z : Value) (n : Nat) : madeCells #[z] n = (List.replicate n z).toArray := by
  apply Array.ext
  · rw [size_madeCells]; simp
  · intro i h1 h2
    simp [madeCells, Nat.mod_one]
theorem dy_make {α : Type} {f : α → Value} {hf : ∀ a, (f a).oneCell' = true} (el : α) {e : TypeId} {zv : Value} {by_ n : Nat} {k1 k2 : IntKind} [ut : UL P t (.slice e)] [ti : TI P e zv 1 by_] (hz : f el = zv) (hx : a.eval x = .int k1 (n : Int)) (hy : a.eval y = .int k2 (n : Int)) (hb : by_ * n ≤ 281474976710656) (hn : n ≤ 1000000000) :
    DY P W0 L ⟨d, .makeSlice t x y, ty, pos, aft, gd⟩ a fun a' L' => ∃ g, a.put d (.slice (some ⟨g, 0, none⟩) n n) = a' ∧ L' = own e (e1 f hf) (.slice (some ⟨g, 0, none⟩) n n) (List.replicate n el) :: L :=
  dy_val fun w s => by
    obtain ⟨i, hi, hzz, hsz, hby⟩ := ti.pf
    have hz1 : zv.cells = #[zv] := by
      rw [← hz]
      have := hf el
      revert this
      generalize f el = v
      intro hv
      cases v <;> first | rfl | cases hv
    have hr := run_make_row (P := P) t e i zv ut.pf hi hzz hsz hz1 k1 k2 n (by rw [hby]; exact hb) (by omega) w
    refine ⟨_, w.alloc (.cells (madeCells #[zv] n) e), _, by unfold execOp; simp only [hx, hy, Sem.run_bind, hr, Result.andThen_ok, Sem.run_pure], ⟨w.heap.size, rfl, rfl⟩, ?_⟩
    refine (s.alloc (.cells (madeCells #[zv] n) e)).imp fun m h hh => ⟨(List.replicate n el).map fun b => [f b], all2_e1.2 rfl, .inr ⟨w.heap.size, n, madeCells #[zv] n, by rw [List.length_replicate], hh, by rw [List.length_replicate]; exact Nat.le_refl _, by unfold maxLen; omega, ?_, ?_⟩⟩
    · rw [size_madeCells]; show n = n * 1; rw [Nat.mul_one]
    · rw [flat_one, made1, List.length_replicate, hz.symm]
      show List.take (n * 1) (List.replicate n (f el)) = (List.replicate n el).map f
      rw [Nat.mul_one, List.map_replicate, List.take_of_length_le (by simp)]
theorem cutA0 {A : Option Addr} {c s : Nat} : cutA A c 0 s = A := by
  unfold cutA
  split
  · rfl
  · cases A with
    | none => rfl
    | some x => simp [Addr.add]
end
end Go.Proofs.Ytnjjifikogblpaa
namespace Go.Proofs.Ytnjjifikogblpaa
open Go Go.RowKit
set_option linter.unusedVariables false
set_option linter.unusedSimpArgs false
/-- an encoding that is a function -/
class EncF {α : Type} (R : Enc α) (g : outParam (α → List Value)) : Prop where
  pf : ∀ m x cs, R.r m x cs ↔ cs = g x
theorem all2_f {α : Type} {R : Enc α} {g : α → List Value} (hg : ∀ m x cs, R.r m x cs ↔ cs = g x) {m : Hp} : ∀ {l : List α} {css : List (List Value)}, All2 (R.r m) l css ↔ css = l.map g
  | [], [] => by simp [All2]
  | [], c :: cs => by simp [All2]
  | x :: l, [] => by simp [All2]
  | x :: l, c :: cs => by
    simp only [All2, List.map_cons, List.cons.injEq]
    rw [hg, all2_f hg]
section
variable {W0 w : World} {L : List HP}
theorem flat_gl {α : Type} {g : α → List Value} {sz : Nat} (hlen : ∀ x, (g x).length = sz) : ∀ l : List α, (l.map g).flatten.length = l.length * sz
  | [] => by simp
  | x :: l => by
    rw [List.map_cons, List.flatten_cons, List.length_append, hlen, flat_gl hlen l, List.length_cons, Nat.succ_mul]
    omega
theorem St.own_celG {α : Type} {R : Enc α} {g : α → List Value} (hg : ∀ m x cs, R.r m x cs ↔ cs = g x) {E : TypeId} {v : Value} {l : List α} (s : St W0 w (own E R v l :: L)) (hl : l ≠ []) :
    ∃ b cap sp, v = .slice (some ⟨b, 0, none⟩) l.length cap ∧ l.length ≤ cap ∧ cap ≤ maxLen ∧ sp.length = cap * R.sz - l.length * R.sz ∧ St W0 w (cel b ((l.map g).flatten ++ sp) E :: L) := by
  have hlen : ∀ x, (g x).length = R.sz := fun x => R.len ((hg (Hp.none) x (g x)).2 rfl)
  have s1 : St W0 w (ex (fun q : Nat × Nat × List Value => Go.Proofs.Ytnjjifikogblpaa.sp [pur (v = .slice (some ⟨q.1, 0, none⟩) l.length q.2.1 ∧ l.length ≤ q.2.1 ∧ q.2.1 ≤ maxLen ∧ q.2.2.length = q.2.1 * R.sz - l.length * R.sz), cel q.1 ((l.map g).flatten ++ q.2.2) E]) :: L) := by
    refine s.imp ?_
    rintro m h ⟨css, ha, k⟩
    rcases k with ⟨_, h0⟩ | ⟨b, cap, cur, hv, hb, hc, hm, hs, ht⟩
    · exact absurd h0 hl
    · have hcs := (all2_f hg).1 ha
      subst hcs
      have hcur : cur.toList = (l.map g).flatten ++ cur.toList.drop (l.length * R.sz) := by rw [← ht, List.take_append_drop]
      have hcell : Obj.cells ((l.map g).flatten ++ cur.toList.drop (l.length * R.sz)).toArray E (0, 0) = Obj.cells cur E (0, 0) := by rw [← hcur]
      refine ⟨(b, cap, cur.toList.drop (l.length * R.sz)), Hp.none, h, Hp.none_dj _, Hp.none_le _, Hp.le_refl _, ⟨hv, hc, hm, by simp [hs]⟩, h, Hp.none, Hp.dj_none _, Hp.le_refl _, Hp.none_le _, ?_, trivial⟩
      show h b = some (Obj.cells ((l.map g).flatten ++ cur.toList.drop (l.length * R.sz)).toArray E (0, 0))
      rw [hcell, hb]
  obtain ⟨q, h⟩ := s1.ex_
  have h2 := h.open_
  have hp := h2.pur_
  exact ⟨q.1, q.2.1, q.2.2, hp.1, hp.2.1, hp.2.2.1, hp.2.2.2, h2.drop⟩
theorem St.cel_ownG {α : Type} {R : Enc α} {g : α → List Value} (hg : ∀ m x cs, R.r m x cs ↔ cs = g x) {E : TypeId} {l : List α} {b cap : Nat} {sp : List Value} (s : St W0 w (cel b ((l.map g).flatten ++ sp) E :: L)) (h1 : l.length ≤ cap) (h2 : cap ≤ maxLen) (h3 : sp.length = cap * R.sz - l.length * R.sz) :
    St W0 w (own E R (.slice (some ⟨b, 0, none⟩) l.length cap) l :: L) := by
  have hlen : ∀ x, (g x).length = R.sz := fun x => R.len ((hg (Hp.none) x (g x)).2 rfl)
  have hfl := flat_gl hlen l
  have hle := Nat.mul_le_mul_right R.sz h1
  refine s.imp ?_
  intro m h hc
  refine ⟨l.map g, (all2_f hg).2 rfl, .inr ⟨b, cap, ((l.map g).flatten ++ sp).toArray, rfl, hc, h1, h2, ?_, ?_⟩⟩
  · rw [List.size_toArray, List.length_append, hfl]
    omega
  · show ((l.map g).flatten ++ sp).take (l.length * R.sz) = _
    rw [← hfl, List.take_left]
end
theorem flat_set {α : Type} {g : α → List Value} {sz o : Nat} (hlen : ∀ x, (g x).length = sz) {el el' : α} {vs sp : List Value} (ho : o + vs.length ≤ sz) (he : g el' = (g el).take o ++ vs ++ (g el).drop (o + vs.length)) :
    ∀ {l : List α} {j : Nat}, l[j]? = some el → ((l.map g).flatten ++ sp).take (j * sz + o) ++ vs ++ ((l.map g).flatten ++ sp).drop (j * sz + o + vs.length) = ((l.set j el').map g).flatten ++ sp
  | [], j, h => by cases h
  | x :: l, 0, h => by
    simp only [List.getElem?_cons_zero, Option.some.injEq] at h
    subst h
    have hx := hlen x
    rw [List.set_cons_zero, List.map_cons, List.map_cons, List.flatten_cons, List.flatten_cons, he, Nat.zero_mul, Nat.zero_add]
    rw [List.append_assoc (g x), List.take_append_of_le_length (by omega), List.drop_append_of_le_length (by omega)]
    simp only [List.append_assoc]
  | x :: l, j + 1, h => by
    rw [List.getElem?_cons_succ] at h
    have hx := hlen x
    have ih := flat_set hlen ho he h (sp := sp)
    have e1 : (j + 1) * sz = sz + j * sz := by rw [Nat.succ_mul]; omega
    rw [List.set_cons_succ, List.map_cons, List.map_cons, List.flatten_cons, List.flatten_cons, e1]
    rw [List.append_assoc (g x), List.append_assoc (g x), List.take_append, List.drop_append, List.take_of_length_le (by omega), List.drop_of_length_le (by omega : (g x).length ≤ sz + j * sz + o + vs.length)]
    rw [show sz + j * sz + o - (g x).length = j * sz + o by omega, show sz + j * sz + o + vs.length - (g x).length = j * sz + o + vs.length by omega]
    rw [← ih]
    simp only [List.append_assoc, List.nil_append]
section
variable {P : Program} {W0 : World} {L : List HP} {d : Option Tmp} {t ty : TypeId} {pos : String} {aft : Array Edge} {gd : Option (Nat × Bool)} {a : Act} {x y : Operand} {v : Value}
theorem dy_storeF {e : TypeId} {zv : Value} {by_ j n c i s o : Nat} [TI P t zv 1 by_] {A : Option Addr} {α : Type} {R : Enc α} {g : α → List Value} {l : List α} {el : α} (el' : α) (hx : a.eval x = elp A j s o := by exact Ev.pf) (hy : a.eval y = v := by exact Ev.pf) (h1 : v.oneCell' = true := by first | rfl | assumption)
    (hm : L[i]? = some (own e R (.slice A n c) l) := by exact InO.pf) (hg : ∀ m x cs, R.r m x cs ↔ cs = g x := by exact EncF.pf) (hs : R.sz = s := by rfl) (hel : l[j]? = some el) (ho : o < s := by decide) (he : g el' = (g el).take o ++ [v] ++ (g el).drop (o + 1) := by rfl) :
    DY P W0 L ⟨d, .store t x y, ty, pos, aft, gd⟩ a fun a' L' => a.put d undef = a' ∧ L' = L.set i (own e R (.slice A n c) (l.set j el')) := by
  refine ⟨fun w s0 => ?_⟩
  subst hs
  have hlen : ∀ x, (g x).length = R.sz := fun x => R.len ((hg (Hp.none) x (g x)).2 rfl)
  have hj : j < l.length := (List.getElem?_eq_some_iff.1 hel).1
  obtain ⟨b, cap, sp, hv, hc1, hc2, hc3, hS2⟩ := (s0.at_ hm).own_celG hg (fun h0 => by rw [h0] at hj; simp at hj)
  injection hv with hA hn hc
  subst hA; subst hc
  subst hn
  have hb := hS2.cel_ (.head _)
  have hfl := flat_gl hlen l
  have hmul : j * R.sz + R.sz ≤ l.length * R.sz := by rw [← Nat.succ_mul]; exact Nat.mul_le_mul_right _ hj
  have hlt : j * R.sz + o < ((l.map g).flatten ++ sp).length := by rw [List.length_append, hfl]; omega
  have e1 : a.eval x = .pointer (some ⟨b, j * R.sz + o, none⟩) := by
    rw [hx]
    simp only [elp, Option.map_some, add0, Nat.zero_add]
  have hr : (execOp a.eval (⟨d, .store t x y, ty, pos, aft, gd⟩ : Oper)).run P w = .ok .skip (w.setCell ⟨b, j * R.sz + o, none⟩ v) := by
    unfold execOp; simp [e1, hy, store_run (P := P) (t := t) h1 hb (by simpa using hlt)]
  unfold Oper.wp
  rw [hr]
  refine ⟨_, ⟨rfl, rfl⟩, ?_⟩
  have h3 := hS2.setCell (i := j * R.sz + o) v
  have e2 : ((l.map g).flatten ++ sp).set (j * R.sz + o) v = ((l.set j el').map g).flatten ++ sp := by
    rw [← flat_set (vs := [v]) hlen (by simp only [List.length_cons, List.length_nil]; omega) he hel, List.set_eq_take_append_cons_drop, if_pos hlt]
    simp only [List.append_assoc, List.cons_append, List.nil_append, List.length_cons, List.length_nil, Nat.zero_add]
  rw [e2] at h3
  have h4 := St.cel_ownG hg (l := l.set j el') h3 (by simpa using hc1) hc2 (by simpa using hc3)
  rw [List.length_set] at h4
  exact h4.back hm
theorem dy_storeFA {e : TypeId} {zv : Value} {sz by_ j n c i s o : Nat} [TI P t zv sz by_] {A : Option Addr} {α : Type} {R : Enc α} {g : α → List Value} {l : List α} {el : α} {vs : List Value} (el' : α) (hx : a.eval x = elp A j s o := by exact Ev.pf) (hy : a.eval y = .agg vs.toArray := by exact Ev.pf) (h1 : (vs.all fun v => v.oneCell') = true := by rfl) (hvs : vs.length = sz := by rfl)
    (hm : L[i]? = some (own e R (.slice A n c) l) := by exact InO.pf) (hg : ∀ m x cs, R.r m x cs ↔ cs = g x := by exact EncF.pf) (hs : R.sz = s := by rfl) (hel : l[j]? = some el) (ho : o + sz ≤ s := by decide) (he : g el' = (g el).take o ++ vs ++ (g el).drop (o + vs.length) := by rfl) :
    DY P W0 L ⟨d, .store t x y, ty, pos, aft, gd⟩ a fun a' L' => a.put d undef = a' ∧ L' = L.set i (own e R (.slice A n c) (l.set j el')) := by
  refine ⟨fun w s0 => ?_⟩
  subst hs
  have hlen : ∀ x, (g x).length = R.sz := fun x => R.len ((hg (Hp.none) x (g x)).2 rfl)
  have hj : j < l.length := (List.getElem?_eq_some_iff.1 hel).1
  obtain ⟨b, cap, sp, hv, hc1, hc2, hc3, hS2⟩ := (s0.at_ hm).own_celG hg (fun h0 => by rw [h0] at hj; simp at hj)
  injection hv with hA hn hc
  subst hA; subst hc
  subst hn
  have hb := hS2.cel_ (.head _)
  have hfl := flat_gl hlen l
  have hmul : j * R.sz + R.sz ≤ l.length * R.sz := by rw [← Nat.succ_mul]; exact Nat.mul_le_mul_right _ hj
  have hlt : j * R.sz + o + sz ≤ ((l.map g).flatten ++ sp).length := by rw [List.length_append, hfl]; omega
  have e1 : a.eval x = .pointer (some ⟨b, j * R.sz + o, none⟩) := by
    rw [hx]
    simp only [elp, Option.map_some, add0, Nat.zero_add]
  have hr : (execOp a.eval (⟨d, .store t x y, ty, pos, aft, gd⟩ : Oper)).run P w = .ok .skip (w.setRow b (((l.map g).flatten ++ sp).take (j * R.sz + o) ++ vs ++ ((l.map g).flatten ++ sp).drop (j * R.sz + o + sz)).toArray) := by
    unfold execOp; simp [e1, hy, storeAgg_run (P := P) (t := t) hvs (by simpa using h1) hb (by simpa using hlt)]
  unfold Oper.wp
  rw [hr]
  refine ⟨_, ⟨rfl, rfl⟩, ?_⟩
  have h3 := hS2.setRowAt (i := 0) rfl (cs' := ((l.map g).flatten ++ sp).take (j * R.sz + o) ++ vs ++ ((l.map g).flatten ++ sp).drop (j * R.sz + o + sz))
  rw [← hvs, flat_set (vs := vs) hlen (by omega) he hel] at h3
  have h4 := St.cel_ownG hg (l := l.set j el') h3 (by simpa using hc1) hc2 (by simpa using hc3)
  rw [List.length_set] at h4
  rw [← hvs, flat_set (vs := vs) hlen (by omega) he hel]
  exact h4.back hm
end
end Go.Proofs.Ytnjjifikogblpaa
