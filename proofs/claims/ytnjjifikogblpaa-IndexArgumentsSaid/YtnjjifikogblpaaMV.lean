/-
  Slices of slices: elements with their values; rows of bare slices; append that must grow; rows cut. No program.
-/
import Derived.ArgAppend
import Derived.Test.YtnjjifikogblpaaMU
namespace Go.Proofs.Ytnjjifikogblpaa
open Go Go.RowKit
set_option linter.unusedVariables false
set_option linter.unusedSimpArgs false
instance {a : Act} {x1 x2 x3 x4 x5 x6 : Operand} {v1 v2 v3 v4 v5 v6 : Value} [h1 : Ev a x1 v1] [h2 : Ev a x2 v2] [h3 : Ev a x3 v3] [h4 : Ev a x4 v4] [h5 : Ev a x5 v5] [h6 : Ev a x6 v6] : ArgsI a #[x1, x2, x3, x4, x5, x6] #[v1, v2, v3, v4, v5, v6] := ⟨by simp [h1.pf, h2.pf, h3.pf, h4.pf, h5.pf, h6.pf]⟩
instance {a : Act} {x1 x2 x3 x4 x5 x6 x7 : Operand} {v1 v2 v3 v4 v5 v6 v7 : Value} [h1 : Ev a x1 v1] [h2 : Ev a x2 v2] [h3 : Ev a x3 v3] [h4 : Ev a x4 v4] [h5 : Ev a x5 v5] [h6 : Ev a x6 v6] [h7 : Ev a x7 v7] : ArgsI a #[x1, x2, x3, x4, x5, x6, x7] #[v1, v2, v3, v4, v5, v6, v7] := ⟨by simp [h1.pf, h2.pf, h3.pf, h4.pf, h5.pf, h6.pf, h7.pf]⟩
instance {a : Act} {x1 x2 x3 x4 x5 x6 x7 x8 : Operand} {v1 v2 v3 v4 v5 v6 v7 v8 : Value} [h1 : Ev a x1 v1] [h2 : Ev a x2 v2] [h3 : Ev a x3 v3] [h4 : Ev a x4 v4] [h5 : Ev a x5 v5] [h6 : Ev a x6 v6] [h7 : Ev a x7 v7] [h8 : Ev a x8 v8] : ArgsI a #[x1, x2, x3, x4, x5, x6, x7, x8] #[v1, v2, v3, v4, v5, v6, v7, v8] := ⟨by simp [h1.pf, h2.pf, h3.pf, h4.pf, h5.pf, h6.pf, h7.pf, h8.pf]⟩
instance {a : Act} {x1 x2 x3 x4 x5 x6 x7 x8 x9 : Operand} {v1 v2 v3 v4 v5 v6 v7 v8 v9 : Value} [h1 : Ev a x1 v1] [h2 : Ev a x2 v2] [h3 : Ev a x3 v3] [h4 : Ev a x4 v4] [h5 : Ev a x5 v5] [h6 : Ev a x6 v6] [h7 : Ev a x7 v7] [h8 : Ev a x8 v8] [h9 : Ev a x9 v9] : ArgsI a #[x1, x2, x3, x4, x5, x6, x7, x8, x9] #[v1, v2, v3, v4, v5, v6, v7, v8, v9] := ⟨by simp [h1.pf, h2.pf, h3.pf, h4.pf, h5.pf, h6.pf, h7.pf, h8.pf, h9.pf]⟩
instance {a : Act} {x1 x2 x3 x4 x5 x6 x7 x8 x9 x10 : Operand} {v1 v2 v3 v4 v5 v6 v7 v8 v9 v10 : Value} [h1 : Ev a x1 v1] [h2 : Ev a x2 v2] [h3 : Ev a x3 v3] [h4 : Ev a x4 v4] [h5 : Ev a x5 v5] [h6 : Ev a x6 v6] [h7 : Ev a x7 v7] [h8 : Ev a x8 v8] [h9 : Ev a x9 v9] [h10 : Ev a x10 v10] : ArgsI a #[x1, x2, x3, x4, x5, x6, x7, x8, x9, x10] #[v1, v2, v3, v4, v5, v6, v7, v8, v9, v10] := ⟨by simp [h1.pf, h2.pf, h3.pf, h4.pf, h5.pf, h6.pf, h7.pf, h8.pf, h9.pf, h10.pf]⟩
instance {a : Act} {x1 x2 x3 x4 x5 x6 x7 x8 x9 x10 x11 : Operand} {v1 v2 v3 v4 v5 v6 v7 v8 v9 v10 v11 : Value} [h1 : Ev a x1 v1] [h2 : Ev a x2 v2] [h3 : Ev a x3 v3] [h4 : Ev a x4 v4] [h5 : Ev a x5 v5] [h6 : Ev a x6 v6] [h7 : Ev a x7 v7] [h8 : Ev a x8 v8] [h9 : Ev a x9 v9] [h10 : Ev a x10 v10] [h11 : Ev a x11 v11] : ArgsI a #[x1, x2, x3, x4, x5, x6, x7, x8, x9, x10, x11] #[v1, v2, v3, v4, v5, v6, v7, v8, v9, v10, v11] := ⟨by simp [h1.pf, h2.pf, h3.pf, h4.pf, h5.pf, h6.pf, h7.pf, h8.pf, h9.pf, h10.pf, h11.pf]⟩
instance {a : Act} {x1 x2 x3 x4 x5 x6 x7 x8 x9 x10 x11 x12 : Operand} {v1 v2 v3 v4 v5 v6 v7 v8 v9 v10 v11 v12 : Value} [h1 : Ev a x1 v1] [h2 : Ev a x2 v2] [h3 : Ev a x3 v3] [h4 : Ev a x4 v4] [h5 : Ev a x5 v5] [h6 : Ev a x6 v6] [h7 : Ev a x7 v7] [h8 : Ev a x8 v8] [h9 : Ev a x9 v9] [h10 : Ev a x10 v10] [h11 : Ev a x11 v11] [h12 : Ev a x12 v12] : ArgsI a #[x1, x2, x3, x4, x5, x6, x7, x8, x9, x10, x11, x12] #[v1, v2, v3, v4, v5, v6, v7, v8, v9, v10, v11, v12] := ⟨by simp [h1.pf, h2.pf, h3.pf, h4.pf, h5.pf, h6.pf, h7.pf, h8.pf, h9.pf, h10.pf, h11.pf, h12.pf]⟩
/-- a slice with its value -/
structure SX (α : Type) where
  v : Value
  b : List α
def eSX {α : Type} (R : Enc α) : Enc (SX α) :=
  ⟨1, fun m x cs => cs = [x.v] ∧ Sl m R x.v x.b, fun hm ⟨e, h1⟩ => ⟨e, h1.mono hm⟩, fun ⟨e, _⟩ => by subst e; rfl,
    fun {_ x _} ⟨e, h1⟩ u hu => by
      subst e
      simp only [List.mem_cons, List.not_mem_nil, or_false] at hu
      subst hu
      exact h1.one2⟩
instance {α : Type} {R : Enc α} : Sz (eSX R) 1 := ⟨rfl⟩
instance {α : Type} {R : Enc α} {x : SX α} : EncC (eSX R) x [x.v] := ⟨fun _ _ h => h.1⟩
theorem All2.openX {α : Type} {R : Enc α} {m : Hp} : ∀ {l : List (List α)} {css : List (List Value)}, All2 ((eSl R).r m) l css → ∃ l' : List (SX α), l'.map SX.b = l ∧ All2 ((eSX R).r m) l' css
  | [], [], _ => ⟨[], rfl, trivial⟩
  | b :: l, c :: css, ⟨⟨v, e, h⟩, t⟩ => by
    obtain ⟨l', h1, h2⟩ := All2.openX t
    exact ⟨⟨v, b⟩ :: l', by rw [List.map_cons, h1], ⟨e, h⟩, h2⟩
  | [], _ :: _, h => h.elim
  | _ :: _, [], h => h.elim
theorem All2.shutX {α : Type} {R : Enc α} {m : Hp} : ∀ {l : List (SX α)} {css : List (List Value)}, All2 ((eSX R).r m) l css → All2 ((eSl R).r m) (l.map SX.b) css
  | [], [], _ => trivial
  | x :: l, c :: css, ⟨⟨e, h⟩, t⟩ => ⟨⟨x.v, e, h⟩, All2.shutX t⟩
  | [], _ :: _, h => h.elim
  | _ :: _, [], h => h.elim
theorem Sl.openX {α : Type} {R : Enc α} {m : Hp} {v : Value} {l : List (List α)} (h : Sl m (eSl R) v l) : ∃ l' : List (SX α), l'.map SX.b = l ∧ Sl m (eSX R) v l' := by
  obtain ⟨A, cap, css, hv, hc, ha, hr⟩ := h
  obtain ⟨l', h1, h2⟩ := ha.openX
  have hl : l'.length = l.length := by rw [← h1, List.length_map]
  refine ⟨l', h1, A, cap, css, by rw [hl]; exact hv, by rw [hl]; exact hc, h2, ?_⟩
  rcases hr with h | h
  · left
    subst h
    exact List.length_eq_zero_iff.1 hl
  · exact .inr h
/-- a row of slices, bare -/
abbrev SlV := Option Addr × Nat × Nat
theorem slv_one (q : SlV) : (Value.slice q.1 q.2.1 q.2.2).oneCell' = true := rfl
abbrev eSV : Enc SlV := e1 (fun q => .slice q.1 q.2.1 q.2.2) slv_one
theorem mid_get {α : Type} {d r : List α} {q : α} {i : Nat} (h : d.length = i) : (d ++ q :: r)[i]? = some q := by
  rw [List.getElem?_append_right (by omega), h, Nat.sub_self]
  rfl
theorem mid_set {α : Type} {d r : List α} {q q' : α} {i : Nat} (h : d.length = i) : (d ++ q :: r).set i q' = d ++ q' :: r := by
  rw [List.set_append_right _ _ (by omega), h, Nat.sub_self]
  rfl
/-- what bare slices read as -/
def faI {α : Type} (R : Enc α) (vs : List SlV) (ls : List (List α)) : Im := ⟨fun m => All2 (fun q l => Sl m R (.slice q.1 q.2.1 q.2.2) l) vs ls, fun hm h => h.imp fun _ _ k => k.mono hm⟩
def faS {α : Type} (R : Enc α) (vs : List SlV) (ls : List (List α)) : HP := im (faI R vs ls)
theorem flat_take {sz : Nat} : ∀ (k : Nat) (css : List (List Value)), (∀ x ∈ css, x.length = sz) → css.flatten.take (k * sz) = (css.take k).flatten
  | 0, css, _ => by simp
  | k + 1, [], _ => by simp
  | k + 1, c :: r, h => by
    have hc := h c (.head _)
    rw [List.take_succ_cons, List.flatten_cons, List.flatten_cons, ← flat_take k r fun x hx => h x (.tail _ hx), List.take_append, List.take_of_length_le (by rw [hc, Nat.succ_mul]; omega)]
    congr 2
    rw [hc, Nat.succ_mul]; omega
section
variable {P : Program} {W0 w : World} {L : List HP}
theorem CT_openX {α : Type} {Re : Enc α} {f : FuncId} {args : Array Value} {R : Value → List HP → Prop} {v : Value} {l : List (List α)} (hv : rd (eSl Re) v l ∈ L) (k : ∀ l' : List (SX α), l'.map SX.b = l → CT P f args W0 (rd (eSX Re) v l' :: L) R) : CT P f args W0 L R := ⟨fun w s => by
  obtain ⟨h1, h2, h3, h4, m, h, hm, hw, hh, d, hL⟩ := s
  obtain ⟨a, _, hs⟩ := hL.mem hv
  obtain ⟨l', e, hs'⟩ := Sl.openX hs
  exact (k l' e).run w ⟨h1, h2, h3, h4, m, h, hm, hw, hh, d, Hp.none, h, Hp.none_dj _, Hp.none_le _, Hp.le_refl _, hs', hL⟩⟩
theorem C_openX {α : Type} {Re : Enc α} {c : Code} {a : Act} {Q : Exit → Act → World → Prop} {v : Value} {l : List (List α)} (hv : rd (eSl Re) v l ∈ L) (k : ∀ l' : List (SX α), l'.map SX.b = l → CL P W0 (rd (eSX Re) v l' :: L) c Q a) : CL P W0 L c Q a := ⟨fun w s => by
  obtain ⟨h1, h2, h3, h4, m, h, hm, hw, hh, d, hL⟩ := s
  obtain ⟨a, _, hs⟩ := hL.mem hv
  obtain ⟨l', e, hs'⟩ := Sl.openX hs
  exact (k l' e).run w ⟨h1, h2, h3, h4, m, h, hm, hw, hh, d, Hp.none, h, Hp.none_dj _, Hp.none_le _, Hp.le_refl _, hs', hL⟩⟩
theorem sub_peekX {α : Type} {R : Enc α} {v : Value} {l : List (SX α)} {j : Nat} {x : SX α} (hm : rd (eSX R) v l ∈ L) (hx : l[j]? = some x) : Sub L (rd R x.v x.b :: L) := fun m h s => by
  obtain ⟨a, _, A, cap, css, _, _, ha, _⟩ := s.mem hm
  obtain ⟨cs, _, hc⟩ := ha.get hx
  exact ⟨Hp.none, h, Hp.none_dj _, Hp.none_le _, Hp.le_refl _, hc.2, s⟩
theorem getX {α : Type} {l' : List (SX α)} {l : List (List α)} {i : Nat} {x : SX α} (h : l'.map SX.b = l) (hx : l'[i]? = some x) : l[i]? = some x.b := by
  rw [← h, List.getElem?_map, hx]; rfl
theorem sub_fa0 {α : Type} {R : Enc α} : Sub L (faS R [] [] :: L) := fun m h s => ⟨Hp.none, h, Hp.none_dj _, Hp.none_le _, Hp.le_refl _, trivial, s⟩
theorem sub_faS {α : Type} {R : Enc α} {A : Option Addr} {n c : Nat} {l : List α} {vs : List SlV} {ls : List (List α)} : Sub (rd R (.slice A n c) l :: faS R vs ls :: L) (faS R (vs ++ [(A, n, c)]) (ls ++ [l]) :: L) := by
  rintro m h ⟨a, b, d, ha, hb, hA, c9, e, d2, hc, he, hB, hL⟩
  have hB' : All2 (fun q l => Sl m R (.slice q.1 q.2.1 q.2.2) l) vs ls := hB
  have hA' : Sl m R (.slice A n c) l := hA
  exact ⟨Hp.none, e, Hp.none_dj _, Hp.none_le _, he.trans hb, hB'.append ⟨hA', trivial⟩, hL⟩
theorem all2_fa {α : Type} {R : Enc α} {m : Hp} : ∀ {vs : List SlV} {ls : List (List α)} {css : List (List Value)}, All2 (fun q l => Sl m R (.slice q.1 q.2.1 q.2.2) l) vs ls → All2 (eSV.r m) vs css → All2 ((eSl R).r m) ls css
  | [], [], [], _, _ => trivial
  | q :: vs, l :: ls, c :: css, ⟨h1, h2⟩, ⟨k1, k2⟩ => ⟨⟨_, k1, h1⟩, all2_fa h2 k2⟩
  | [], [], _ :: _, _, h => h.elim
  | _ :: _, _ :: _, [], _, h => h.elim
  | [], _ :: _, _, h, _ => h.elim
  | _ :: _, [], _, h, _ => h.elim
theorem sub_faOwn {α : Type} {R : Enc α} {E : TypeId} {v : Value} {vs : List SlV} {ls : List (List α)} : Sub (faS R vs ls :: own E eSV v vs :: L) (own E (eSl R) v ls :: L) := by
  rintro m h ⟨a, b, d, ha, hb, hA, c, e, d2, hc, he, hB, hL⟩
  have hA' : All2 (fun q l => Sl m R (.slice q.1 q.2.1 q.2.2) l) vs ls := hA
  have hlen : vs.length = ls.length := hA'.length
  obtain ⟨css, k1, k2⟩ := hB
  refine ⟨c, e, d2, hc.trans hb, he.trans hb, ⟨css, all2_fa hA' k1, ?_⟩, hL⟩
  rcases k2 with ⟨h1, h2⟩ | ⟨g, cap, cur, h1, h2, h3, h4, h5, h6⟩
  · left
    subst h2
    exact ⟨h1, List.length_eq_zero_iff.1 hlen.symm⟩
  · right
    exact ⟨g, cap, cur, by rw [← hlen]; exact h1, h2, by rw [← hlen]; exact h3, h4, h5, by rw [← hlen]; exact h6⟩
/-- a row of one's own, cut to its first elements -/
theorem sub_ownCut {α : Type} {R : Enc α} {E : TypeId} {A : Option Addr} {n c k : Nat} {l : List α} (hk : k ≤ n) : Sub (own E R (.slice A n c) l :: L) (own E R (.slice A k c) (l.take k) :: L) := by
  rintro m h ⟨a, b, d, ha, hb, hA, hL⟩
  refine ⟨a, b, d, ha, hb, ?_, hL⟩
  obtain ⟨css, k1, k2⟩ := hA
  refine ⟨css.take k, k1.take k, ?_⟩
  rcases k2 with ⟨h1, h2⟩ | ⟨g, cap, cur, h1, h2, h3, h4, h5, h6⟩
  · left
    injection h1 with e1 e2 e3
    subst h2
    have : k = 0 := by omega
    subst this
    exact ⟨by rw [e1, e3], rfl⟩
  · right
    injection h1 with e1 e2 e3
    subst e2
    have hl : (l.take k).length = k := by rw [List.length_take]; omega
    refine ⟨g, cap, cur, by rw [hl, e1, e3], h2, by omega, h4, h5, ?_⟩
    rw [hl, ← flat_take k css k1.lens, ← h6, List.take_take]
    congr 1
    have := Nat.mul_le_mul_right R.sz hk
    omega
theorem src_f {α : Type} {R : Enc α} {g : α → List Value} (hg : ∀ m x cs, R.r m x cs ↔ cs = g x) {y : Value} {l : List α} (S : St W0 w L) (hy : Src L R y l) (hl : l ≠ []) :
    ∃ ad cap, y = .slice (some ad) l.length cap ∧ ∀ j u, (l.map g).flatten[j]? = some u → w.cell? (ad.add j) = some u := by
  obtain ⟨h1, h2, h3, h4, m, h, hm, hw, hh, d, hL⟩ := S
  obtain ⟨A, cap, css, rfl, ha, hr⟩ := hy.get hL hw hh
  have hcs := (all2_f hg).1 ha
  subst hcs
  rcases hr with h | ⟨b', off, cs, T, fr, hA', hb', hcs⟩
  · exact absurd h hl
  · subst hA'
    refine ⟨_, cap, rfl, fun j u hj => ?_⟩
    have hb'' : w.heap[b']? = some (.cells cs T fr) := hb'
    rw [add0]
    simp [World.cell?, hb'', hcs j u hj]
/-- append to a slice that is read again and has no room -/
theorem append_grow {t ty e : TypeId} {z : Value} {s by_ : Nat} [u : UL P t (.slice e)] [ti : TI P e z s by_] (hzs : z.cells.size = s) (hs0 : 0 < s) {α : Type} {R : Enc α} {g : α → List Value} (hg : ∀ m x cs, R.r m x cs ↔ cs = g x) (hR : R.sz = s)
    {A : Option Addr} {n c c0 : Nat} {y : Value} {l l2 : List α} (S : St W0 w L) (hx : Src L R (.slice A n c0) l) (hl : l ≠ []) (hy : Src L R y l2) (hl2 : l2 ≠ []) (hgr : c < l.length + l2.length) (hb : (l.length + l2.length) * by_ ≤ 140737488355328) (h63 : l.length + l2.length ≤ maxLen) :
    ∃ A' c' w', (Builtin.append_ #[t, t] ty #[.slice A n c, y]).run P w = .ok (.slice A' (l.length + l2.length) c') w' ∧ St W0 w' (own e R (.slice A' (l.length + l2.length) c') (l ++ l2) :: L) := by
  subst hR
  obtain ⟨i, hi, hz, hsz, hby⟩ := ti.pf
  obtain ⟨ad1, cap1, e1, k1⟩ := src_f hg S hx hl
  obtain ⟨ad2, cap2, rfl, k2⟩ := src_f hg S hy hl2
  injection e1 with e1 e2 e3
  subst e1 e2 e3
  have hlen : ∀ x, (g x).length = R.sz := fun x => R.len ((hg (Hp.none) x (g x)).2 rfl)
  obtain ⟨v', w', hr, hown, hgw⟩ := run_append_arg_grows (P := P) w t ty e i z R.sz by_ u.pf hi hz hsz hby hzs hs0 ad1 l.length c (l.map g).flatten (flat_gl hlen l) k1 ad2 l2.length cap2 (l2.map g).flatten (flat_gl hlen l2) k2 hgr h63 hb
  have s1 := S.own_nil e R
  obtain ⟨css3, _, _, _, k⟩ := s1.own_turn
  have hlen2 : (l ++ l2).length = l.length + l2.length := List.length_append
  have hfl : ((l ++ l2).map g).flatten = (l.map g).flatten ++ (l2.map g).flatten := by rw [List.map_append, List.flatten_append]
  have hown2 := hown.2
  rcases hown2 with ⟨_, h0⟩ | ⟨gg, cap, cur, hv, hgg, hcc⟩
  · have := List.length_pos_iff.2 hl
    omega
  subst hv
  refine ⟨_, _, _, hr, k (l' := l ++ l2) (css' := (l ++ l2).map g) (fun m h _ _ => (all2_f hg).2 rfl) ?_ ?_ ?_⟩
  · rw [hfl, hlen2]
    exact ⟨hown.1, .inr ⟨gg, cap, cur, rfl, Nat.zero_le _, hcc⟩⟩
  · exact hgw
  · right
    have hg4 := run_append_grow (P := P) (w := w) t ty e i z u.pf hi hz ad1 l.length c (l.map g).flatten (by rw [hsz]; exact flat_gl hlen l) k1 ad2 l2.length cap2 (l2.map g).flatten (by rw [hsz]; exact flat_gl hlen l2) k2 hgr (by unfold maxLen at h63; omega) (growslice_fits hgr (by rw [hby]; exact hb))
    rw [hg4] at hr
    injection hr with e1 _
    injection e1 with e1 _ _
    rw [← e1]
    rfl
theorem dy_appG {t ty e : TypeId} {zv : Value} {sz by_ : Nat} [u : UL P t (.slice e)] [ti : TI P e zv sz by_] {x y : Operand} {a : Act} {d : Option Tmp} {pos : String} {aft : Array Edge} {gd : Option (Nat × Bool)} {A : Option Addr} {n c c0 : Nat} {v' : Value} {α : Type} {R : Enc α} {g : α → List Value} {l l2 : List α} {N : Nat}
    (hs1 : Src L R (.slice A n c0) l) (hx : a.eval x = .slice A n c := by exact Ev.pf) (hy : a.eval y = v' := by exact Ev.pf) (hs2 : Src L R v' l2 := by exact Sc.pf) (hl : l ≠ []) (hl2 : l2 ≠ [] := by simp) (hg : ∀ m x cs, R.r m x cs ↔ cs = g x := by exact EncF.pf) (hc : c < l.length + l2.length) (hzs : zv.cells.size = sz := by rfl) (hs0 : 0 < sz := by decide) (hR : R.sz = sz := by rfl)
    (hN : l.length + l2.length = N := by (try simp only [List.length_append, List.length_cons, List.length_nil, Nat.zero_add, Nat.add_zero, Nat.reduceAdd]) <;> exact rfl) (hb : N * by_ ≤ 140737488355328 := by omega) (h63 : N ≤ 9223372036854775807 := by omega) :
    DY P W0 L ⟨d, .call { callee := .builtin .append, args := #[x, y], argTypes := #[t, t] }, ty, pos, aft, gd⟩ a fun a' L' => ∃ A2 c2, a.put d (.slice A2 N c2) = a' ∧ L' = own e R (.slice A2 N c2) (l ++ l2) :: L :=
  dy_val fun w s => by
    subst hN
    obtain ⟨A2, c2, w', hr, hS'⟩ := append_grow (P := P) (t := t) (ty := ty) (e := e) hzs hs0 hg hR s hs1 hl hs2 hl2 hc hb (by unfold maxLen; omega)
    refine ⟨_, w', _, ?_, ⟨A2, c2, rfl, rfl⟩, hS'⟩
    unfold execOp
    simp only [resolve, invoke, builtin, Sem.run_bind, Sem.run_pure, Result.andThen_ok, List.map_toArray, List.map_cons, List.map_nil, hx, hy, hr]
/-- append to a slice cut to its length -/
theorem dy_appC {t ty e : TypeId} {zv : Value} {sz by_ : Nat} [u : UL P t (.slice e)] [ti : TI P e zv sz by_] {x y : Operand} {a : Act} {d : Option Tmp} {pos : String} {aft : Array Edge} {gd : Option (Nat × Bool)} {A : Option Addr} {n c0 : Nat} {v' : Value} {α : Type} {R : Enc α} {g : α → List Value} {l l2 : List α} {N : Nat}
    (hs1 : Src L R (.slice A n c0) l) (hn : n = l.length) (hnil : l = [] → A = none) (hx : a.eval x = .slice A n n := by exact Ev.pf) (hy : a.eval y = v' := by exact Ev.pf) (hs2 : Src L R v' l2 := by exact Sc.pf) (hl2 : l2 ≠ [] := by simp) (hg : ∀ m x cs, R.r m x cs ↔ cs = g x := by exact EncF.pf) (hzs : zv.cells.size = sz := by rfl) (hs0 : 0 < sz := by decide) (hR : R.sz = sz := by rfl)
    (hN : n + l2.length = N := by (try simp only [List.length_append, List.length_cons, List.length_nil, Nat.zero_add, Nat.add_zero, Nat.reduceAdd]) <;> exact rfl) (hb : N * by_ ≤ 140737488355328 := by omega) (h63 : N ≤ 9223372036854775807 := by omega) :
    DY P W0 L ⟨d, .call { callee := .builtin .append, args := #[x, y], argTypes := #[t, t] }, ty, pos, aft, gd⟩ a fun a' L' => ∃ A2 c2, a.put d (.slice A2 N c2) = a' ∧ L' = own e R (.slice A2 N c2) (l ++ l2) :: L := by
  subst hn
  by_cases hl : l = []
  · subst hl
    obtain rfl := hnil rfl
    refine dy_val fun w s => ?_
    subst hN
    have s1 := s.own_nil e R
    have hs2' : Src L R v' l2 := hs2
    obtain ⟨v2, w', hr, hS'⟩ := append_run (P := P) (t := t) (ty := ty) (e := e) hzs hs0 hR s1 hs2' (by simpa using hb) (by unfold maxLen; simpa using h63)
    obtain ⟨A2, c2, rfl, _⟩ := (hS'.rdo (.head _)).form
    rw [List.length_append] at hr hS'
    refine ⟨_, w', _, ?_, ⟨A2, c2, rfl, rfl⟩, hS'⟩
    unfold execOp
    simp only [resolve, invoke, builtin, Sem.run_bind, Sem.run_pure, Result.andThen_ok, List.map_toArray, List.map_cons, List.map_nil, hx, hy, List.length_nil, hr]
  · exact dy_appG (l := l) (l2 := l2) hs1 hx hy hs2 hl hl2 hg (by have := List.length_pos_iff.2 hl2; omega) hzs hs0 hR hN hb h63
/-- one assertion turned where it stands -/
theorem C_turn (i : Nat) {A B : HP} {L' : List HP} {c : Code} {a : Act} {Q : Exit → Act → World → Prop} (hS : ∀ L : List HP, Sub (A :: L) (B :: L)) (k : CL P W0 L' c Q a) (h : L[i]? = some A := by rfl) (hL : L.set i B = L' := by exact SAt.pf) : CL P W0 L c Q a := by
  subst hL
  exact ⟨fun w s => k.run w (((hS _).st (s.at_ h)).back h)⟩
theorem O_turn (i : Nat) {A B : HP} {L' : List HP} {ops : Array Oper} {rest : List Oper} {a : Act} {Q : Exit → Act → World → Prop} (hS : ∀ L : List HP, Sub (A :: L) (B :: L)) (k : OL P W0 L' ops Q rest a) (h : L[i]? = some A := by rfl) (hL : L.set i B = L' := by exact SAt.pf) : OL P W0 L ops Q rest a := by
  subst hL
  exact ⟨fun w s => k.run w (((hS _).st (s.at_ h)).back h)⟩
theorem C_dup {α : Type} {R : Enc α} {v : Value} {l : List α} {c : Code} {a : Act} {Q : Exit → Act → World → Prop} (h : rd R v l ∈ L) (k : CL P W0 (rd R v l :: L) c Q a) : CL P W0 L c Q a := C_sub (sub_dup h) k
/-- x[:h:m] -/
theorem sv_sliceN3 {S : List HP} {t e ty : TypeId} {zv : Value} {s by_ n c h' m' : Nat} {A : Option Addr} {x hi mx : Operand} {a : Act} {d : Option Tmp} {pos : String} {aft : Array Edge} {gd : Option (Nat × Bool)} {h m : Int} {k2 k3 : IntKind} [ut : UL P t (.slice e)] [ti : TI P e zv s by_] (hx : a.eval x = .slice A n c := by exact Ev.pf)
    (hh : a.eval hi = .int k2 h := by exact Ev.pf) (hmx : a.eval mx = .int k3 m := by exact Ev.pf) (eh : h = (h' : Int) := by rfl) (em : m = (m' : Int) := by rfl) (h2 : h' ≤ m' := by omega) (h3 : m' ≤ c := by omega) :
    SV P W0 S ⟨d, .slice t x none (some hi) (some mx), ty, pos, aft, gd⟩ a (.slice A h' m') := ⟨fun w _ => by
  subst eh em
  have e1 : (if m' = 0 then A else Option.map (fun x => x.add 0) A) = A := by
    split
    · rfl
    · cases A <;> simp [Addr.add]
  have f3 : (h' : Int) ≤ max (m' : Int) 0 := by omega
  have f4 : (m' : Int) ≤ (c : Int) := by omega
  unfold execOp
  simp [hx, hh, hmx, Instr.sliceAt, run_underlying ut.pf, Instr.slice, Instr.sliceBounds, Instr.sliceBound, asIntOf, sizeOf_run (P := P) (t := e), h2, h3]
  intro _
  cases A <;> simp [Addr.add]⟩
/-- x[:h], up to the room -/
theorem sv_sliceH {S : List HP} {t e ty : TypeId} {zv : Value} {s by_ n c h' : Nat} {A : Option Addr} {x hi : Operand} {a : Act} {d : Option Tmp} {pos : String} {aft : Array Edge} {gd : Option (Nat × Bool)} {h : Int} {k2 : IntKind} [ut : UL P t (.slice e)] [ti : TI P e zv s by_] (hx : a.eval x = .slice A n c := by exact Ev.pf)
    (hh : a.eval hi = .int k2 h := by exact Ev.pf) (eh : h = (h' : Int) := by rfl) (h3 : h' ≤ c := by omega) :
    SV P W0 S ⟨d, .slice t x none (some hi) none, ty, pos, aft, gd⟩ a (.slice A h' c) := ⟨fun w _ => by
  subst eh
  unfold execOp
  simp [hx, hh, Instr.sliceAt, run_underlying ut.pf, Instr.slice, Instr.sliceBounds, Instr.sliceBound, asIntOf, sizeOf_run (P := P) (t := e), h3]
  intro _
  cases A <;> simp [Addr.add]⟩
theorem C_cap (i : Nat) {α : Type} {E : TypeId} {R : Enc α} {A : Option Addr} {n c : Nat} {l : List α} {cd : Code} {a : Act} {Q : Exit → Act → World → Prop} (k : n ≤ c → CL P W0 L cd Q a) (h : L[i]? = some (own E R (.slice A n c) l) := by rfl) : CL P W0 L cd Q a :=
  C_fact (φ := n ≤ c) (fun w s => by
    obtain ⟨A', cap, e, hc⟩ := ((Src.sl (.inr ⟨E, List.mem_of_getElem? h⟩ : Src L R (.slice A n c) l) s).form)
    injection e with e1 e2 e3
    omega) k
theorem C_cap9 (i : Nat) {α : Type} {R : Enc α} {A : Option Addr} {n c : Nat} {l : List α} {cd : Code} {a : Act} {Q : Exit → Act → World → Prop} (k : n ≤ c → CL P W0 L cd Q a) (h : L[i]? = some (rd R (.slice A n c) l) := by rfl) : CL P W0 L cd Q a :=
  C_fact (φ := n ≤ c) (fun w s => by
    obtain ⟨A', cap, e, hc⟩ := ((Src.sl (.inl (List.mem_of_getElem? h) : Src L R (.slice A n c) l) s).form)
    injection e with e1 e2 e3
    omega) k
theorem dy_make0 {t e ty : TypeId} {zv : Value} {sz by_ n : Nat} {x y : Operand} {a : Act} {d : Option Tmp} {pos : String} {aft : Array Edge} {gd : Option (Nat × Bool)} {k1 k2 : IntKind} {α : Type} (R : Enc α) [ut : UL P t (.slice e)] [ti : TI P e zv sz by_] (hx : a.eval x = .int k1 0 := by exact Ev.pf) (hy : a.eval y = .int k2 (n : Int) := by exact Ev.pf) (hb : by_ * n ≤ 281474976710656 := by omega) (hn : n ≤ 1000000000 := by omega) (hR : R.sz = sz := by rfl) :
    DY P W0 L ⟨d, .makeSlice t x y, ty, pos, aft, gd⟩ a fun a' L' => ∃ g, a.put d (.slice (some ⟨g, 0, none⟩) 0 n) = a' ∧ L' = own e R (.slice (some ⟨g, 0, none⟩) 0 n) ([] : List α) :: L :=
  dy_val fun w s => by
    obtain ⟨i, hi, hzz, hsz, hby⟩ := ti.pf
    have hb' : (i.bytes : Int) * (n : Int) ≤ 281474976710656 := by
      have h : ((i.bytes * n : Nat) : Int) ≤ 281474976710656 := by rw [hby]; omega
      rwa [Int.natCast_mul] at h
    have hr := run_make (P := P) w t e i zv ut.pf hi hzz k1 k2 0 n (Int.le_refl _) (by omega) hb' (by omega)
    rw [Int.toNat_zero, Int.toNat_natCast, hsz] at hr
    refine ⟨_, w.alloc (.cells (madeCells zv.cells (n * sz)) e), _, by unfold execOp; simp only [hx, hy, Sem.run_bind, hr, Result.andThen_ok, Sem.run_pure], ⟨w.heap.size, rfl, rfl⟩, ?_⟩
    refine (s.alloc (.cells (madeCells zv.cells (n * sz)) e)).imp fun m h hh => ⟨[], trivial, .inr ⟨w.heap.size, n, madeCells zv.cells (n * sz), rfl, hh, Nat.zero_le _, by unfold maxLen; omega, ?_, ?_⟩⟩
    · rw [size_madeCells, hR]
    · simp
end
end Go.Proofs.Ytnjjifikogblpaa
