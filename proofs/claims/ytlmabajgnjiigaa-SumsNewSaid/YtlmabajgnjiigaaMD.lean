/-
  My own layer over the kit's walk: a region that draws its order, walked once, in the class of worlds in which my assertions hold.
-/
import Derived.Deep.Quiet
import Derived.Lib.AppendStr
import Derived.Lib.SliceRun
import Derived.Test.YtlmabajgnjiigaaMC
namespace Go.Proofs.Ytlmabajgnjiigaa
open Go Go.RowKit
set_option linter.unusedVariables false
set_option linter.unusedSimpArgs false
section
variable {P : Program} {W0 w : World} {L : List HP} {ops : Array Oper} {rest : List Oper} {o : Oper} {a : Act} {Q : Act → Prop}
/-- the lexical walk in the class of my assertions -/
def wq (P : Program) (W0 : World) (L : List HP) (ops : Array Oper) (Q : Act → Prop) (l : List Oper) (a : Act) : Prop := wpQuiet P ops (fun w' => St W0 w' L) Q l a
theorem wp_region_st {id : Nat} {Q : Exit → Act → World → Prop} {l : List Oper} (hS : St W0 w L) (hm : P.follows .mixedOrders = true) (hB : Region.lexB .any l.toArray = true)
    (h : wq P W0 L l.toArray (fun a' => ∀ w', St W0 w' L → Q .normal a' w') l a) : (Code.region id l.toArray true).wp P Q a w :=
  wp_region_quiet (C := fun w' => St W0 w' L) hm hB hS.drew (by simpa [wq] using h)
theorem wq_nil (h : Q a) : wq P W0 L ops Q [] a := h
theorem q_run (hw : Region.wanted o (yielded ops a.tmps) = true) {v : Value} (hr : ∀ w, St W0 w L → (execOp a.eval o).run P w = .ok (.value v) w) (k : wq P W0 L ops Q rest (a.put o.dst v)) : wq P W0 L ops Q (o :: rest) a := by
  show (if Region.wanted o (yielded ops a.tmps) then _ else _)
  rw [if_pos hw]
  refine ⟨v, fun w' h' => ?_, k⟩
  show Oper.quietUpon P _ w' v ((execOp a.eval o).run P w')
  rw [hr w' h']
  exact ⟨rfl, rfl⟩
theorem q_off (hw : Region.wanted o (yielded ops a.tmps) = false) (k : wq P W0 L ops Q rest (a.put o.dst undef)) : wq P W0 L ops Q (o :: rest) a := by
  show (if Region.wanted o (yielded ops a.tmps) then _ else _)
  rw [if_neg (by rw [hw]; simp)]
  exact k
theorem q_call {f : FuncId} (eg : Enters P f) {args : List Value} {xs : Array Operand} {ats : Array TypeId} {dst : Option Tmp} {ty : TypeId} {pos : String} {aft : Array Edge} {gd : Option (Nat × Bool)}
    (hw : Region.wanted ⟨dst, .call { callee := .value (.func f), args := xs, argTypes := ats }, ty, pos, aft, gd⟩ (yielded ops a.tmps) = true) (ha : xs.toList.map a.eval = args) {v : Value}
    (hc : ∀ w, St W0 w L → Calls P f args.toArray w fun e w' => e = .returned v ∧ St W0 w' L)
    (k : wq P W0 L ops Q rest (a.put dst v)) : wq P W0 L ops Q (⟨dst, .call { callee := .value (.func f), args := xs, argTypes := ats }, ty, pos, aft, gd⟩ :: rest) a := by
  show (if Region.wanted _ (yielded ops a.tmps) then _ else _)
  rw [if_pos hw]
  refine ⟨v, fun w' h' => ?_, k⟩
  show Oper.quietUpon P _ w' v ((execOp a.eval _).run P w')
  have hr : (execOp a.eval (⟨dst, .call { callee := .value (.func f), args := xs, argTypes := ats }, ty, pos, aft, gd⟩ : Oper)).run P w' = .ok (.enter f args.toArray) w' := by
    have e : args.toArray = xs.map a.eval := by rw [← ha, ← Array.toList_map]
    rw [e]
    unfold execOp
    simp [resolve, Act.eval, Deferred.ofValue, invoke]
    exact eg _ _
  rw [hr]
  exact ⟨rfl, hc w' h'⟩
theorem q_move {x : Operand} {v : Value} {dst : Option Tmp} {ty : TypeId} {pos : String} {aft : Array Edge} {gd : Option (Nat × Bool)} (hw : Region.wanted ⟨dst, .move x, ty, pos, aft, gd⟩ (yielded ops a.tmps) = true) (hx : a.eval x = v)
    (k : wq P W0 L ops Q rest (a.put dst v)) : wq P W0 L ops Q (⟨dst, .move x, ty, pos, aft, gd⟩ :: rest) a :=
  q_run hw (fun w _ => by unfold execOp; simp [hx]) k
theorem q_assign {x : Operand} {v : Value} {dst : Option Tmp} {ty : TypeId} {pos : String} {aft : Array Edge} {gd : Option (Nat × Bool)} (hw : Region.wanted ⟨dst, .assign x, ty, pos, aft, gd⟩ (yielded ops a.tmps) = true) (hx : a.eval x = v)
    (k : wq P W0 L ops Q rest (a.put dst v)) : wq P W0 L ops Q (⟨dst, .assign x, ty, pos, aft, gd⟩ :: rest) a :=
  q_run hw (fun w _ => by unfold execOp; simp [hx]) k
theorem q_binop {b : BinOp} {t u : TypeId} {x y : Operand} {v1 v2 v : Value} {dst : Option Tmp} {ty : TypeId} {pos : String} {aft : Array Edge} {gd : Option (Nat × Bool)} (hw : Region.wanted ⟨dst, .binOp b t x y u, ty, pos, aft, gd⟩ (yielded ops a.tmps) = true)
    (hx : a.eval x = v1) (hy : a.eval y = v2) (hg : ∀ w, (eqGuard b t x y v1 v2).run P w = .ok () w) (hr : ∀ w, (binOp b t v1 v2).run P w = .ok v w)
    (k : wq P W0 L ops Q rest (a.put dst v)) : wq P W0 L ops Q (⟨dst, .binOp b t x y u, ty, pos, aft, gd⟩ :: rest) a :=
  q_run hw (fun w _ => by unfold execOp; simp [hx, hy, hg w, hr w]) k
theorem q_load {t : TypeId} {x : Operand} {p : Addr} {v : Value} {dst : Option Tmp} {ty : TypeId} {pos : String} {aft : Array Edge} {gd : Option (Nat × Bool)} (hw : Region.wanted ⟨dst, .load t x, ty, pos, aft, gd⟩ (yielded ops a.tmps) = true) (hx : a.eval x = .pointer (some p)) [AG P t false]
    (hc : ∀ w, St W0 w L → w.cell? p = some v) (k : wq P W0 L ops Q rest (a.put dst v)) : wq P W0 L ops Q (⟨dst, .load t x, ty, pos, aft, gd⟩ :: rest) a :=
  q_run hw (fun w h => by unfold execOp; simp [hx, load_run (hc w h)]) k
theorem q_idx1 {t e : TypeId} {x ix : Operand} {b off n cap : Nat} {kd : IntKind} {i : Nat} {dst : Option Tmp} {ty : TypeId} {pos : String} {aft : Array Edge} {gd : Option (Nat × Bool)} (hw : Region.wanted ⟨dst, .indexAddr t x ix, ty, pos, aft, gd⟩ (yielded ops a.tmps) = true)
    (hx : a.eval x = .slice (some ⟨b, off, none⟩) n cap) (hi : a.eval ix = .int kd (i : Int)) [UL P t (.slice e)] {z : Value} {by_ : Nat} [TI P e z 1 by_] (h1 : i < n)
    (k : wq P W0 L ops Q rest (a.put dst (.pointer (some ⟨b, off + i, none⟩)))) : wq P W0 L ops Q (⟨dst, .indexAddr t x ix, ty, pos, aft, gd⟩ :: rest) a :=
  q_run hw (fun w h => by unfold execOp; simp [hx, hi, indexAt_run (P := P) (t := t) (e := e) (s := 1) (by omega : (0 : Int) ≤ (i : Int)) (by omega : (i : Int) < (n : Int)), add0]) k
theorem St.cellsAt {α : Type} {f : α → Value} {hf : ∀ a, (f a).oneCell' = true} {b off n cap i : Nat} {l : List α} {x : α} (hsrc : Src L (e1 f hf) (.slice (some ⟨b, off, none⟩) n cap) l) (hi : l[i]? = some x) (w : World) (hS : St W0 w L) :
    w.cell? ⟨b, off + i, none⟩ = some (f x) := by
  obtain ⟨b', off', x', hx', hc, hA⟩ := (hsrc.sl hS).cell1 (List.getElem?_eq_some_iff.1 hi).1
  rw [hi] at hx'
  injection hx' with hx'
  injection hA with hA
  injection hA with h1 h2 _
  subst hx'; subst h1; subst h2
  exact hc
theorem q_string {t ts : TypeId} {x : Operand} {e : TypeId} {y : Value} {l : List UInt8} {dst : Option Tmp} {ty : TypeId} {pos : String} {aft : Array Edge} {gd : Option (Nat × Bool)} (hw : Region.wanted ⟨dst, .convert ts t x, ty, pos, aft, gd⟩ (yielded ops a.tmps) = true)
    (hx : a.eval x = y) [us : UL P t .string] [u : UL P ts (.slice e)] [ub : UL P e (.int .u8)] (hsrc : Src L eB y l)
    (k : wq P W0 L ops Q rest (a.put dst (.string ⟨l.toArray⟩))) : wq P W0 L ops Q (⟨dst, .convert ts t x, ty, pos, aft, gd⟩ :: rest) a := by
  refine q_run hw (fun w hS => ?_) k
  have hsl : Sl (Hp.of w) eB y l := hsrc.sl hS
  obtain ⟨A, c, css, rfl, hc, ha, hr⟩ := hsl
  unfold execOp
  simp only [hx, Sem.run_bind]
  rcases hr with h | ⟨b, off, cs, T, fr, hA, hb, hcs⟩
  · subst h
    have hz : (convert ts t (.slice A 0 c)).run P w = .ok (.string ⟨#[]⟩) w := by
      rcases A with _ | ad
      · rw [run_convert_bytes_string w ts t e none 0 c u.pf ub.pf us.pf]; rfl
      · exact run_convert_bytes_back (P := P) w ts t e ad c [] u.pf ub.pf us.pf (fun j hj => by simp at hj)
    simp [hz]
  · subst hA
    rw [run_convert_bytes_back (P := P) w ts t e ⟨b, off, none⟩ c l u.pf ub.pf us.pf (fun j hj => ?_)]
    · rfl
    · have ha := all2_e1.1 ha
      subst ha
      rw [flat_one] at hcs
      have := hcs j (bv l[j]) (by simp [List.getElem?_eq_getElem hj])
      have hb' : w.heap[b]? = some (.cells cs T fr) := hb
      rw [add0]
      simp [World.cell?, hb', this]
end
end Go.Proofs.Ytlmabajgnjiigaa
namespace Go.Proofs.Ytlmabajgnjiigaa
open Go Go.RowKit
set_option linter.unusedVariables false
set_option linter.unusedSimpArgs false
section
variable {P : Program} {W0 w : World} {L : List HP}
theorem append_str_run {t tu ty e : TypeId} {by_ : Nat} [u : UL P t (.slice e)] [us : UL P tu .string] [ti : TI P e (.int .u8 0) 1 1] {v : Value} {l : List UInt8} (S : St W0 w (own e eB v l :: L)) (s : ByteArray)
    (hb : l.length + s.size ≤ 140737488355328) :
    ∃ v' w', (Builtin.append_ #[t, tu] ty #[v, .string s]).run P w = .ok v' w' ∧ St W0 w' (own e eB v' (l ++ s.data.toList) :: L) := by
  obtain ⟨i, hi, hz, hsz, hby⟩ := ti.pf
  obtain ⟨css, hrow, hlens, hcl, k⟩ := S.own_turn
  have hr1 : eB.sz = 1 := rfl
  obtain ⟨v', w', hr, hown, hg, hnil⟩ := Lib.run_append_own_string (P := P) w 0 t tu ty e i u.pf us.pf hi hz hsz hby v l.length css.flatten hrow s (by unfold maxLen; omega) hb (Nat.zero_le _)
  refine ⟨v', w', hr, k (css' := css ++ (s.data.toList.map fun b => [bv b])) ?_ ?_ hg ?_⟩
  · intro m h _ ha
    exact ha.append (all2_e1.2 rfl)
  · rw [List.flatten_append, flat_one]
    have e1 : (l ++ s.data.toList).length = l.length + s.size := by rw [List.length_append]; rfl
    rw [e1]
    exact hown
  · rcases hrow.2 with ⟨rfl, hn⟩ | ⟨g, cap, cur, rfl, hbg, hg', hnc, hcm, hcs, htake⟩
    · by_cases hs : s.size = 0
      · rw [hnil.2 ⟨rfl, hs⟩]; exact .inl rfl
      · rw [run_append_nil_string w t tu ty e i _ u.pf us.pf hi hz s (by omega) (by omega) (by rw [hby]; omega)] at hr
        injection hr with h1 h2
        rw [← h1]
        exact .inr rfl
    · by_cases hroom : l.length + s.size ≤ cap
      · rw [Lib.run_append_room_string w t tu ty e i u.pf us.pf hi hsz g l.length cap cur hg' s hroom (by rw [hcs, hr1]; omega)] at hr
        injection hr with h1 h2
        rw [← h1]
        exact .inl rfl
      · have hcells : ∀ j v, css.flatten[j]? = some v → w.cell? ((⟨g, 0, none⟩ : Addr).add j) = some v := fun j u' hu' => hrow.cells (g := g) rfl j u' hu'
        rw [Lib.run_append_grow_string w t tu ty e i _ u.pf us.pf hi hz ⟨g, 0, none⟩ l.length cap css.flatten (by rw [hsz]; exact hrow.1) hcells s (by omega) (by omega) (by rw [hby]; have := nextslicecap_le (need := l.length + s.size) (old := cap) (by omega); omega)] at hr
        injection hr with h1 h2
        rw [← h1]
        exact .inr rfl
variable {ops : Array Oper} {rest : List Oper} {o : Oper} {a : Act} {Q : Exit → Act → World → Prop}
theorem L_lit0 (hS : St W0 w L) {dst : Option Tmp} {t : TypeId} {ty : TypeId} {pos : String} {aft : Array Edge} {gd : Option (Nat × Bool)} {e : TypeId} {z : Value} {sz by_ : Nat} [u : UL P t (.slice e)] [ti : TI P e z sz by_]
    {α : Type} {R : Enc α} (hw : Region.wanted ⟨dst, .buildSlice t 0 #[], ty, pos, aft, gd⟩ (yielded ops a.tmps) = true) (hR : R.sz = sz)
    (k : ∀ g w', St W0 w' (own e R (.slice (some ⟨g, 0, none⟩) 0 0) ([] : List α) :: L) → wpList P ops Q rest (a.put dst (.slice (some ⟨g, 0, none⟩) 0 0)) w') : wpList P ops Q (⟨dst, .buildSlice t 0 #[], ty, pos, aft, gd⟩ :: rest) a w := by
  obtain ⟨i, hi, hz, hsz, hby⟩ := ti.pf
  have hr : (Instr.buildSlice t 0 #[]).run P w = .ok (.slice (some ⟨w.heap.size, 0, none⟩) 0 0) (w.alloc (.cells #[] e)) := by
    simp [Instr.buildSlice, run_underlying u.pf, sizeOf, typeInfo, hi, Instr.fill, newRow]
    have e0 : Array.range 0 = #[] := by decide
    rw [e0]
    simp
  refine step_val (v := .slice (some ⟨w.heap.size, 0, none⟩) 0 0) (w' := w.alloc (.cells #[] e)) hw (by unfold execOp; simp [hr]) (k w.heap.size _ ?_)
  refine (hS.alloc (.cells #[] e)).imp ?_
  intro m h hb
  exact ⟨[], trivial, .inr ⟨w.heap.size, 0, #[], rfl, hb, Nat.le_refl _, by unfold maxLen; omega, by simp, by simp⟩⟩
theorem L_appstr (hS : St W0 w L) {dst : Option Tmp} {t tu : TypeId} {sx sy : Operand} {ty : TypeId} {pos : String} {aft : Array Edge} {gd : Option (Nat × Bool)}
    {e : TypeId} [u : UL P t (.slice e)] [us : UL P tu .string] [ti : TI P e (.int .u8 0) 1 1] {v : Value} {l : List UInt8} {sv : ByteArray} {i : Nat}
    (hw : Region.wanted ⟨dst, .call { callee := .builtin .append, args := #[sx, sy], argTypes := #[t, tu] }, ty, pos, aft, gd⟩ (yielded ops a.tmps) = true) (hv : a.eval sx = v) (hy : a.eval sy = .string sv) (hm : L[i]? = some (own e eB v l))
    (hb : l.length + sv.size ≤ 140737488355328)
    (k : ∀ A c w', St W0 w' (L.set i (own e eB (.slice A (l.length + sv.size) c) (l ++ sv.data.toList))) → wpList P ops Q rest (a.put dst (.slice A (l.length + sv.size) c)) w') :
    wpList P ops Q (⟨dst, .call { callee := .builtin .append, args := #[sx, sy], argTypes := #[t, tu] }, ty, pos, aft, gd⟩ :: rest) a w := by
  obtain ⟨v', w', hr, hS'⟩ := append_str_run (P := P) (t := t) (tu := tu) (ty := ty) (e := e) (by_ := 1) (hS.at_ hm) sv hb
  obtain ⟨A, c, rfl, _⟩ := (hS'.rdo (.head _)).form
  have hl : (l ++ sv.data.toList).length = l.length + sv.size := by rw [List.length_append]; rfl
  rw [hl] at hr hS'
  refine step_val (v := .slice A (l.length + sv.size) c) (w' := w') hw ?_ (k A c w' (hS'.back hm))
  unfold execOp
  simp only [resolve, invoke, builtin, Sem.run_bind, Sem.run_pure, Result.andThen_ok, List.map_toArray, List.map_cons, List.map_nil, hv, hy, hr]
theorem L_eqnil {dst : Option Tmp} {t u' : TypeId} {x : Operand} {n' c' : Nat} {ty : TypeId} {pos : String} {aft : Array Edge} {gd : Option (Nat × Bool)} {e : TypeId} [u : UL P t (.slice e)] {A : Option Addr} {n c : Nat}
    (hw : Region.wanted ⟨dst, .binOp .eql t x (.const (.slice none n' c')) u', ty, pos, aft, gd⟩ (yielded ops a.tmps) = true) (hx : a.eval x = .slice A n c)
    (k : wpList P ops Q rest (a.put dst (.bool A.isNone)) w) : wpList P ops Q (⟨dst, .binOp .eql t x (.const (.slice none n' c')) u', ty, pos, aft, gd⟩ :: rest) a w := by
  refine step_val (v := .bool A.isNone) (w' := w) hw ?_ k
  have h := Lib.run_eql_slice_nil (P := P) w t e A n c n' c' u.pf
  unfold execOp
  have hg : (eqGuard .eql t x (.const (.slice none n' c')) (.slice A n c) (.slice none n' c')).run P w = .ok () w := by simp [eqGuard]
  have he : a.eval (.const (.slice none n' c')) = .slice none n' c' := rfl
  simp only [hx, he, Sem.run_bind, hg, h, Result.andThen_ok]
  rfl
end
end Go.Proofs.Ytlmabajgnjiigaa
