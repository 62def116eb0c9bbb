/-
  My own layer over the kit's walk: a region that draws its order, walked once, in the class of worlds in which my assertions hold.
-/
import Derived.Test.YtbjaecofccpahaaSt6
import Derived.Deep.Quiet
namespace Go.Proofs.Ytbjaecofccpahaa
open Go Go.RowKit
set_option linter.unusedVariables false
set_option linter.unusedSimpArgs false
section
variable {P : Program} {W0 w : World} {L : List HP} {ops : Array Oper} {rest : List Oper} {o : Oper} {a : Act} {Q : Act → Prop}
/-- the lexical walk in the class of my assertions -/
def wq (P : Program) (W0 : World) (L : List HP) (ops : Array Oper) (Q : Act → Prop) (l : List Oper) (a : Act) : Prop := wpQuiet P ops (fun w' => St W0 w' L) Q l a
theorem wp_region_st {id : Nat} {Q : Exit → Act → World → Prop} {l : List Oper} (hS : St W0 w L) (hm : P.follows .mixedOrders = true) (hB : Region.lexB .any l.toArray = true)
    (h : wq P W0 L l.toArray (fun a' => ∀ w', St W0 w' L → Q .normal a' w') l a) : (Code.region id l.toArray true).wp P Q a w :=
  wp_region_quiet (C := fun w' => St W0 w' L) hm hB hS.drew (by simpa [wq] using h)
theorem wq_nil (h : Q a) : wq P W0 L ops Q [] a := h
theorem q_run (hw : Region.wanted o (yielded ops a.tmps) = true) {v : Value} (hr : ∀ w, St W0 w L → (execOp a.eval o).run P w = .ok (.value v) w) (k : wq P W0 L ops Q rest (a.put o.dst v)) : wq P W0 L ops Q (o :: rest) a := by
  show (if Region.wanted o (yielded ops a.tmps) then _ else _)
  rw [if_pos hw]
  refine ⟨v, fun w' h' => ?_, k⟩
  show Oper.quietUpon P _ w' v ((execOp a.eval o).run P w')
  rw [hr w' h']
  exact ⟨rfl, rfl⟩
theorem q_off (hw : Region.wanted o (yielded ops a.tmps) = false) (k : wq P W0 L ops Q rest (a.put o.dst undef)) : wq P W0 L ops Q (o :: rest) a := by
  show (if Region.wanted o (yielded ops a.tmps) then _ else _)
  rw [if_neg (by rw [hw]; simp)]
  exact k
theorem q_call {f : FuncId} (eg : Enters P f) {args : List Value} {xs : Array Operand} {ats : Array TypeId} {dst : Option Tmp} {ty : TypeId} {pos : String} {aft : Array Edge} {gd : Option (Nat × Bool)}
    (hw : Region.wanted ⟨dst, .call { callee := .value (.func f), args := xs, argTypes := ats }, ty, pos, aft, gd⟩ (yielded ops a.tmps) = true) (ha : xs.toList.map a.eval = args) {v : Value}
    (hc : ∀ w, St W0 w L → Calls P f args.toArray w fun e w' => e = .returned v ∧ St W0 w' L)
    (k : wq P W0 L ops Q rest (a.put dst v)) : wq P W0 L ops Q (⟨dst, .call { callee := .value (.func f), args := xs, argTypes := ats }, ty, pos, aft, gd⟩ :: rest) a := by
  show (if Region.wanted _ (yielded ops a.tmps) then _ else _)
  rw [if_pos hw]
  refine ⟨v, fun w' h' => ?_, k⟩
  show Oper.quietUpon P _ w' v ((execOp a.eval _).run P w')
  have hr : (execOp a.eval (⟨dst, .call { callee := .value (.func f), args := xs, argTypes := ats }, ty, pos, aft, gd⟩ : Oper)).run P w' = .ok (.enter f args.toArray) w' := by
    have e : args.toArray = xs.map a.eval := by rw [← ha, ← Array.toList_map]
    rw [e]
    unfold execOp
    simp [resolve, Act.eval, Deferred.ofValue, invoke]
    exact eg _ _
  rw [hr]
  exact ⟨rfl, hc w' h'⟩
theorem q_move {x : Operand} {v : Value} {dst : Option Tmp} {ty : TypeId} {pos : String} {aft : Array Edge} {gd : Option (Nat × Bool)} (hw : Region.wanted ⟨dst, .move x, ty, pos, aft, gd⟩ (yielded ops a.tmps) = true) (hx : a.eval x = v)
    (k : wq P W0 L ops Q rest (a.put dst v)) : wq P W0 L ops Q (⟨dst, .move x, ty, pos, aft, gd⟩ :: rest) a :=
  q_run hw (fun w _ => by unfold execOp; simp [hx]) k
theorem q_assign {x : Operand} {v : Value} {dst : Option Tmp} {ty : TypeId} {pos : String} {aft : Array Edge} {gd : Option (Nat × Bool)} (hw : Region.wanted ⟨dst, .assign x, ty, pos, aft, gd⟩ (yielded ops a.tmps) = true) (hx : a.eval x = v)
    (k : wq P W0 L ops Q rest (a.put dst v)) : wq P W0 L ops Q (⟨dst, .assign x, ty, pos, aft, gd⟩ :: rest) a :=
  q_run hw (fun w _ => by unfold execOp; simp [hx]) k
theorem q_binop {b : BinOp} {t u : TypeId} {x y : Operand} {v1 v2 v : Value} {dst : Option Tmp} {ty : TypeId} {pos : String} {aft : Array Edge} {gd : Option (Nat × Bool)} (hw : Region.wanted ⟨dst, .binOp b t x y u, ty, pos, aft, gd⟩ (yielded ops a.tmps) = true)
    (hx : a.eval x = v1) (hy : a.eval y = v2) (hg : ∀ w, (eqGuard b t x y v1 v2).run P w = .ok () w) (hr : ∀ w, (binOp b t v1 v2).run P w = .ok v w)
    (k : wq P W0 L ops Q rest (a.put dst v)) : wq P W0 L ops Q (⟨dst, .binOp b t x y u, ty, pos, aft, gd⟩ :: rest) a :=
  q_run hw (fun w _ => by unfold execOp; simp [hx, hy, hg w, hr w]) k
theorem q_load {t : TypeId} {x : Operand} {p : Addr} {v : Value} {dst : Option Tmp} {ty : TypeId} {pos : String} {aft : Array Edge} {gd : Option (Nat × Bool)} (hw : Region.wanted ⟨dst, .load t x, ty, pos, aft, gd⟩ (yielded ops a.tmps) = true) (hx : a.eval x = .pointer (some p)) [AG P t false]
    (hc : ∀ w, St W0 w L → w.cell? p = some v) (k : wq P W0 L ops Q rest (a.put dst v)) : wq P W0 L ops Q (⟨dst, .load t x, ty, pos, aft, gd⟩ :: rest) a :=
  q_run hw (fun w h => by unfold execOp; simp [hx, load_run (hc w h)]) k
theorem q_idx1 {t e : TypeId} {x ix : Operand} {b off n cap : Nat} {kd : IntKind} {i : Nat} {dst : Option Tmp} {ty : TypeId} {pos : String} {aft : Array Edge} {gd : Option (Nat × Bool)} (hw : Region.wanted ⟨dst, .indexAddr t x ix, ty, pos, aft, gd⟩ (yielded ops a.tmps) = true)
    (hx : a.eval x = .slice (some ⟨b, off, none⟩) n cap) (hi : a.eval ix = .int kd (i : Int)) [UL P t (.slice e)] {z : Value} {by_ : Nat} [TI P e z 1 by_] (h1 : i < n)
    (k : wq P W0 L ops Q rest (a.put dst (.pointer (some ⟨b, off + i, none⟩)))) : wq P W0 L ops Q (⟨dst, .indexAddr t x ix, ty, pos, aft, gd⟩ :: rest) a :=
  q_run hw (fun w h => by unfold execOp; simp [hx, hi, indexAt_run (P := P) (t := t) (e := e) (s := 1) (by omega : (0 : Int) ≤ (i : Int)) (by omega : (i : Int) < (n : Int)), add0]) k
theorem St.cellsAt {α : Type} {f : α → Value} {hf : ∀ a, (f a).oneCell' = true} {b off n cap i : Nat} {l : List α} {x : α} (hsrc : Src L (e1 f hf) (.slice (some ⟨b, off, none⟩) n cap) l) (hi : l[i]? = some x) (w : World) (hS : St W0 w L) :
    w.cell? ⟨b, off + i, none⟩ = some (f x) := by
  obtain ⟨b', off', x', hx', hc, hA⟩ := (hsrc.sl hS).cell1 (List.getElem?_eq_some_iff.1 hi).1
  rw [hi] at hx'
  injection hx' with hx'
  injection hA with hA
  injection hA with h1 h2 _
  subst hx'; subst h1; subst h2
  exact hc
theorem q_string {t ts : TypeId} {x : Operand} {e : TypeId} {y : Value} {l : List UInt8} {dst : Option Tmp} {ty : TypeId} {pos : String} {aft : Array Edge} {gd : Option (Nat × Bool)} (hw : Region.wanted ⟨dst, .convert ts t x, ty, pos, aft, gd⟩ (yielded ops a.tmps) = true)
    (hx : a.eval x = y) [us : UL P t .string] [u : UL P ts (.slice e)] [ub : UL P e (.int .u8)] (hsrc : Src L eB y l)
    (k : wq P W0 L ops Q rest (a.put dst (.string ⟨l.toArray⟩))) : wq P W0 L ops Q (⟨dst, .convert ts t x, ty, pos, aft, gd⟩ :: rest) a := by
  refine q_run hw (fun w hS => ?_) k
  have hsl : Sl (Hp.of w) eB y l := hsrc.sl hS
  obtain ⟨A, c, css, rfl, hc, ha, hr⟩ := hsl
  unfold execOp
  simp only [hx, Sem.run_bind]
  rcases hr with h | ⟨b, off, cs, T, fr, hA, hb, hcs⟩
  · subst h
    have hz : (convert ts t (.slice A 0 c)).run P w = .ok (.string ⟨#[]⟩) w := by
      rcases A with _ | ad
      · rw [run_convert_bytes_string w ts t e none 0 c u.pf ub.pf us.pf]; rfl
      · exact run_convert_bytes_back (P := P) w ts t e ad c [] u.pf ub.pf us.pf (fun j hj => by simp at hj)
    simp [hz]
  · subst hA
    rw [run_convert_bytes_back (P := P) w ts t e ⟨b, off, none⟩ c l u.pf ub.pf us.pf (fun j hj => ?_)]
    · rfl
    · have ha := all2_e1.1 ha
      subst ha
      rw [flat_one] at hcs
      have := hcs j (bv l[j]) (by simp [List.getElem?_eq_getElem hj])
      have hb' : w.heap[b]? = some (.cells cs T fr) := hb
      rw [add0]
      simp [World.cell?, hb', this]
end
end Go.Proofs.Ytbjaecofccpahaa
