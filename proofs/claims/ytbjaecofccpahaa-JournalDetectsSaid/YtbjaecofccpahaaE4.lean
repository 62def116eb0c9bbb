/-
  My own engine: struct values built; function values made and called.
-/
import Derived.Test.YtbjaecofccpahaaE3
namespace Go.Proofs.Ytbjaecofccpahaa
open Go Go.RowKit
set_option linter.unusedVariables false
set_option linter.unusedSimpArgs false
def bdF (P : Program) (t : TypeId) : Sem (Array (Nat × Nat)) :=
  match P.underlying t with
  | some (.struct fs) => fs.mapM fun f => do pure (f.offset, ← sizeOf f.type)
  | _ => Go.stuck ""
class BD (P : Program) (t : TypeId) (pls : outParam (List (Nat × Nat))) (zs : outParam (List Value)) : Prop where
  u : ∀ w, (bdF P t).run P w = .ok pls.toArray w
  z : ∀ w, (zeroValue t).run P w = .ok (.agg zs.toArray) w
class OneC (v : Value) : Prop where
  pf : v.cells = #[v]
instance {k : IntKind} {n : Int} : OneC (.int k n) := ⟨rfl⟩
instance {b : Bool} : OneC (.bool b) := ⟨rfl⟩
instance {s : ByteArray} : OneC (.string s) := ⟨rfl⟩
instance {p : Option Addr} : OneC (.pointer p) := ⟨rfl⟩
instance {p : Option Addr} {n c : Nat} : OneC (.slice p n c) := ⟨rfl⟩
instance {r : Option Nat} : OneC (.map r) := ⟨rfl⟩
instance {f : Fn} {A B : Array Value} : OneC (.func f A B) := ⟨rfl⟩
instance {A : Option Addr} {j s o : Nat} : OneC (elp A j s o) := ⟨rfl⟩
class PartsI (a : Act) (ps : List (Nat × Operand)) (vs : outParam (List (Nat × Value))) : Prop where
  pf : (ps.map fun x => (x.1, a.eval x.2)) = vs
instance parts0 {a : Act} : PartsI a [] [] := ⟨rfl⟩
instance partsS {a : Act} {i : Nat} {x : Operand} {v : Value} {ps : List (Nat × Operand)} {vs : List (Nat × Value)} [h : Ev a x v] [k : PartsI a ps vs] : PartsI a ((i, x) :: ps) ((i, v) :: vs) := ⟨by have := k.pf; simp [h.pf, this]⟩
class GN (l : List (Nat × Nat)) (i : Nat) (o s : outParam Nat) : Prop where
  pf : l[i]? = some (o, s)
instance gn0 {l : List (Nat × Nat)} {o s : Nat} : GN ((o, s) :: l) 0 o s := ⟨rfl⟩
instance gnS {l : List (Nat × Nat)} {x : Nat × Nat} {i o s : Nat} [h : GN l i o s] : GN (x :: l) (i + 1) o s := ⟨by simpa using h.pf⟩
/-- some cells replaced -/
class SpL (l : List Value) (o : Nat) (vs : List Value) (l' : outParam (List Value)) : Prop where
  pf : l.take o ++ vs ++ l.drop (o + vs.length) = l' ∧ o + vs.length ≤ l.length
instance spl00 {l : List Value} : SpL l 0 [] l := ⟨by simp⟩
instance spl0S {l l' vs : List Value} {x v : Value} [h : SpL l 0 vs l'] : SpL (x :: l) 0 (v :: vs) (v :: l') := ⟨by have := h.pf; simp at this ⊢; exact ⟨this.1, this.2⟩⟩
instance splS {l l' vs : List Value} {x : Value} {o : Nat} [h : SpL l o vs l'] : SpL (x :: l) (o + 1) vs (x :: l') := ⟨by
  have h1 := h.pf
  refine ⟨?_, by simp; omega⟩
  have e : o + 1 + vs.length = (o + vs.length) + 1 := by omega
  rw [e, List.drop_succ_cons, List.take_succ_cons, ← h1.1]
  simp⟩
class FillI (pls : List (Nat × Nat)) (zs : List Value) (parts : List (Nat × Value)) (cs : outParam (List Value)) : Prop where
  pf : Instr.fill (fun i => pls.toArray[i]?) zs.toArray parts = some cs.toArray
instance fill0 {pls : List (Nat × Nat)} {zs : List Value} : FillI pls zs [] zs := ⟨rfl⟩
theorem fold_splice : ∀ (vs : List Value) (o k : Nat) (l : List Value), o + k + vs.length ≤ l.length → (vs.zipIdx k).foldl (fun cs (x : Value × Nat) => cs.setIfInBounds (o + x.2) x.1) l.toArray = (l.take (o + k) ++ vs ++ l.drop (o + k + vs.length)).toArray
  | [], o, k, l, _ => by simp
  | v :: vs, o, k, l, h => by
    simp only [List.length_cons] at h
    have ih := fold_splice vs o (k + 1) (l.set (o + k) v) (by simp; omega)
    simp only [List.zipIdx_cons, List.foldl_cons, List.setIfInBounds_toArray]
    rw [ih]
    congr 1
    have hlt : o + k < l.length := by omega
    have e1 : o + (k + 1) = o + k + 1 := by omega
    rw [e1, List.take_succ_eq_append_getElem (by simpa using hlt)]
    have e2 : (l.set (o + k) v).take (o + k) = l.take (o + k) := by rw [List.take_set]; exact List.set_eq_of_length_le (by simp; omega)
    have e3 : o + k + 1 + vs.length = o + k + (vs.length + 1) := by omega
    rw [e2, List.drop_set_of_lt (by omega), e3]
    simp
class LenI (vs : List Value) (s : Nat) : Prop where
  pf : vs.length = s
instance len0 : LenI [] 0 := ⟨rfl⟩
instance lenS {v : Value} {vs : List Value} {s : Nat} [h : LenI vs s] : LenI (v :: vs) (s + 1) := ⟨by simp [h.pf]⟩
instance fillA {pls : List (Nat × Nat)} {zs zs' vs cs : List Value} {i o s : Nat} {r : List (Nat × Value)} [g : GN pls i o s] [hl : LenI vs s] [p : SpL zs o vs zs'] [k : FillI pls zs' r cs] : FillI pls zs ((i, .agg vs.toArray) :: r) cs := ⟨by
  have h1 := p.pf
  have hs := hl.pf
  subst hs
  unfold Instr.fill
  have hg : pls.toArray[i]? = some (o, vs.length) := by simpa using g.pf
  simp only [hg, Value.cells, List.size_toArray]
  rw [if_neg (by simp; omega)]
  have := fold_splice vs o 0 zs (by omega)
  simp only [Nat.add_zero] at this
  rw [← Array.foldl_toList, Array.toList_zipIdx, this, h1.1]
  exact k.pf⟩
instance fill1 {pls : List (Nat × Nat)} {zs zs' cs : List Value} {i o : Nat} {v x : Value} {r : List (Nat × Value)} [h1 : OneC v] [g : GN pls i o 1] [p : SAt zs o v zs'] [l : GA zs o x] [k : FillI pls zs' r cs] : FillI pls zs ((i, v) :: r) cs := ⟨by
  have hlt : o < zs.length := l.lt
  unfold Instr.fill
  have hg : pls.toArray[i]? = some (o, 1) := by simpa using g.pf
  simp only [hg, h1.pf]
  rw [if_neg (by simp; omega)]
  have := k.pf
  rw [← p.pf] at this
  simpa using this⟩
section
variable {P : Program} {W0 w : World} {L L' S : List HP} {ops : Array Oper} {rest : List Oper} {o : Oper} {a a' : Act} {Q : Exit → Act → World → Prop}
  {d : Option Tmp} {ty : TypeId} {pos : String} {aft : Array Edge} {gd : Option (Nat × Bool)} {x y z : Operand} {v : Value} {t u : TypeId} {k k' : IntKind} {m n r : Int} {b : Nat}
instance svc_build {ps : List (Nat × Operand)} {pls : List (Nat × Nat)} {zs cs : List Value} {vs : List (Nat × Value)} [bd : BD P t pls zs] [hp : PartsI a ps vs] [hf : FillI pls zs vs cs] : SVc P W0 S ⟨d, .build t ps.toArray, ty, pos, aft, gd⟩ a (.agg cs.toArray) := ⟨⟨fun w _ => by
  have h1 := bd.u w
  have h2 := bd.z w
  have h3 := hf.pf
  rw [← hp.pf] at h3
  unfold bdF at h1
  cases hu : P.underlying t with
  | none => rw [hu] at h1; simp [Go.stuck, Sem.run] at h1
  | some ds =>
    rw [hu] at h1
    cases ds with
    | struct fs =>
      dsimp only at h1
      unfold execOp
      simp only [Instr.build, Sem.run_bind, h2, Result.andThen_ok, run_underlying hu, h1, Value.cells, List.map_toArray]
      have h4 : Instr.fill (fun i => pls[i]?) zs.toArray (List.map (fun x => (x.1, a.eval x.2)) ps) = some cs.toArray := by simpa using h3
      simp [h4]
    | _ => simp [Go.stuck, Sem.run] at h1⟩⟩
instance svc_mkf {fn : Fn} {xs ys : Array Operand} {A B : Array Value} [h : ArgsI a xs A] [h2 : ArgsI a ys B] : SVc P W0 S ⟨d, .makeFunc fn xs ys, ty, pos, aft, gd⟩ a (.func fn A B) := ⟨⟨fun w _ => by
  unfold execOp; simp [Instr.makeFunc, h.pf, h2.pf]⟩⟩
class AppA (A B C D : Array Value) : Prop where
  pf : A ++ B ++ C = D
theorem dy_callv {xs : Array Operand} {ats : Array TypeId} {f : Operand} {g : FuncId} {A B X args : Array Value} {R : Value → List HP → Prop} (hf : a.eval f = .func (.func g) A B) (ha : xs.map a.eval = X) (happ : A ++ X ++ B = args) (eg : Enters P g) (hc : CT P g args W0 L R) :
    DY P W0 L ⟨d, .call { callee := .value f, args := xs, argTypes := ats }, ty, pos, aft, gd⟩ a fun a' L' => ∃ v, R v L' ∧ a.put d v = a' := by
  refine ⟨fun w s => ?_⟩
  have hr : (execOp a.eval (⟨d, .call { callee := .value f, args := xs, argTypes := ats }, ty, pos, aft, gd⟩ : Oper)).run P w = .ok (.enter g args) w := by
    subst ha; subst happ
    unfold execOp
    simp [resolve, hf, Deferred.ofValue, invoke]
    exact eg _ _
  unfold Oper.wp
  rw [hr]
  refine Calls.mono (hc.run w s) ?_
  rintro e w' ⟨v, L', rfl, hR, hS⟩
  exact ⟨L', ⟨v, hR, rfl⟩, hS⟩
end
end Go.Proofs.Ytbjaecofccpahaa
