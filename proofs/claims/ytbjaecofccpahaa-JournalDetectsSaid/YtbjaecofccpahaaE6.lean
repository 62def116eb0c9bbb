/-
  My own engine: results that lie in cells.
-/
import Derived.Test.YtbjaecofccpahaaE5
namespace Go.Proofs.Ytbjaecofccpahaa
open Go Go.RowKit
set_option linter.unusedVariables false
set_option linter.unusedSimpArgs false
def resS (a : Act) (r : ResultVar) : Sem Value := match r with
  | .tmp t => pure (a.tmps.getD t undef)
  | .cell c t => do loadVar t (← asAddr (a.tmps.getD c undef))
class RV (P : Program) (L : List HP) (a : Act) (r : ResultVar) (v : outParam Value) : Prop where
  run : ∀ W0 w, St W0 w L → (resS a r).run P w = .ok v w
section
variable {P : Program} {W0 w : World} {L L' L2 S : List HP} {a : Act} {v v' v'' : Value} {b : Nat}
instance rv_t {t : Tmp} [h : Ev a (.tmp t) v] : RV P L a (.tmp t) v := ⟨fun W0 w _ => by
  have := h.pf
  simp only [Act.eval] at this
  simp [resS, this]⟩
instance rv_c {c : Tmp} {t T : TypeId} {o : Nat} {cs : List Value} [AG P t false] [h : Ev a (.tmp c) (.pointer (some ⟨b, o, none⟩))] [h2 : InC b L cs T] [h3 : GA cs o v] : RV P L a (.cell c t) v := ⟨fun W0 w s => by
  have := h.pf
  simp only [Act.eval] at this
  have h4 := load_run (P := P) (t := t) (s.cellAt h2.pf h3.pf)
  simp only [Instr.loadAt, Instr.sureAddr] at h4
  simp only [resS]
  rw [this]
  simpa [asAddr] using h4⟩
instance rv_a {c : Tmp} {t T : TypeId} {zv : Value} {sz by_ o : Nat} {cs vs : List Value} [AG P t true] [TI P t zv sz by_] [h : Ev a (.tmp c) (.pointer (some ⟨b, o, none⟩))] [h2 : InC b L cs T] [h3 : ExL cs o sz vs] : RV P L a (.cell c t) (.agg vs.toArray) := ⟨fun W0 w s => by
  have := h.pf
  simp only [Act.eval] at this
  have h4 := loadAgg_run (P := P) (w := w) (t := t) (p := ⟨b, o, none⟩) (cs := vs) (by have := h3.pf; rw [← this.1]; simp; omega) (fun j v hj => by
    rw [add0]
    refine s.cellAt h2.pf ?_
    rw [← h3.pf.1, List.getElem?_take] at hj
    split at hj
    · simpa using hj
    · cases hj)
  simp only [Instr.loadAt, Instr.sureAddr] at h4
  simp only [resS]
  rw [this]
  simpa [asAddr] using h4⟩
theorem results_resS (fn : Func) (a : Act) : results fn a.tmps = (do
  let vs ← fn.results.mapM (resS a)
  pure (if h : vs.size = 1 then vs[0] else .tuple vs)) := by
  unfold results
  have e : ∀ (f g : ResultVar → Sem Value) (K : Array Value → Sem Value), (∀ r, f r = g r) → (do let vs ← fn.results.mapM f; K vs) = (do let vs ← fn.results.mapM g; K vs) := fun f g K h => by
    rw [funext h]
  refine e _ _ _ fun r => ?_
  cases r <;> rfl
theorem E_res1 {fn : Func} {R : Value → List HP → Prop} {r : ResultVar} (hr : fn.results = #[r]) (hd : a.defers = []) [h1 : RV P L a r v] (hR : R v L2) (hS : Sub L L2) : EL W0 L (bodyPost P fn (RR W0 R)) .ret a := by
  refine ⟨fun w s => bodyPost_ret (v := v) ?_ hd ⟨_, _, rfl, hR, hS.st s⟩⟩
  have g1 := h1.run W0 w s
  rw [results_resS, hr]
  simp [g1]
theorem E_res2 {fn : Func} {R : Value → List HP → Prop} {r r' : ResultVar} (hr : fn.results = #[r, r']) (hd : a.defers = []) [h1 : RV P L a r v] [h2 : RV P L a r' v'] (hR : R (.tuple #[v, v']) L2) (hS : Sub L L2) : EL W0 L (bodyPost P fn (RR W0 R)) .ret a := by
  refine ⟨fun w s => bodyPost_ret (v := (.tuple #[v, v'])) ?_ hd ⟨_, _, rfl, hR, hS.st s⟩⟩
  have g1 := h1.run W0 w s
  have g2 := h2.run W0 w s
  rw [results_resS, hr]
  simp [g1, g2]
theorem E_res3 {fn : Func} {R : Value → List HP → Prop} {r r' r'' : ResultVar} (hr : fn.results = #[r, r', r'']) (hd : a.defers = []) [h1 : RV P L a r v] [h2 : RV P L a r' v'] [h3 : RV P L a r'' v''] (hR : R (.tuple #[v, v', v'']) L2) (hS : Sub L L2) : EL W0 L (bodyPost P fn (RR W0 R)) .ret a := by
  refine ⟨fun w s => bodyPost_ret (v := (.tuple #[v, v', v''])) ?_ hd ⟨_, _, rfl, hR, hS.st s⟩⟩
  have g1 := h1.run W0 w s
  have g2 := h2.run W0 w s
  have g3 := h3.run W0 w s
  rw [results_resS, hr]
  simp [g1, g2, g3]
/-! ### a literal of structs -/
theorem fill_aggs {sz : Nat} : ∀ (css : List (List Value)) (k : Nat) (acc : List Value), (∀ c ∈ css, c.length = sz) → acc.length = (k + css.length) * sz →
    Instr.fill (fun i => some (i * sz, sz)) acc.toArray ((css.zipIdx k).map fun p => (p.2, Value.agg p.1.toArray)) = some (acc.take (k * sz) ++ css.flatten).toArray
  | [], k, acc, _, h => by
    simp only [List.length_nil, Nat.add_zero] at h
    simp only [List.zipIdx_nil, List.map_nil, Instr.fill, List.flatten_nil, List.append_nil]
    rw [List.take_of_length_le (by omega)]
  | c :: r, k, acc, hc, h => by
    have hcl := hc c (.head _)
    simp only [List.length_cons] at h
    have e1 : (k + (r.length + 1)) * sz = k * sz + sz + r.length * sz := by rw [Nat.add_mul, Nat.add_mul]; omega
    rw [e1] at h
    simp only [List.zipIdx_cons, List.map_cons]
    unfold Instr.fill
    simp only [Value.cells, List.size_toArray]
    rw [if_neg (by simp; omega)]
    have := fold_splice c (k * sz) 0 acc (by omega)
    simp only [Nat.add_zero] at this
    rw [← Array.foldl_toList, Array.toList_zipIdx, this]
    rw [fill_aggs r (k + 1) _ (fun x hx => hc x (.tail _ hx)) (by
      have e3 : (k + 1 + r.length) * sz = k * sz + sz + r.length * sz := by rw [Nat.add_mul, Nat.add_mul, Nat.one_mul]
      rw [e3]; simp only [List.length_append, List.length_take, List.length_drop]; omega)]
    congr 2
    have e2 : (k + 1) * sz = (acc.take (k * sz) ++ c).length := by
      rw [List.length_append, List.length_take, Nat.add_mul]; omega
    rw [e2, List.take_left', List.flatten_cons, List.append_assoc]
    rfl
theorem dy_litA {d : Option Tmp} {ty : TypeId} {pos : String} {aft : Array Edge} {gd : Option (Nat × Bool)} {t : TypeId} {n : Nat} {ps : List (Nat × Operand)} {vs : List (Nat × Value)} {e : TypeId} {zv : Value} {sz by_ : Nat} [ut : UL P t (.slice e)] [ti : TI P e zv sz by_] [hps : PartsI a ps vs] {α : Type} {R : Enc α} (els : List α) (css : List (List Value))
    (hp : vs = (css.zipIdx 0).map fun p => (p.2, Value.agg p.1.toArray)) (hel : ∀ m h, SepL m L h → All2 (R.r m) els css) (hn : css.length = n := by rfl) (hlens : ∀ c ∈ css, c.length = sz := by simp) (hR : R.sz = sz := by rfl) (hpos : 0 < n := by decide) (hs0 : 0 < sz := by decide) (hsm : n * sz ≤ 16777216 := by decide) (hml : n ≤ 16777216 := by decide) (hnl : els.length = n := by rfl) :
    DY P W0 L ⟨d, .buildSlice t n ps.toArray, ty, pos, aft, gd⟩ a fun a' L' => ∃ g, a.put d (.slice (some ⟨g, 0, none⟩) n n) = a' ∧ L' = own e R (.slice (some ⟨g, 0, none⟩) n n) els :: L := by
  refine dy_lit (n := n) (sz := sz) (R := R) (l := els) (css := css) (cells := css.flatten) ?_ hsm (Nat.mul_pos hpos hs0) hnl hR hel rfl hml
  have hq : ((ps.toArray.map fun (i, x) => (i, a.eval x)).toList) = vs := by rw [List.map_toArray]; exact hps.pf
  rw [hq, hp]
  have h := fill_aggs (sz := sz) css 0 ((Array.range (n * sz)).map (zv.cells[· % zv.cells.size]!)).toList hlens (by simp [hn])
  rw [Nat.zero_mul, List.take_zero, List.nil_append, Array.toArray_toList] at h
  exact h
/-! ### one list of assertions out of another -/
class IxH (A : HP) (L : List HP) (i : outParam Nat) : Prop where
  pf : L[i]? = some A
instance ixh_s {A B : HP} {L : List HP} {i : Nat} [h : IxH A L i] : IxH A (B :: L) (i + 1) := ⟨by simpa using h.pf⟩
instance ixh_0 {A : HP} {L : List HP} : IxH A (A :: L) 0 := ⟨rfl⟩
theorem sub_ix {A : HP} {i : Nat} {Le : List HP} [h : IxH A L i] [he : EAt L i Le] (k : Sub Le S) : Sub L (A :: S) := sub_cons h.pf (by rw [he.pf]; exact k)
theorem sub_at {A : HP} (i : Nat) {Le : List HP} [he : EAt L i Le] (k : Sub Le S) (h : L[i]? = some A := by rfl) : Sub L (A :: S) := sub_cons h (by rw [he.pf]; exact k)
theorem Sb (h : Sub L S := by repeat (first | exact Sub.refl _ | exact sub_nil | refine sub_ix ?_ | refine sub_at 0 ?_ | refine sub_at 1 ?_ | refine sub_at 2 ?_ | refine sub_at 3 ?_ | refine sub_at 4 ?_ | refine sub_at 5 ?_ | refine sub_at 6 ?_ | refine sub_at 7 ?_ | refine sub_at 8 ?_ | refine sub_drop ?_)) : Sub L S := h
end
end Go.Proofs.Ytbjaecofccpahaa
