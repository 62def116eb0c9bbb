/-
  My own engine: ways that meet again.
-/
import Derived.Test.YtbjaecofccpahaaE7
namespace Go.Proofs.Ytbjaecofccpahaa
open Go Go.RowKit
set_option linter.unusedVariables false
set_option linter.unusedSimpArgs false
section
variable {P : Program} {W0 w : World} {L L' S : List HP} {a a' : Act} {Q : Exit → Act → World → Prop}
theorem AtE {y : Code} {Q' : Exit → Act → World → Prop} (k : EL W0 L (Exit.then (y.wp P Q) Q') .normal a) : EL W0 L (Exit.then (y.wp P Q) Q') .normal a := k
/-- where the ways meet -/
def RJ {κ : Type} (W0 : World) (a0 : Act) (ms : List Bool) (ps : κ → List (Nat × Value)) (LI : κ → List HP) (φ : κ → Prop) : Act → World → Prop :=
  fun a' w' => ∃ k u, φ k ∧ a' = frm a0 ms u (ps k) ∧ St W0 w' (LI k)
theorem C_join {κ : Type} {c y : Code} {LI : κ → List HP} (ms : List Bool) (ps : κ → List (Nat × Value)) (As : κ → List (Nat × HP)) (φ : κ → Prop)
    (h1 : CL P W0 L c (Exit.then (RJ W0 a ms ps LI φ) Q) a) (h2 : ∀ k u, φ k → CL P W0 (LI k) y Q (frm a ms u (ps k))) (hs : ∀ k, SAts L (As k) (LI k) := by infer_instance) : CL P W0 L c (Exit.then (y.wp P Q) Q) a := by
  refine ⟨fun w s => Code.wp_mono ?_ (h1.run w s)⟩
  intro e a' w' he
  cases e <;> try exact he
  obtain ⟨k, u, hk, rfl, hs'⟩ := he
  exact (h2 k u hk).run w' hs'
/-- the same, the assertions said whole -/
theorem C_joinL {κ : Type} {c y : Code} (LI : κ → List HP) (ms : List Bool) (ps : κ → List (Nat × Value)) (φ : κ → Prop)
    (h1 : CL P W0 L c (Exit.then (RJ W0 a ms ps LI φ) Q) a) (h2 : ∀ k u, φ k → CL P W0 (LI k) y Q (frm a ms u (ps k))) : CL P W0 L c (Exit.then (y.wp P Q) Q) a := by
  refine ⟨fun w s => Code.wp_mono ?_ (h1.run w s)⟩
  intro e a' w' he
  cases e <;> try exact he
  obtain ⟨k, u, hk, rfl, hs'⟩ := he
  exact (h2 k u hk).run w' hs'
theorem E_join {κ : Type} {l0 l : List Value} {ds : List Deferred} {ms : List Bool} {ps : κ → List (Nat × Value)} {LI : κ → List HP} {φ : κ → Prop} (k : κ) (h : φ k)
    [hk : Mxd ms l0 l] (ha : Agr ⟨l.toArray, ds⟩ (ps k)) (hL : Sub L (LI k) := by exact Sb) : EL W0 L (Exit.then (RJ W0 ⟨l0.toArray, ds⟩ ms ps LI φ) Q) .normal ⟨l.toArray, ds⟩ := by
  refine ⟨fun w s => ?_⟩
  refine ⟨k, fun i => l.getD i undef, h, ?_, hL.st s⟩
  unfold frm
  have := hk.pf (fun i => l.getD i undef) 0 (fun i v hi => by simp [hi])
  simp only [this]
  have h2 := setAll_agr ha
  simp only at h2
  rw [h2]
theorem D_sub {n : Nat} {l : List Oper} {br : Bool} {r : List (Nat × Nat)} (h : Sub L L') (k : DL P W0 S n l Q br r L' a) : DL P W0 S n l Q br r L a := ⟨fun w s => k.run w (h.st s)⟩
/-- a literal of values of one cell each -/
theorem dy_litS {d : Option Tmp} {ty : TypeId} {pos : String} {aft : Array Edge} {gd : Option (Nat × Bool)} {t : TypeId} {n : Nat} {ps : List (Nat × Operand)} {vs : List (Nat × Value)} {e : TypeId} {zv : Value} {by_ : Nat} [ut : UL P t (.slice e)] [ti : TI P e zv 1 by_] [hps : PartsI a ps vs] {α : Type} {R : Enc α} (els : List α) (cells : List Value)
    (hp : vs = (cells.zipIdx 0).map fun x => (x.2, x.1)) (hel : ∀ m h, SepL m L h → All2 (R.r m) els (cells.map fun v => [v])) (h1 : ∀ v ∈ cells, v.cells = #[v] := by simp [Value.cells]) (hn : cells.length = n := by rfl) (hR : R.sz = 1 := by rfl) (hpos : 0 < n := by decide) (hml : n ≤ 16777216 := by decide) (hnl : els.length = n := by rfl) :
    DY P W0 L ⟨d, .buildSlice t n ps.toArray, ty, pos, aft, gd⟩ a fun a' L' => ∃ g, a.put d (.slice (some ⟨g, 0, none⟩) n n) = a' ∧ L' = own e R (.slice (some ⟨g, 0, none⟩) n n) els :: L := by
  refine dy_lit (n := n) (sz := 1) (R := R) (l := els) (css := cells.map fun v => [v]) (cells := cells) ?_ (by omega) (by omega) hnl hR hel (by clear hp hel h1 hn; induction cells with | nil => rfl | cons x r ih => simp at ih ⊢; exact ih) hml
  have hq : ((ps.toArray.map fun (i, x) => (i, a.eval x)).toList) = vs := by rw [List.map_toArray]; exact hps.pf
  have := Great.fill_flat cells ((Array.range (n * 1)).map (zv.cells[· % zv.cells.size]!)) h1 (by simp [hn])
  rw [hq, hp]
  simpa using this
end
end Go.Proofs.Ytbjaecofccpahaa
