/-
  My own layer over the kit's walk: a row of the call's own, opened to its cells and closed again.
-/
import Derived.Test.YtbjaecofccpahaaSt5
namespace Go.Proofs.Ytbjaecofccpahaa
open Go Go.RowKit
set_option linter.unusedVariables false
set_option linter.unusedSimpArgs false
variable {W0 w : World} {L : List HP}
theorem wl_idxOwn1 {P : Program} {ops : Array Oper} {rest : List Oper} {o : Oper} {a : Act} {Q : Exit → Act → World → Prop} {t e : TypeId} {x ix : Operand} (hop : o.op = .indexAddr t x ix) (hw : Region.wanted o (yielded ops a.tmps) = true) {g n cap : Nat} (hx : a.eval x = .slice (some ⟨g, 0, none⟩) n cap)
    {k : IntKind} {zi : Nat} (hi : a.eval ix = .int k (zi : Int)) [UL P t (.slice e)] {z : Value} {by_ : Nat} [TI P e z 1 by_] (h1 : zi < n)
    (kk : wpList P ops Q rest (a.put o.dst (.pointer (some ⟨g, zi, none⟩))) w) : wpList P ops Q (o :: rest) a w :=
  wl_idxOwn (z := z) (s := 1) (by_ := by_) (e := e) hop hw hx hi (by omega) (by omega) (by simpa using kk)
theorem St.own_cel {α : Type} {f : α → Value} {hf : ∀ a, (f a).oneCell' = true} {E : TypeId} {v : Value} {l : List α} (s : St W0 w (own E (e1 f hf) v l :: L)) (hl : l ≠ []) :
    ∃ g cap sp, v = .slice (some ⟨g, 0, none⟩) l.length cap ∧ l.length ≤ cap ∧ cap ≤ maxLen ∧ sp.length = cap - l.length ∧ St W0 w (cel g (l.map f ++ sp) E :: L) := by
  have s1 : St W0 w (ex (fun q : Nat × Nat × List Value => Go.Proofs.Ytbjaecofccpahaa.sp [pur (v = .slice (some ⟨q.1, 0, none⟩) l.length q.2.1 ∧ l.length ≤ q.2.1 ∧ q.2.1 ≤ maxLen ∧ q.2.2.length = q.2.1 - l.length), cel q.1 (l.map f ++ q.2.2) E]) :: L) := by
    refine s.imp ?_
    rintro m h ⟨css, ha, k⟩
    rcases k with ⟨_, h0⟩ | ⟨g, cap, cur, hv, hg, hc, hm, hs, ht⟩
    · exact absurd h0 hl
    · have hcs := all2_e1.1 ha
      subst hcs
      rw [flat_one] at ht
      have hsz : (e1 f hf).sz = 1 := rfl
      rw [hsz] at hs ht
      simp only [Nat.mul_one] at hs ht
      have hcur : cur.toList = l.map f ++ cur.toList.drop l.length := by rw [← ht, List.take_append_drop]
      have hcell : Obj.cells (List.map f l ++ List.drop l.length cur.toList).toArray E (0, 0) = Obj.cells cur E (0, 0) := by rw [← hcur]
      refine ⟨(g, cap, cur.toList.drop l.length), Hp.none, h, Hp.none_dj _, Hp.none_le _, Hp.le_refl _, ⟨hv, hc, hm, by simp [hs]⟩, h, Hp.none, Hp.dj_none _, Hp.le_refl _, Hp.none_le _, ?_, trivial⟩
      show h g = some (Obj.cells (List.map f l ++ List.drop l.length cur.toList).toArray E (0, 0))
      rw [hcell, hg]
  obtain ⟨q, h⟩ := s1.ex_
  have h2 := h.open_
  have hp := h2.pur_
  exact ⟨q.1, q.2.1, q.2.2, hp.1, hp.2.1, hp.2.2.1, hp.2.2.2, h2.drop⟩
theorem St.cel_own {α : Type} {f : α → Value} {hf : ∀ a, (f a).oneCell' = true} {E : TypeId} {l : List α} {g cap : Nat} {sp : List Value} (s : St W0 w (cel g (l.map f ++ sp) E :: L)) (h1 : l.length ≤ cap) (h2 : cap ≤ maxLen) (h3 : sp.length = cap - l.length) :
    St W0 w (own E (e1 f hf) (.slice (some ⟨g, 0, none⟩) l.length cap) l :: L) := by
  refine s.imp ?_
  intro m h hc
  refine ⟨l.map fun b => [f b], all2_e1.2 rfl, .inr ⟨g, cap, (l.map f ++ sp).toArray, rfl, ?_, h1, h2, ?_, ?_⟩⟩
  · exact hc
  · simp [e1]; omega
  · rw [flat_one]; simp [e1]
end Go.Proofs.Ytbjaecofccpahaa
