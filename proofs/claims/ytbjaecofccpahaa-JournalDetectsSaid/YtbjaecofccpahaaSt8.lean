/-
  My own layer over the kit's walk: a string appended to a row of bytes; an empty literal.
-/
import Derived.Test.YtbjaecofccpahaaSt7
import Derived.Lib.AppendStr
import Derived.Lib.SliceRun
namespace Go.Proofs.Ytbjaecofccpahaa
open Go Go.RowKit
set_option linter.unusedVariables false
set_option linter.unusedSimpArgs false
section
variable {P : Program} {W0 w : World} {L : List HP}
theorem append_str_run {t tu ty e : TypeId} {by_ : Nat} [u : UL P t (.slice e)] [us : UL P tu .string] [ti : TI P e (.int .u8 0) 1 1] {v : Value} {l : List UInt8} (S : St W0 w (own e eB v l :: L)) (s : ByteArray)
    (hb : l.length + s.size ≤ 140737488355328) :
    ∃ v' w', (Builtin.append_ #[t, tu] ty #[v, .string s]).run P w = .ok v' w' ∧ St W0 w' (own e eB v' (l ++ s.data.toList) :: L) := by
  obtain ⟨i, hi, hz, hsz, hby⟩ := ti.pf
  obtain ⟨css, hrow, hlens, hcl, k⟩ := S.own_turn
  have hr1 : eB.sz = 1 := rfl
  obtain ⟨v', w', hr, hown, hg, hnil⟩ := Lib.run_append_own_string (P := P) w 0 t tu ty e i u.pf us.pf hi hz hsz hby v l.length css.flatten hrow s (by unfold maxLen; omega) hb (Nat.zero_le _)
  refine ⟨v', w', hr, k (css' := css ++ (s.data.toList.map fun b => [bv b])) ?_ ?_ hg ?_⟩
  · intro m h _ ha
    exact ha.append (all2_e1.2 rfl)
  · rw [List.flatten_append, flat_one]
    have e1 : (l ++ s.data.toList).length = l.length + s.size := by rw [List.length_append]; rfl
    rw [e1]
    exact hown
  · rcases hrow.2 with ⟨rfl, hn⟩ | ⟨g, cap, cur, rfl, hbg, hg', hnc, hcm, hcs, htake⟩
    · by_cases hs : s.size = 0
      · rw [hnil.2 ⟨rfl, hs⟩]; exact .inl rfl
      · rw [run_append_nil_string w t tu ty e i _ u.pf us.pf hi hz s (by omega) (by omega) (by rw [hby]; omega)] at hr
        injection hr with h1 h2
        rw [← h1]
        exact .inr rfl
    · by_cases hroom : l.length + s.size ≤ cap
      · rw [Lib.run_append_room_string w t tu ty e i u.pf us.pf hi hsz g l.length cap cur hg' s hroom (by rw [hcs, hr1]; omega)] at hr
        injection hr with h1 h2
        rw [← h1]
        exact .inl rfl
      · have hcells : ∀ j v, css.flatten[j]? = some v → w.cell? ((⟨g, 0, none⟩ : Addr).add j) = some v := fun j u' hu' => hrow.cells (g := g) rfl j u' hu'
        rw [Lib.run_append_grow_string w t tu ty e i _ u.pf us.pf hi hz ⟨g, 0, none⟩ l.length cap css.flatten (by rw [hsz]; exact hrow.1) hcells s (by omega) (by omega) (by rw [hby]; have := nextslicecap_le (need := l.length + s.size) (old := cap) (by omega); omega)] at hr
        injection hr with h1 h2
        rw [← h1]
        exact .inr rfl
variable {ops : Array Oper} {rest : List Oper} {o : Oper} {a : Act} {Q : Exit → Act → World → Prop}
theorem L_lit0 (hS : St W0 w L) {dst : Option Tmp} {t : TypeId} {ty : TypeId} {pos : String} {aft : Array Edge} {gd : Option (Nat × Bool)} {e : TypeId} {z : Value} {sz by_ : Nat} [u : UL P t (.slice e)] [ti : TI P e z sz by_]
    {α : Type} {R : Enc α} (hw : Region.wanted ⟨dst, .buildSlice t 0 #[], ty, pos, aft, gd⟩ (yielded ops a.tmps) = true) (hR : R.sz = sz)
    (k : ∀ g w', St W0 w' (own e R (.slice (some ⟨g, 0, none⟩) 0 0) ([] : List α) :: L) → wpList P ops Q rest (a.put dst (.slice (some ⟨g, 0, none⟩) 0 0)) w') : wpList P ops Q (⟨dst, .buildSlice t 0 #[], ty, pos, aft, gd⟩ :: rest) a w := by
  obtain ⟨i, hi, hz, hsz, hby⟩ := ti.pf
  have hr : (Instr.buildSlice t 0 #[]).run P w = .ok (.slice (some ⟨w.heap.size, 0, none⟩) 0 0) (w.alloc (.cells #[] e)) := by
    simp [Instr.buildSlice, run_underlying u.pf, sizeOf, typeInfo, hi, Instr.fill, newRow]
    have e0 : Array.range 0 = #[] := by decide
    rw [e0]
    simp
  refine step_val (v := .slice (some ⟨w.heap.size, 0, none⟩) 0 0) (w' := w.alloc (.cells #[] e)) hw (by unfold execOp; simp [hr]) (k w.heap.size _ ?_)
  refine (hS.alloc (.cells #[] e)).imp ?_
  intro m h hb
  exact ⟨[], trivial, .inr ⟨w.heap.size, 0, #[], rfl, hb, Nat.le_refl _, by unfold maxLen; omega, by simp, by simp⟩⟩
theorem L_appstr (hS : St W0 w L) {dst : Option Tmp} {t tu : TypeId} {sx sy : Operand} {ty : TypeId} {pos : String} {aft : Array Edge} {gd : Option (Nat × Bool)}
    {e : TypeId} [u : UL P t (.slice e)] [us : UL P tu .string] [ti : TI P e (.int .u8 0) 1 1] {v : Value} {l : List UInt8} {sv : ByteArray} {i : Nat}
    (hw : Region.wanted ⟨dst, .call { callee := .builtin .append, args := #[sx, sy], argTypes := #[t, tu] }, ty, pos, aft, gd⟩ (yielded ops a.tmps) = true) (hv : a.eval sx = v) (hy : a.eval sy = .string sv) (hm : L[i]? = some (own e eB v l))
    (hb : l.length + sv.size ≤ 140737488355328)
    (k : ∀ A c w', St W0 w' (L.set i (own e eB (.slice A (l.length + sv.size) c) (l ++ sv.data.toList))) → wpList P ops Q rest (a.put dst (.slice A (l.length + sv.size) c)) w') :
    wpList P ops Q (⟨dst, .call { callee := .builtin .append, args := #[sx, sy], argTypes := #[t, tu] }, ty, pos, aft, gd⟩ :: rest) a w := by
  obtain ⟨v', w', hr, hS'⟩ := append_str_run (P := P) (t := t) (tu := tu) (ty := ty) (e := e) (by_ := 1) (hS.at_ hm) sv hb
  obtain ⟨A, c, rfl, _⟩ := (hS'.rdo (.head _)).form
  have hl : (l ++ sv.data.toList).length = l.length + sv.size := by rw [List.length_append]; rfl
  rw [hl] at hr hS'
  refine step_val (v := .slice A (l.length + sv.size) c) (w' := w') hw ?_ (k A c w' (hS'.back hm))
  unfold execOp
  simp only [resolve, invoke, builtin, Sem.run_bind, Sem.run_pure, Result.andThen_ok, List.map_toArray, List.map_cons, List.map_nil, hv, hy, hr]
theorem L_eqnil {dst : Option Tmp} {t u' : TypeId} {x : Operand} {n' c' : Nat} {ty : TypeId} {pos : String} {aft : Array Edge} {gd : Option (Nat × Bool)} {e : TypeId} [u : UL P t (.slice e)] {A : Option Addr} {n c : Nat}
    (hw : Region.wanted ⟨dst, .binOp .eql t x (.const (.slice none n' c')) u', ty, pos, aft, gd⟩ (yielded ops a.tmps) = true) (hx : a.eval x = .slice A n c)
    (k : wpList P ops Q rest (a.put dst (.bool A.isNone)) w) : wpList P ops Q (⟨dst, .binOp .eql t x (.const (.slice none n' c')) u', ty, pos, aft, gd⟩ :: rest) a w := by
  refine step_val (v := .bool A.isNone) (w' := w) hw ?_ k
  have h := Lib.run_eql_slice_nil (P := P) w t e A n c n' c' u.pf
  unfold execOp
  have hg : (eqGuard .eql t x (.const (.slice none n' c')) (.slice A n c) (.slice none n' c')).run P w = .ok () w := by simp [eqGuard]
  have he : a.eval (.const (.slice none n' c')) = .slice none n' c' := rfl
  simp only [hx, he, Sem.run_bind, hg, h, Result.andThen_ok]
  rfl
end
end Go.Proofs.Ytbjaecofccpahaa
