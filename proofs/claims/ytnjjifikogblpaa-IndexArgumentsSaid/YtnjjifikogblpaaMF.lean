/-
  My own engine: one rule an operation that acts; tests that part the ways.
-/
import Derived.Test.YtnjjifikogblpaaME
namespace Go.Proofs.Ytnjjifikogblpaa
open Go Go.RowKit
set_option linter.unusedVariables false
set_option linter.unusedSimpArgs false
section
variable {P : Program} {W0 w : World} {L L' S : List HP} {ops : Array Oper} {rest : List Oper} {o : Oper} {a a' : Act} {Q : Exit → Act → World → Prop}
  {d : Option Tmp} {ty : TypeId} {pos : String} {aft : Array Edge} {gd : Option (Nat × Bool)} {x y z : Operand} {v : Value} {t u : TypeId} {k k' : IntKind} {m n r : Int} {b : Nat}
theorem CT_fact {f : FuncId} {args : Array Value} {R : Value → List HP → Prop} {φ : Prop} (hf : ∀ w, St W0 w L → φ) (h : φ → CT P f args W0 L R) : CT P f args W0 L R := ⟨fun w s => (h (hf w s)).run w s⟩
theorem O_fact {φ : Prop} (hf : ∀ w, St W0 w L → φ) (h : φ → OL P W0 L ops Q rest a) : OL P W0 L ops Q rest a := ⟨fun w s => (h (hf w s)).run w s⟩
theorem C_fact {c : Code} {φ : Prop} (hf : ∀ w, St W0 w L → φ) (h : φ → CL P W0 L c Q a) : CL P W0 L c Q a := ⟨fun w s => (h (hf w s)).run w s⟩
theorem Sl.nil_of {α : Type} {m : Hp} {R : Enc α} {n c : Nat} {l : List α} (h : Sl m R (.slice none n c) l) : l = [] := by
  obtain ⟨A', cap', css, hv, hc, ha, hr⟩ := h
  injection hv with e1 e2 e3
  rcases hr with h | ⟨b, off, cs, t, fr, hA, _⟩
  · exact h
  · rw [← e1] at hA; cases hA
theorem E_ownnil {e : Exit} {α : Type} (E : TypeId) (R : Enc α) (k : EL W0 (own E R (.slice none 0 0) ([] : List α) :: L) Q e a) : EL W0 L Q e a := ⟨fun w s => k.run w (s.own_nil E R)⟩
theorem O_ownnil {α : Type} (E : TypeId) (R : Enc α) (k : OL P W0 (own E R (.slice none 0 0) ([] : List α) :: L) ops Q rest a) : OL P W0 L ops Q rest a := ⟨fun w s => k.run w (s.own_nil E R)⟩
theorem C_ownnil {c : Code} {α : Type} (E : TypeId) (R : Enc α) (k : CL P W0 (own E R (.slice none 0 0) ([] : List α) :: L) c Q a) : CL P W0 L c Q a := ⟨fun w s => k.run w (s.own_nil E R)⟩
theorem CT_ownnil {f : FuncId} {args : Array Value} {R : Value → List HP → Prop} {α : Type} (E : TypeId) (Rn : Enc α) (k : CT P f args W0 (own E Rn (.slice none 0 0) ([] : List α) :: L) R) : CT P f args W0 L R := ⟨fun w s => k.run w (s.own_nil E Rn)⟩
theorem O_nrm (h : a = a') (hL : L = L') (k : OL P W0 L' ops Q rest a') : OL P W0 L ops Q rest a := by subst h; subst hL; exact k
theorem D_nrm {n : Nat} {l : List Oper} {br : Bool} {r : List (Nat × Nat)} (h : a = a') (hL : L = L') (k : DL P W0 S n l Q br r L' a') : DL P W0 S n l Q br r L a := by subst h; subst hL; exact k
theorem dy_val {R : Act → List HP → Prop} (h : ∀ w, St W0 w L → ∃ v w' L', (execOp a.eval o).run P w = .ok (.value v) w' ∧ R (a.put o.dst v) L' ∧ St W0 w' L') : DY P W0 L o a R := ⟨fun w s => by
  obtain ⟨v, w', L', hr, hR, hs⟩ := h w s
  unfold Oper.wp
  rw [hr]
  exact ⟨L', hR, hs⟩⟩
theorem dy_skp {R : Act → List HP → Prop} (h : ∀ w, St W0 w L → ∃ w' L', (execOp a.eval o).run P w = .ok .skip w' ∧ R (a.put o.dst undef) L' ∧ St W0 w' L') : DY P W0 L o a R := ⟨fun w s => by
  obtain ⟨w', L', hr, hR, hs⟩ := h w s
  unfold Oper.wp
  rw [hr]
  exact ⟨L', hR, hs⟩⟩
class CellsI (v : Value) (cs : outParam (List Value)) : Prop where
  pf : v.cells.toList = cs
instance {k : IntKind} {n : Int} : CellsI (.int k n) [.int k n] := ⟨rfl⟩
instance {b : Bool} : CellsI (.bool b) [.bool b] := ⟨rfl⟩
instance {s : ByteArray} : CellsI (.string s) [.string s] := ⟨rfl⟩
instance {p : Option Addr} : CellsI (.pointer p) [.pointer p] := ⟨rfl⟩
instance {p : Option Addr} {n c : Nat} : CellsI (.slice p n c) [.slice p n c] := ⟨rfl⟩
instance {r : Option Nat} : CellsI (.map r) [.map r] := ⟨rfl⟩
instance {f : Fn} {A B : Array Value} : CellsI (.func f A B) [.func f A B] := ⟨rfl⟩
instance {A : Option Addr} {j s o : Nat} : CellsI (elp A j s o) [elp A j s o] := ⟨rfl⟩
instance {l : List Value} : CellsI (.agg l.toArray) l := ⟨rfl⟩
theorem dy_alloc {zv : Value} {s by_ : Nat} [TI P t zv s by_] {cs : List Value} (hz : zv.cells.toList = cs := by first | exact CellsI.pf | exact rfl) : DY P W0 L ⟨d, .alloc t, ty, pos, aft, gd⟩ a fun a' L' => ∃ b, a.put d (.pointer (some ⟨b, 0, none⟩)) = a' ∧ L' = cel b cs t :: L :=
  dy_val fun w s => ⟨_, w.alloc (.cells zv.cells t), _, by unfold execOp; simp [Instr.alloc, zero_run (P := P) (t := t), newVar, newRow, newObj, Sem.run], ⟨w.heap.size, rfl, rfl⟩, by subst hz; simpa [cel] using s.alloc (.cells zv.cells t)⟩
theorem dy_box {cs : List Value} (hx : a.eval x = v := by exact Ev.pf) (hz : v.cells.toList = cs := by first | exact CellsI.pf | exact rfl) : DY P W0 L ⟨d, .box t x, ty, pos, aft, gd⟩ a fun a' L' => ∃ b, a.put d (.pointer (some ⟨b, 0, none⟩)) = a' ∧ L' = cel b cs t :: L :=
  dy_val fun w s => ⟨_, w.alloc (.cells v.cells t), _, by unfold execOp; simp [Instr.box, hx, newVar, newRow, newObj, Sem.run], ⟨w.heap.size, rfl, rfl⟩, by subst hz; simpa [cel] using s.alloc (.cells v.cells t)⟩
theorem dy_store {zv : Value} {by_ : Nat} [TI P t zv 1 by_] {T : TypeId} {off i : Nat} {cs cs' : List Value} (hx : a.eval x = .pointer (some ⟨b, off, none⟩) := by exact Ev.pf) (hy : a.eval y = v := by exact Ev.pf) (h1 : v.oneCell' = true := by first | rfl | assumption) (hm : L[i]? = some (cel b cs T) := by exact IxC.pf) (hlt : off < cs.length := by exact GA.lt) (hcs : cs.set off v = cs' := by exact SAt.pf) :
    DY P W0 L ⟨d, .store t x y, ty, pos, aft, gd⟩ a fun a' L' => a.put d undef = a' ∧ L' = L.set i (cel b cs' T) :=
  dy_skp fun w s => ⟨_, _, by unfold execOp; simp [hx, hy, store_run (P := P) (t := t) h1 (s.cel_ (List.mem_of_getElem? hm)) (by simpa using hlt)]; rfl, ⟨rfl, rfl⟩, by subst hcs; exact s.setCellAt hm v⟩
theorem dy_storeA {zv : Value} {sz by_ : Nat} [TI P t zv sz by_] {T : TypeId} {off i : Nat} {cs cs' vs : List Value} (hx : a.eval x = .pointer (some ⟨b, off, none⟩) := by exact Ev.pf) (hy : a.eval y = .agg vs.toArray := by exact Ev.pf) (h1 : (vs.all fun v => v.oneCell') = true := by rfl) (hs : vs.length = sz) (hm : L[i]? = some (cel b cs T) := by exact IxC.pf) (hlt : off + sz ≤ cs.length) (hcs : cs.take off ++ vs ++ cs.drop (off + sz) = cs') :
    DY P W0 L ⟨d, .store t x y, ty, pos, aft, gd⟩ a fun a' L' => a.put d undef = a' ∧ L' = L.set i (cel b cs' T) :=
  dy_skp fun w s => ⟨w.setRow b (cs.take off ++ vs ++ cs.drop (off + sz)).toArray, _, by unfold execOp; simp [hx, hy, storeAgg_run (P := P) (t := t) hs (by simpa using h1) (s.cel_ (List.mem_of_getElem? hm)) (by simpa using hlt)], ⟨rfl, rfl⟩, by subst hcs; exact s.setRowAt hm⟩
theorem dy_append {e : TypeId} {zv : Value} {sz by_ : Nat} [ut : UL P t (.slice e)] [ti : TI P e zv sz by_] {α : Type} {R : Enc α} {v' : Value} {l l2 : List α} {i N : Nat} (hx : a.eval x = v := by exact Ev.pf) (hy : a.eval y = v' := by exact Ev.pf) (hm : L[i]? = some (own e R v l) := by exact InO.pf) {Le : List HP} (he : L.eraseIdx i = Le := by exact EAt.pf) (hsrc : Src Le R v' l2 := by exact Sc.pf)
    (hzs : zv.cells.size = sz := by rfl) (hs0 : 0 < sz := by decide) (hR : R.sz = sz := by rfl) (hN : l.length + l2.length = N := by (try simp only [List.length_append, List.length_cons, List.length_nil, Nat.zero_add, Nat.add_zero, Nat.reduceAdd]) <;> exact rfl) (hb : N * by_ ≤ 140737488355328 := by omega) (h63 : N ≤ 9223372036854775807 := by omega) :
    DY P W0 L ⟨d, .call { callee := .builtin .append, args := #[x, y], argTypes := #[t, t] }, ty, pos, aft, gd⟩ a fun a' L' => ∃ A c, a.put d (.slice A N c) = a' ∧ L' = L.set i (own e R (.slice A N c) (l ++ l2)) :=
  dy_val fun w s => by
    subst hN; subst he
    obtain ⟨v2, w', hr, hS'⟩ := append_run (P := P) (t := t) (ty := ty) (e := e) hzs hs0 hR (s.at_ hm) hsrc hb (by unfold maxLen; omega)
    obtain ⟨A, c, rfl, _⟩ := (hS'.rdo (.head _)).form
    rw [List.length_append] at hr hS'
    refine ⟨_, w', _, ?_, ⟨A, c, rfl, rfl⟩, hS'.back hm⟩
    unfold execOp
    simp only [resolve, invoke, builtin, Sem.run_bind, Sem.run_pure, Result.andThen_ok, List.map_toArray, List.map_cons, List.map_nil, hx, hy, hr]
theorem dy_appstr {e : TypeId} [ut : UL P t (.slice e)] [us : UL P u .string] [ti : TI P e (.int .u8 0) 1 1] {l : List UInt8} {sv : ByteArray} {i N : Nat} (hx : a.eval x = v := by exact Ev.pf) (hy : a.eval y = .string sv := by exact Ev.pf) (hm : L[i]? = some (own e eB v l) := by exact InO.pf) (hN : l.length + sv.size = N := by (try simp only [List.length_append, List.length_cons, List.length_nil, Nat.zero_add, Nat.add_zero, Nat.reduceAdd]) <;> exact rfl) (hb : N ≤ 140737488355328 := by omega) :
    DY P W0 L ⟨d, .call { callee := .builtin .append, args := #[x, y], argTypes := #[t, u] }, ty, pos, aft, gd⟩ a fun a' L' => ∃ A c, a.put d (.slice A N c) = a' ∧ L' = L.set i (own e eB (.slice A N c) (l ++ sv.data.toList)) :=
  dy_val fun w s => by
    subst hN
    obtain ⟨v', w', hr, hS'⟩ := append_str_run (P := P) (t := t) (tu := u) (ty := ty) (e := e) (by_ := 1) (s.at_ hm) sv hb
    obtain ⟨A, c, rfl, _⟩ := (hS'.rdo (.head _)).form
    have hl : (l ++ sv.data.toList).length = l.length + sv.size := by rw [List.length_append]; rfl
    rw [hl] at hr hS'
    refine ⟨_, w', _, ?_, ⟨A, c, rfl, rfl⟩, hS'.back hm⟩
    unfold execOp
    simp only [resolve, invoke, builtin, Sem.run_bind, Sem.run_pure, Result.andThen_ok, List.map_toArray, List.map_cons, List.map_nil, hx, hy, hr]
theorem dy_lit0 {e : TypeId} {zv : Value} {sz by_ : Nat} [ut : UL P t (.slice e)] [ti : TI P e zv sz by_] {α : Type} (R : Enc α) (hR : R.sz = sz := by rfl) :
    DY P W0 L ⟨d, .buildSlice t 0 #[], ty, pos, aft, gd⟩ a fun a' L' => ∃ g, a.put d (.slice (some ⟨g, 0, none⟩) 0 0) = a' ∧ L' = own e R (.slice (some ⟨g, 0, none⟩) 0 0) ([] : List α) :: L :=
  dy_val fun w s => by
    obtain ⟨i, hi, hz, hsz, hby⟩ := ti.pf
    have hr : (Instr.buildSlice t 0 #[]).run P w = .ok (.slice (some ⟨w.heap.size, 0, none⟩) 0 0) (w.alloc (.cells #[] e)) := by
      simp [Instr.buildSlice, run_underlying ut.pf, sizeOf, typeInfo, hi, Instr.fill, newRow]
      have e0 : Array.range 0 = #[] := by decide
      rw [e0]
      simp
    refine ⟨_, _, _, by unfold execOp; simp [hr], ⟨w.heap.size, rfl, rfl⟩, (s.alloc (.cells #[] e)).imp ?_⟩
    intro m h hb
    exact ⟨[], trivial, .inr ⟨w.heap.size, 0, #[], rfl, hb, Nat.le_refl _, by unfold maxLen; omega, by simp, by simp⟩⟩
/-- a literal, said by its cells -/
theorem dy_lit {n : Nat} {parts : Array (Nat × Operand)} {e : TypeId} {zv : Value} {sz by_ : Nat} [ut : UL P t (.slice e)] [ti : TI P e zv sz by_] {cells : List Value}
    (hf : Instr.fill (fun i => some (i * sz, sz)) ((Array.range (n * sz)).map (zv.cells[· % zv.cells.size]!)) (parts.map fun (i, x) => (i, a.eval x)).toList = some cells.toArray) (hsm : n * sz ≤ 16777216) (hpos : 0 < n * sz)
    {α : Type} {R : Enc α} {l : List α} {css : List (List Value)} (hn : l.length = n) (hR : R.sz = sz := by rfl) (hel : ∀ m h, SepL m L h → All2 (R.r m) l css) (hc : cells = css.flatten) (hml : n ≤ 16777216) :
    DY P W0 L ⟨d, .buildSlice t n parts, ty, pos, aft, gd⟩ a fun a' L' => ∃ g, a.put d (.slice (some ⟨g, 0, none⟩) n n) = a' ∧ L' = own e R (.slice (some ⟨g, 0, none⟩) n n) l :: L :=
  dy_val fun w s => by
    obtain ⟨i, hi, hz, hsz, hby⟩ := ti.pf
    subst hsz; subst hc
    have hr := run_buildSlice (P := P) w t e n (parts.map fun (i, x) => (i, a.eval x)) css.flatten.toArray i zv ut.pf hi hz (by omega) (by omega) hf
    refine ⟨_, w.alloc (.cells css.flatten.toArray e), _, by unfold execOp; simp [hr], ⟨w.heap.size, rfl, rfl⟩, ?_⟩
    refine (s.alloc (.cells css.flatten.toArray e)).weak fun m h hs => ?_
    obtain ⟨x, y, d, hx, hy, hA, hL⟩ := hs
    have hall := hel m y hL
    refine ⟨x, y, d, hx, hy, ⟨css, hall, .inr ⟨w.heap.size, n, css.flatten.toArray, by rw [hn], hA, by omega, by unfold maxLen; omega, ?_, ?_⟩⟩, hL⟩
    · have := hall.flen
      rw [hR, hn] at this
      rw [hR]
      simpa using this
    · have := hall.flen
      rw [← this]
      exact List.take_length
theorem fill_one {sz : Nat} {zc c : Array Value} (h : c.size = sz) : Instr.fill (fun i => some (i * sz, sz)) ((Array.range (1 * sz)).map (zc[· % zc.size]!)) [(0, .agg c)] = some c ∧ ∀ v : Value, v.cells = c → Instr.fill (fun i => some (i * sz, sz)) ((Array.range (1 * sz)).map (zc[· % zc.size]!)) [(0, v)] = some c := by
  have key : ∀ v : Value, v.cells = c → Instr.fill (fun i => some (i * sz, sz)) ((Array.range (1 * sz)).map (zc[· % zc.size]!)) [(0, v)] = some c := by
    intro v hv
    simp only [Instr.fill, hv, h]
    rw [if_neg (by simp)]
    congr 1
    have := @fold_set c.toList 0 ((Array.range (1 * sz)).map (zc[· % zc.size]!)) (by simp [h])
    simp at this
    refine Eq.trans ?_ this
    simp only [Nat.zero_mul, Nat.zero_add, Nat.one_mul]
    rw [← Array.foldl_toList, Array.toList_zipIdx]
  exact ⟨key _ rfl, key⟩
theorem dy_lit1 {e : TypeId} {zv : Value} {sz by_ : Nat} [ut : UL P t (.slice e)] [ti : TI P e zv sz by_] {α : Type} {R : Enc α} (el : α) {cs : List Value} (hx : a.eval x = v := by exact Ev.pf) (hcs : v.cells.toList = cs) (hR : R.sz = sz := by rfl) (hs0 : 0 < sz := by decide) (hs1 : sz ≤ 16777216 := by decide) (hel : ∀ m h, SepL m L h → R.r m el cs) :
    DY P W0 L ⟨d, .buildSlice t 1 #[(0, x)], ty, pos, aft, gd⟩ a fun a' L' => ∃ g, a.put d (.slice (some ⟨g, 0, none⟩) 1 1) = a' ∧ L' = own e R (.slice (some ⟨g, 0, none⟩) 1 1) [el] :: L := by
  refine ⟨fun w s => ?_⟩
  have hsz : v.cells.size = sz := by
    obtain ⟨h1, h2, h3, h4, m, h, hm', hw', hh, dd, hL⟩ := s
    have := R.len (hel m h hL)
    rw [← hR, ← this, ← hcs]; simp
  refine (dy_lit (n := 1) (sz := sz) (R := R) (l := [el]) (css := [cs]) (cells := cs) (by
    have := (fill_one (zc := zv.cells) hsz).2 v rfl
    simp only [List.map_toArray, List.map_cons, List.map_nil, hx]
    rw [← hcs]
    simpa using this) (by omega) (by omega) rfl hR (fun m h hL => ⟨hel m h hL, trivial⟩) (by simp) (by decide)).run w s
/-- a literal of elements of one cell -/
theorem dy_litN {n : Nat} {parts : Array (Nat × Operand)} {e : TypeId} {zv : Value} {by_ : Nat} [ut : UL P t (.slice e)] [ti : TI P e zv 1 by_] {α : Type} {f : α → Value} {hf : ∀ a, (f a).oneCell' = true} (els : List α)
    (hn : els.length = n) (hpos : 0 < n) (hsm : n ≤ 16777216) (hp : (parts.map fun (i, x) => (i, a.eval x)).toList = ((els.map f).zipIdx 0).map fun x => (x.2, x.1)) :
    DY P W0 L ⟨d, .buildSlice t n parts, ty, pos, aft, gd⟩ a fun a' L' => ∃ g, a.put d (.slice (some ⟨g, 0, none⟩) n n) = a' ∧ L' = own e (e1 f hf) (.slice (some ⟨g, 0, none⟩) n n) els :: L := by
  refine dy_lit (n := n) (sz := 1) (R := e1 f hf) (l := els) (css := els.map fun b => [f b]) (cells := els.map f) ?_ (by omega) (by omega) hn rfl (fun m h hL => all2_e1.2 rfl) (flat_one f els).symm (by omega)
  have := Great.fill_flat (els.map f) ((Array.range (n * 1)).map (zv.cells[· % zv.cells.size]!)) (fun v hv => by
    obtain ⟨b, _, rfl⟩ := List.mem_map.1 hv
    have := hf b
    cases hh : f b <;> first | rfl | (rw [hh] at this; simp [Value.oneCell'] at this)) (by simp [hn])
  rw [hp]
  simpa using this
theorem dy_bytes {e : TypeId} {sv : ByteArray} (hx : a.eval x = .string sv := by exact Ev.pf) [us : UL P u .string] [ut : UL P t (.slice e)] [ub : UL P e (.int .u8)] :
    DY P W0 L ⟨d, .convert u t x, ty, pos, aft, gd⟩ a fun a' L' => ∃ A c, a.put d (.slice A sv.size c) = a' ∧ L' = rd eB (.slice A sv.size c) sv.data.toList :: L := by
  refine ⟨fun w s => ?_⟩
  have hr := run_bytes_of_string (P := P) w u t e sv us.pf ut.pf ub.pf
  unfold Oper.wp
  have hr2 : (execOp a.eval (⟨d, .convert u t x, ty, pos, aft, gd⟩ : Oper)).run P w = .ok (.value (.slice (some ⟨w.heap.size, 0, none⟩) sv.size (grownCap w sv.size 0 e))) (w.drew.alloc (.cells (bytesRow sv (grownCap w sv.size 0 e)) e ((bytesRow sv (grownCap w sv.size 0 e)).size, (bytesRow sv (grownCap w sv.size 0 e)).size + 1))) := by
    unfold execOp; simp only [hx, Sem.run_bind, hr, Result.andThen_ok]; rfl
  rw [hr2]
  refine ⟨_, ⟨_, _, rfl, rfl⟩, ?_⟩
  have S := s.drew.alloc (.cells (bytesRow sv (grownCap w sv.size 0 e)) e ((bytesRow sv (grownCap w sv.size 0 e)).size, (bytesRow sv (grownCap w sv.size 0 e)).size + 1))
  refine S.freeze fun m h d hA => ?_
  refine (⟨some ⟨w.heap.size, 0, none⟩, grownCap w sv.size 0 e, sv.data.toList.map (fun b => [bv b]), ?_, ?_, ?_, .inr ⟨w.heap.size, 0, _, _, _, rfl, Hp.le_or_right d _ _ hA, ?_⟩⟩ : Sl (m.or h) eB (.slice (some ⟨w.heap.size, 0, none⟩) sv.size (grownCap w sv.size 0 e)) sv.data.toList)
  · rfl
  · exact grownCap_ge w sv.size 0 e
  · exact all2_e1.2 rfl
  · intro j u hj
    rw [flat_one] at hj
    have hlt : j < sv.data.size := by
      have := (List.getElem?_eq_some_iff.1 hj).1
      simpa using this
    simp only [Nat.zero_add, bytesRow]
    rw [Array.getElem?_append_left (by simpa using hlt)]
    simpa using hj
/-- a store into a row of the call's own -/
theorem dy_storeE {e : TypeId} {zv : Value} {by_ j n c i : Nat} [TI P t zv 1 by_] {A : Option Addr} {α : Type} {f : α → Value} {hf : ∀ a, (f a).oneCell' = true} {l : List α} (el : α) (hx : a.eval x = elp A j 1 0 := by exact Ev.pf) (hy : a.eval y = f el := by exact Ev.pf) (hm : L[i]? = some (own e (e1 f hf) (.slice A n c) l) := by exact InO.pf) (hj : j < l.length) :
    DY P W0 L ⟨d, .store t x y, ty, pos, aft, gd⟩ a fun a' L' => a.put d undef = a' ∧ L' = L.set i (own e (e1 f hf) (.slice A n c) (l.set j el)) := by
  refine ⟨fun w s => ?_⟩
  obtain ⟨g, cap, sp, hv, hc1, hc2, hc3, hS2⟩ := (s.at_ hm).own_cel (fun h0 => by rw [h0] at hj; simp at hj)
  injection hv with hA hn hc
  subst hA; subst hc
  subst hn
  have hb := hS2.cel_ (.head _)
  have hlen : j < (l.map f ++ sp).length := by simp; omega
  have e1 : a.eval x = .pointer (some ⟨g, j, none⟩) := by rw [hx]; simp [elp, Addr.add]; exact fun h => h.symm
  have hr : (execOp a.eval (⟨d, .store t x y, ty, pos, aft, gd⟩ : Oper)).run P w = .ok .skip (w.setCell ⟨g, j, none⟩ (f el)) := by
    unfold execOp; simp [e1, hy, store_run (P := P) (t := t) (hf el) hb (by simpa using hlen)]
  unfold Oper.wp
  rw [hr]
  refine ⟨_, ⟨rfl, rfl⟩, ?_⟩
  have h3 := hS2.setCell (i := j) (f el)
  have e2 : (l.map f ++ sp).set j (f el) = (l.set j el).map f ++ sp := by
    rw [List.set_append_left _ _ (by simpa using hj), List.map_set]
  rw [e2] at h3
  have h4 := St.cel_own (f := f) (hf := hf) (l := l.set j el) h3 (by simpa using hc1) hc2 (by simpa using hc3)
  rw [List.length_set] at h4
  exact h4.back hm

/-- s[lo:hi] of what reads for good -/
class InR (v : Value) (L : List HP) {α : outParam Type} (R : outParam (Enc α)) (l : outParam (List α)) : Prop where
  pf : rd R v l ∈ L
instance inr_s {v : Value} {L : List HP} {A : HP} {α : Type} {R : Enc α} {l : List α} [h : InR v L R l] : InR v (A :: L) R l := ⟨.tail _ h.pf⟩
instance inr_0 {v : Value} {L : List HP} {α : Type} {R : Enc α} {l : List α} : InR v (rd R v l :: L) R l := ⟨.head _⟩
theorem dy_rslice {e : TypeId} {zv : Value} {s by_ n c l' h' : Nat} {A : Option Addr} {lo hi : Option Operand} {lz hz : Int} {α : Type} {R : Enc α} {l : List α} [ut : UL P t (.slice e)] [ti : TI P e zv s by_] (hx : a.eval x = .slice A n c := by exact Ev.pf) (hm : rd R (.slice A n c) l ∈ L := by exact InR.pf) (hR : R.sz = s := by rfl)
    (hl : (lo.map a.eval = none ∧ lz = 0) ∨ ∃ k, lo.map a.eval = some (.int k lz) := by first | exact .inl ⟨rfl, rfl⟩ | exact .inr ⟨_, congrArg some Ev.pf⟩) (hh : (hi.map a.eval = none ∧ hz = n) ∨ ∃ k, hi.map a.eval = some (.int k hz) := by first | exact .inl ⟨rfl, rfl⟩ | exact .inr ⟨_, congrArg some Ev.pf⟩) (h0 : 0 ≤ lz := by omega) (h1 : lz ≤ hz := by omega) (h2 : hz ≤ n := by omega)
    (e1 : lz.toNat = l' := by first | exact Int.toNat_natCast _ | exact rfl) (e2 : hz.toNat - l' = h' := by first | rw [Int.toNat_natCast] | rfl) :
    DY P W0 L ⟨d, .slice t x lo hi none, ty, pos, aft, gd⟩ a fun a' L' => ∃ A' c', a.put d (.slice A' h' c') = a' ∧ L' = rd R (.slice A' h' c') ((l.drop l').take h') :: L := ⟨fun w st => by
  subst e1
  have hcap := (st.rd hm).cap_
  have hr := (sv_slice (W0 := W0) (S := L) (P := P) (d := d) (ty := ty) (pos := pos) (aft := aft) (gd := gd) (t := t) (e := e) (s := s) (h' := h') hx hl hh h0 h1 (by omega : hz ≤ c) rfl e2).run w st
  unfold Oper.wp
  rw [hr]
  exact ⟨_, ⟨_, _, rfl, rfl⟩, (sub_rdcut hm (by omega) hR).st st⟩⟩
/-! ### two ways -/
theorem O_split {p : Prop} {aT aF : Act} (hT : p → SV P W0 L o a (.bool true)) (hF : ¬ p → SV P W0 L o a (.bool false))
    (kT : p → OL P W0 L ops Q rest aT) (kF : ¬ p → OL P W0 L ops Q rest aF) (hw : Region.wanted o (yielded ops a.tmps) = true := by rfl) (hpT : a.put o.dst (.bool true) = aT := by exact Put.pf) (hpF : a.put o.dst (.bool false) = aF := by exact Put.pf) : OL P W0 L ops Q (o :: rest) a := by
  by_cases h : p
  · exact O_sv hw (hT h) hpT (kT h)
  · exact O_sv hw (hF h) hpF (kF h)
theorem D_split1 {p : Prop} {n i : Nat} {l : List Oper} {br : Bool} {r : List (Nat × Nat)} {aT aF : Act} (ho : l[i]? = some o) (hT : p → SV P W0 S o a (.bool true)) (hF : ¬ p → SV P W0 S o a (.bool false))
    (kT : p → DL P W0 S n l Q br r L aT) (kF : ¬ p → DL P W0 S n l Q br r L aF) (hw : Region.wanted o (yielded l.toArray a.tmps) = true := by rfl) (hpT : a.put o.dst (.bool true) = aT := by exact Put.pf) (hpF : a.put o.dst (.bool false) = aF := by exact Put.pf) : DL P W0 S n l Q br ((i, 1) :: r) L a := by
  by_cases h : p
  · exact D_sv ho hw (hT h) hpT (kT h)
  · exact D_sv ho hw (hF h) hpF (kF h)
end
end Go.Proofs.Ytnjjifikogblpaa
namespace Go.Proofs.Ytnjjifikogblpaa
open Go Go.RowKit
set_option linter.unusedVariables false
set_option linter.unusedSimpArgs false
def bdF (P : Program) (t : TypeId) : Sem (Array (Nat × Nat)) :=
  match P.underlying t with
  | some (.struct fs) => fs.mapM fun f => do pure (f.offset, ← sizeOf f.type)
  | _ => Go.stuck ""
class BD (P : Program) (t : TypeId) (pls : outParam (List (Nat × Nat))) (zs : outParam (List Value)) : Prop where
  u : ∀ w, (bdF P t).run P w = .ok pls.toArray w
  z : ∀ w, (zeroValue t).run P w = .ok (.agg zs.toArray) w
class OneC (v : Value) : Prop where
  pf : v.cells = #[v]
instance {k : IntKind} {n : Int} : OneC (.int k n) := ⟨rfl⟩
instance {b : Bool} : OneC (.bool b) := ⟨rfl⟩
instance {s : ByteArray} : OneC (.string s) := ⟨rfl⟩
instance {p : Option Addr} : OneC (.pointer p) := ⟨rfl⟩
instance {p : Option Addr} {n c : Nat} : OneC (.slice p n c) := ⟨rfl⟩
instance {r : Option Nat} : OneC (.map r) := ⟨rfl⟩
instance {f : Fn} {A B : Array Value} : OneC (.func f A B) := ⟨rfl⟩
instance {A : Option Addr} {j s o : Nat} : OneC (elp A j s o) := ⟨rfl⟩
class PartsI (a : Act) (ps : List (Nat × Operand)) (vs : outParam (List (Nat × Value))) : Prop where
  pf : (ps.map fun x => (x.1, a.eval x.2)) = vs
instance parts0 {a : Act} : PartsI a [] [] := ⟨rfl⟩
instance partsS {a : Act} {i : Nat} {x : Operand} {v : Value} {ps : List (Nat × Operand)} {vs : List (Nat × Value)} [h : Ev a x v] [k : PartsI a ps vs] : PartsI a ((i, x) :: ps) ((i, v) :: vs) := ⟨by have := k.pf; simp [h.pf, this]⟩
class GN (l : List (Nat × Nat)) (i : Nat) (o s : outParam Nat) : Prop where
  pf : l[i]? = some (o, s)
instance gn0 {l : List (Nat × Nat)} {o s : Nat} : GN ((o, s) :: l) 0 o s := ⟨rfl⟩
instance gnS {l : List (Nat × Nat)} {x : Nat × Nat} {i o s : Nat} [h : GN l i o s] : GN (x :: l) (i + 1) o s := ⟨by simpa using h.pf⟩
/-- some cells replaced -/
class SpL (l : List Value) (o : Nat) (vs : List Value) (l' : outParam (List Value)) : Prop where
  pf : l.take o ++ vs ++ l.drop (o + vs.length) = l' ∧ o + vs.length ≤ l.length
instance spl00 {l : List Value} : SpL l 0 [] l := ⟨by simp⟩
instance spl0S {l l' vs : List Value} {x v : Value} [h : SpL l 0 vs l'] : SpL (x :: l) 0 (v :: vs) (v :: l') := ⟨by have := h.pf; simp at this ⊢; exact ⟨this.1, this.2⟩⟩
instance splS {l l' vs : List Value} {x : Value} {o : Nat} [h : SpL l o vs l'] : SpL (x :: l) (o + 1) vs (x :: l') := ⟨by
  have h1 := h.pf
  refine ⟨?_, by simp; omega⟩
  have e : o + 1 + vs.length = (o + vs.length) + 1 := by omega
  rw [e, List.drop_succ_cons, List.take_succ_cons, ← h1.1]
  simp⟩
class FillI (pls : List (Nat × Nat)) (zs : List Value) (parts : List (Nat × Value)) (cs : outParam (List Value)) : Prop where
  pf : Instr.fill (fun i => pls.toArray[i]?) zs.toArray parts = some cs.toArray
instance fill0 {pls : List (Nat × Nat)} {zs : List Value} : FillI pls zs [] zs := ⟨rfl⟩
theorem fold_splice : ∀ (vs : List Value) (o k : Nat) (l : List Value), o + k + vs.length ≤ l.length → (vs.zipIdx k).foldl (fun cs (x : Value × Nat) => cs.setIfInBounds (o + x.2) x.1) l.toArray = (l.take (o + k) ++ vs ++ l.drop (o + k + vs.length)).toArray
  | [], o, k, l, _ => by simp
  | v :: vs, o, k, l, h => by
    simp only [List.length_cons] at h
    have ih := fold_splice vs o (k + 1) (l.set (o + k) v) (by simp; omega)
    simp only [List.zipIdx_cons, List.foldl_cons, List.setIfInBounds_toArray]
    rw [ih]
    congr 1
    have hlt : o + k < l.length := by omega
    have e1 : o + (k + 1) = o + k + 1 := by omega
    rw [e1, List.take_succ_eq_append_getElem (by simpa using hlt)]
    have e2 : (l.set (o + k) v).take (o + k) = l.take (o + k) := by rw [List.take_set]; exact List.set_eq_of_length_le (by simp; omega)
    have e3 : o + k + 1 + vs.length = o + k + (vs.length + 1) := by omega
    rw [e2, List.drop_set_of_lt (by omega), e3]
    simp
class LenI (vs : List Value) (s : Nat) : Prop where
  pf : vs.length = s
instance len0 : LenI [] 0 := ⟨rfl⟩
instance lenS {v : Value} {vs : List Value} {s : Nat} [h : LenI vs s] : LenI (v :: vs) (s + 1) := ⟨by simp [h.pf]⟩
instance fillA {pls : List (Nat × Nat)} {zs zs' vs cs : List Value} {i o s : Nat} {r : List (Nat × Value)} [g : GN pls i o s] [hl : LenI vs s] [p : SpL zs o vs zs'] [k : FillI pls zs' r cs] : FillI pls zs ((i, .agg vs.toArray) :: r) cs := ⟨by
  have h1 := p.pf
  have hs := hl.pf
  subst hs
  unfold Instr.fill
  have hg : pls.toArray[i]? = some (o, vs.length) := by simpa using g.pf
  simp only [hg, Value.cells, List.size_toArray]
  rw [if_neg (by simp; omega)]
  have := fold_splice vs o 0 zs (by omega)
  simp only [Nat.add_zero] at this
  rw [← Array.foldl_toList, Array.toList_zipIdx, this, h1.1]
  exact k.pf⟩
instance fill1 {pls : List (Nat × Nat)} {zs zs' cs : List Value} {i o : Nat} {v x : Value} {r : List (Nat × Value)} [h1 : OneC v] [g : GN pls i o 1] [p : SAt zs o v zs'] [l : GA zs o x] [k : FillI pls zs' r cs] : FillI pls zs ((i, v) :: r) cs := ⟨by
  have hlt : o < zs.length := l.lt
  unfold Instr.fill
  have hg : pls.toArray[i]? = some (o, 1) := by simpa using g.pf
  simp only [hg, h1.pf]
  rw [if_neg (by simp; omega)]
  have := k.pf
  rw [← p.pf] at this
  simpa using this⟩
section
variable {P : Program} {W0 w : World} {L L' S : List HP} {ops : Array Oper} {rest : List Oper} {o : Oper} {a a' : Act} {Q : Exit → Act → World → Prop}
  {d : Option Tmp} {ty : TypeId} {pos : String} {aft : Array Edge} {gd : Option (Nat × Bool)} {x y z : Operand} {v : Value} {t u : TypeId} {k k' : IntKind} {m n r : Int} {b : Nat}
instance svc_build {ps : List (Nat × Operand)} {pls : List (Nat × Nat)} {zs cs : List Value} {vs : List (Nat × Value)} [bd : BD P t pls zs] [hp : PartsI a ps vs] [hf : FillI pls zs vs cs] : SVc P W0 S ⟨d, .build t ps.toArray, ty, pos, aft, gd⟩ a (.agg cs.toArray) := ⟨⟨fun w _ => by
  have h1 := bd.u w
  have h2 := bd.z w
  have h3 := hf.pf
  rw [← hp.pf] at h3
  unfold bdF at h1
  cases hu : P.underlying t with
  | none => rw [hu] at h1; simp [Go.stuck, Sem.run] at h1
  | some ds =>
    rw [hu] at h1
    cases ds with
    | struct fs =>
      dsimp only at h1
      unfold execOp
      simp only [Instr.build, Sem.run_bind, h2, Result.andThen_ok, run_underlying hu, h1, Value.cells, List.map_toArray]
      have h4 : Instr.fill (fun i => pls[i]?) zs.toArray (List.map (fun x => (x.1, a.eval x.2)) ps) = some cs.toArray := by simpa using h3
      simp [h4]
    | _ => simp [Go.stuck, Sem.run] at h1⟩⟩
instance svc_mkf {fn : Fn} {xs ys : Array Operand} {A B : Array Value} [h : ArgsI a xs A] [h2 : ArgsI a ys B] : SVc P W0 S ⟨d, .makeFunc fn xs ys, ty, pos, aft, gd⟩ a (.func fn A B) := ⟨⟨fun w _ => by
  unfold execOp; simp [Instr.makeFunc, h.pf, h2.pf]⟩⟩
class AppA (A B C D : Array Value) : Prop where
  pf : A ++ B ++ C = D
theorem dy_callv {xs : Array Operand} {ats : Array TypeId} {f : Operand} {g : FuncId} {A B X args : Array Value} {R : Value → List HP → Prop} (hf : a.eval f = .func (.func g) A B) (ha : xs.map a.eval = X) (happ : A ++ X ++ B = args) (eg : Enters P g) (hc : CT P g args W0 L R) :
    DY P W0 L ⟨d, .call { callee := .value f, args := xs, argTypes := ats }, ty, pos, aft, gd⟩ a fun a' L' => ∃ v, R v L' ∧ a.put d v = a' := by
  refine ⟨fun w s => ?_⟩
  have hr : (execOp a.eval (⟨d, .call { callee := .value f, args := xs, argTypes := ats }, ty, pos, aft, gd⟩ : Oper)).run P w = .ok (.enter g args) w := by
    subst ha; subst happ
    unfold execOp
    simp [resolve, hf, Deferred.ofValue, invoke]
    exact eg _ _
  unfold Oper.wp
  rw [hr]
  refine Calls.mono (hc.run w s) ?_
  rintro e w' ⟨v, L', rfl, hR, hS⟩
  exact ⟨L', ⟨v, hR, rfl⟩, hS⟩
end
end Go.Proofs.Ytnjjifikogblpaa
