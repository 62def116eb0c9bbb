/-
  My own layer over the kit's walk, part 3: assertions over disjoint parts of memory, and one law an operation. Nothing of a program stands here.
-/
import Derived.Test.YtbjaecofccpahaaSt2
import Derived.OwnWalk
import Derived.Great.BuildSlice
namespace Go.Proofs.Ytbjaecofccpahaa
open Go Go.RowKit
set_option linter.unusedVariables false
set_option linter.unusedSimpArgs false

/-! ### what is known of a type -/
class UL (P : Program) (t : TypeId) (d : outParam TypeDesc) : Prop where
  pf : P.underlying t = some d
class TI (P : Program) (t : TypeId) (z : outParam Value) (size bytes : outParam Nat) : Prop where
  pf : ∃ i, P.info? t = some i ∧ i.zero = some z ∧ i.size = size ∧ i.bytes = bytes
def aggD : TypeDesc → Bool
  | .struct _ | .array _ _ => true
  | _ => false

class AG (P : Program) (t : TypeId) (b : outParam Bool) : Prop where
  pf : ∃ d, P.underlying t = some d ∧ aggD d = b

variable {P : Program} {ops : Array Oper} {Q : Exit → Act → World → Prop} {rest : List Oper} {o : Oper} {a : Act}
variable {W0 w w' : World} {L L' : List HP}

theorem want_step (hw : Region.wanted o (yielded ops a.tmps) = true) (h : o.wp P a w (wpList P ops Q rest) Q) : wpList P ops Q (o :: rest) a w := by
  unfold wpList
  rw [if_pos hw]
  exact .inl h
theorem step_val (hw : Region.wanted o (yielded ops a.tmps) = true) {v : Value} (hr : (execOp a.eval o).run P w = .ok (.value v) w')
    (k : wpList P ops Q rest (a.put o.dst v) w') : wpList P ops Q (o :: rest) a w :=
  want_step hw (by unfold Oper.wp; rw [hr]; exact k)
theorem step_skip (hw : Region.wanted o (yielded ops a.tmps) = true) (hr : (execOp a.eval o).run P w = .ok .skip w')
    (k : wpList P ops Q rest (a.put o.dst undef) w') : wpList P ops Q (o :: rest) a w :=
  want_step hw (by unfold Oper.wp; rw [hr]; exact k)

/-- for looking: the walk stands before this operation -/
def Stop (p : Prop) : Prop := p
theorem stop_op (h : Stop (wpList P ops Q (o :: rest) a w)) : wpList P ops Q (o :: rest) a w := h
/-! guards: an arm is tried at its own operation alone -/
theorem g_load {t : TypeId} {x : Operand} {dst : Option Tmp} {ty : TypeId} {pos : String} {aft : Array Edge} {gd : Option (Nat × Bool)} (k : wpList P ops Q (⟨dst, .load t x, ty, pos, aft, gd⟩ :: rest) a w) : wpList P ops Q (⟨dst, .load t x, ty, pos, aft, gd⟩ :: rest) a w := k
theorem g_store {t : TypeId} {x y : Operand} {dst : Option Tmp} {ty : TypeId} {pos : String} {aft : Array Edge} {gd : Option (Nat × Bool)} (k : wpList P ops Q (⟨dst, .store t x y, ty, pos, aft, gd⟩ :: rest) a w) : wpList P ops Q (⟨dst, .store t x y, ty, pos, aft, gd⟩ :: rest) a w := k
theorem g_alloc {t : TypeId} {dst : Option Tmp} {ty : TypeId} {pos : String} {aft : Array Edge} {gd : Option (Nat × Bool)} (k : wpList P ops Q (⟨dst, .alloc t, ty, pos, aft, gd⟩ :: rest) a w) : wpList P ops Q (⟨dst, .alloc t, ty, pos, aft, gd⟩ :: rest) a w := k
theorem g_box {t : TypeId} {x : Operand} {dst : Option Tmp} {ty : TypeId} {pos : String} {aft : Array Edge} {gd : Option (Nat × Bool)} (k : wpList P ops Q (⟨dst, .box t x, ty, pos, aft, gd⟩ :: rest) a w) : wpList P ops Q (⟨dst, .box t x, ty, pos, aft, gd⟩ :: rest) a w := k
theorem g_idx {t : TypeId} {x y : Operand} {dst : Option Tmp} {ty : TypeId} {pos : String} {aft : Array Edge} {gd : Option (Nat × Bool)} (k : wpList P ops Q (⟨dst, .indexAddr t x y, ty, pos, aft, gd⟩ :: rest) a w) : wpList P ops Q (⟨dst, .indexAddr t x y, ty, pos, aft, gd⟩ :: rest) a w := k
theorem g_lit {t : TypeId} {n : Nat} {ps : Array (Nat × Operand)} {dst : Option Tmp} {ty : TypeId} {pos : String} {aft : Array Edge} {gd : Option (Nat × Bool)} (k : wpList P ops Q (⟨dst, .buildSlice t n ps, ty, pos, aft, gd⟩ :: rest) a w) : wpList P ops Q (⟨dst, .buildSlice t n ps, ty, pos, aft, gd⟩ :: rest) a w := k
theorem g_slice {t : TypeId} {x : Operand} {lo hi mx : Option Operand} {dst : Option Tmp} {ty : TypeId} {pos : String} {aft : Array Edge} {gd : Option (Nat × Bool)} (k : wpList P ops Q (⟨dst, .slice t x lo hi mx, ty, pos, aft, gd⟩ :: rest) a w) : wpList P ops Q (⟨dst, .slice t x lo hi mx, ty, pos, aft, gd⟩ :: rest) a w := k
theorem g_conv {t u : TypeId} {x : Operand} {dst : Option Tmp} {ty : TypeId} {pos : String} {aft : Array Edge} {gd : Option (Nat × Bool)} (k : wpList P ops Q (⟨dst, .convert t u x, ty, pos, aft, gd⟩ :: rest) a w) : wpList P ops Q (⟨dst, .convert t u x, ty, pos, aft, gd⟩ :: rest) a w := k
theorem g_append {xs : Array Operand} {ts : Array TypeId} {dst : Option Tmp} {ty : TypeId} {pos : String} {aft : Array Edge} {gd : Option (Nat × Bool)} (k : wpList P ops Q (⟨dst, .call { callee := .builtin .append, args := xs, argTypes := ts }, ty, pos, aft, gd⟩ :: rest) a w) : wpList P ops Q (⟨dst, .call { callee := .builtin .append, args := xs, argTypes := ts }, ty, pos, aft, gd⟩ :: rest) a w := k
theorem g_copy {xs : Array Operand} {ts : Array TypeId} {dst : Option Tmp} {ty : TypeId} {pos : String} {aft : Array Edge} {gd : Option (Nat × Bool)} (k : wpList P ops Q (⟨dst, .call { callee := .builtin .copy, args := xs, argTypes := ts }, ty, pos, aft, gd⟩ :: rest) a w) : wpList P ops Q (⟨dst, .call { callee := .builtin .copy, args := xs, argTypes := ts }, ty, pos, aft, gd⟩ :: rest) a w := k
theorem g_mk {t : TypeId} {x y : Operand} {dst : Option Tmp} {ty : TypeId} {pos : String} {aft : Array Edge} {gd : Option (Nat × Bool)} (k : wpList P ops Q (⟨dst, .makeSlice t x y, ty, pos, aft, gd⟩ :: rest) a w) : wpList P ops Q (⟨dst, .makeSlice t x y, ty, pos, aft, gd⟩ :: rest) a w := k
theorem g_mkmap {t : TypeId} {x : Option Operand} {dst : Option Tmp} {ty : TypeId} {pos : String} {aft : Array Edge} {gd : Option (Nat × Bool)} (k : wpList P ops Q (⟨dst, .makeMap t x, ty, pos, aft, gd⟩ :: rest) a w) : wpList P ops Q (⟨dst, .makeMap t x, ty, pos, aft, gd⟩ :: rest) a w := k
theorem g_lookup {t : TypeId} {x y : Operand} {b : Bool} {dst : Option Tmp} {ty : TypeId} {pos : String} {aft : Array Edge} {gd : Option (Nat × Bool)} (k : wpList P ops Q (⟨dst, .lookup t x y b, ty, pos, aft, gd⟩ :: rest) a w) : wpList P ops Q (⟨dst, .lookup t x y b, ty, pos, aft, gd⟩ :: rest) a w := k
theorem g_mapup {t : TypeId} {x y z : Operand} {dst : Option Tmp} {ty : TypeId} {pos : String} {aft : Array Edge} {gd : Option (Nat × Bool)} (k : wpList P ops Q (⟨dst, .mapUpdate t x y z, ty, pos, aft, gd⟩ :: rest) a w) : wpList P ops Q (⟨dst, .mapUpdate t x y z, ty, pos, aft, gd⟩ :: rest) a w := k
theorem g_delete {xs : Array Operand} {ts : Array TypeId} {dst : Option Tmp} {ty : TypeId} {pos : String} {aft : Array Edge} {gd : Option (Nat × Bool)} (k : wpList P ops Q (⟨dst, .call { callee := .builtin .delete, args := xs, argTypes := ts }, ty, pos, aft, gd⟩ :: rest) a w) : wpList P ops Q (⟨dst, .call { callee := .builtin .delete, args := xs, argTypes := ts }, ty, pos, aft, gd⟩ :: rest) a w := k
theorem g_len {xs : Array Operand} {ts : Array TypeId} {dst : Option Tmp} {ty : TypeId} {pos : String} {aft : Array Edge} {gd : Option (Nat × Bool)} (k : wpList P ops Q (⟨dst, .call { callee := .builtin .len, args := xs, argTypes := ts }, ty, pos, aft, gd⟩ :: rest) a w) : wpList P ops Q (⟨dst, .call { callee := .builtin .len, args := xs, argTypes := ts }, ty, pos, aft, gd⟩ :: rest) a w := k
theorem g_range {t : TypeId} {x : Operand} {dst : Option Tmp} {ty : TypeId} {pos : String} {aft : Array Edge} {gd : Option (Nat × Bool)} (k : wpList P ops Q (⟨dst, .range t x, ty, pos, aft, gd⟩ :: rest) a w) : wpList P ops Q (⟨dst, .range t x, ty, pos, aft, gd⟩ :: rest) a w := k
theorem g_next {x : Operand} {b : Bool} {dst : Option Tmp} {ty : TypeId} {pos : String} {aft : Array Edge} {gd : Option (Nat × Bool)} (k : wpList P ops Q (⟨dst, .next x b, ty, pos, aft, gd⟩ :: rest) a w) : wpList P ops Q (⟨dst, .next x b, ty, pos, aft, gd⟩ :: rest) a w := k
theorem g_binop {b : BinOp} {t u : TypeId} {x y : Operand} {dst : Option Tmp} {ty : TypeId} {pos : String} {aft : Array Edge} {gd : Option (Nat × Bool)} (k : wpList P ops Q (⟨dst, .binOp b t x y u, ty, pos, aft, gd⟩ :: rest) a w) : wpList P ops Q (⟨dst, .binOp b t x y u, ty, pos, aft, gd⟩ :: rest) a w := k
theorem g_mapentry {t : TypeId} {x y : Operand} {dst : Option Tmp} {ty : TypeId} {pos : String} {aft : Array Edge} {gd : Option (Nat × Bool)} (k : wpList P ops Q (⟨dst, .mapEntry t x y, ty, pos, aft, gd⟩ :: rest) a w) : wpList P ops Q (⟨dst, .mapEntry t x y, ty, pos, aft, gd⟩ :: rest) a w := k
theorem g_entrystore {t : TypeId} {x y z : Operand} {dst : Option Tmp} {ty : TypeId} {pos : String} {aft : Array Edge} {gd : Option (Nat × Bool)} (k : wpList P ops Q (⟨dst, .entryStore t x y z, ty, pos, aft, gd⟩ :: rest) a w) : wpList P ops Q (⟨dst, .entryStore t x y z, ty, pos, aft, gd⟩ :: rest) a w := k

theorem isAgg_run {t : TypeId} {d : TypeDesc} (h : P.underlying t = some d) (w : World) : (isAgg t).run P w = .ok (aggD d) w := by
  simp only [isAgg, Sem.run_bind, run_underlying h, Result.andThen_ok]
  cases d <;> rfl
theorem sizeOf_run {t : TypeId} {z : Value} {s b : Nat} [h : TI P t z s b] (w : World) : (sizeOf t).run P w = .ok s w := by
  obtain ⟨i, hi, _, hs, _⟩ := h.pf
  simp [sizeOf, typeInfo, hi, hs]
theorem zero_run {t : TypeId} {z : Value} {s b : Nat} [h : TI P t z s b] (w : World) : (zeroValue t).run P w = .ok z w := by
  obtain ⟨i, hi, hz, _, _⟩ := h.pf
  simp [zeroValue, typeInfo, hi, hz]
theorem add0 (b off i : Nat) : (⟨b, off, none⟩ : Addr).add i = ⟨b, off + i, none⟩ := Addr.add_lit b off i

theorem load_run {t : TypeId} [u : AG P t false] {p : Addr} {v : Value} (hc : w.cell? p = some v) :
    (Instr.loadAt t (.pointer (some p))).run P w = .ok v w := by
  obtain ⟨d, hu, hd⟩ := u.pf
  simp [Instr.loadAt, Instr.sureAddr, loadVar, isAgg_run hu, hd, load, Sem.run, hc]
theorem loadAgg_run {t : TypeId} {z : Value} {s by_ : Nat} [u : AG P t true] [TI P t z s by_] {p : Addr} {cs : List Value} (hs : cs.length = s)
    (hc : ∀ j v, cs[j]? = some v → w.cell? (p.add j) = some v) : (Instr.loadAt t (.pointer (some p))).run P w = .ok (.agg cs.toArray) w := by
  have := run_loadCells_list (P := P) w p cs hc
  rw [hs] at this
  obtain ⟨d, hu, hd⟩ := u.pf
  simp [Instr.loadAt, Instr.sureAddr, loadVar, isAgg_run hu, hd, sizeOf_run (P := P) (t := t), this]

/-- load of one cell -/
theorem w_load {t : TypeId} {x : Operand} (hop : o.op = .load t x) (hw : Region.wanted o (yielded ops a.tmps) = true) {p : Addr} (hx : a.eval x = .pointer (some p))
    [AG P t false] {v : Value} (hc : w.cell? p = some v) (k : wpList P ops Q rest (a.put o.dst v) w) : wpList P ops Q (o :: rest) a w :=
  step_val hw (by unfold execOp; simp [hop, hx, load_run hc]) k
theorem w_loadAgg {t : TypeId} {x : Operand} (hop : o.op = .load t x) (hw : Region.wanted o (yielded ops a.tmps) = true) {p : Addr} (hx : a.eval x = .pointer (some p))
    {z : Value} {s by_ : Nat} [AG P t true] [TI P t z s by_] {cs : List Value} (hs : cs.length = s) (hc : ∀ j v, cs[j]? = some v → w.cell? (p.add j) = some v)
    (k : wpList P ops Q rest (a.put o.dst (.agg cs.toArray)) w) : wpList P ops Q (o :: rest) a w :=
  step_val hw (by unfold execOp; simp [hop, hx, loadAgg_run hs hc]) k

theorem St.cellAt (s : St W0 w L) {b : Nat} {cs : List Value} {T : TypeId} (h : cel b cs T ∈ L) {off : Nat} {v : Value} (hv : cs[off]? = some v) : w.cell? ⟨b, off, none⟩ = some v := by
  have := s.cel_ h
  simp [World.cell?, this, hv]
/-- load out of a block that is owned -/
theorem wl_load (hS : St W0 w L) {t : TypeId} {x : Operand} (hop : o.op = .load t x) (hw : Region.wanted o (yielded ops a.tmps) = true) {b off : Nat} (hx : a.eval x = .pointer (some ⟨b, off, none⟩))
    [AG P t false] {cs : List Value} {T : TypeId} (hm : cel b cs T ∈ L) {v : Value} (hv : cs[off]? = some v)
    (k : wpList P ops Q rest (a.put o.dst v) w) : wpList P ops Q (o :: rest) a w :=
  w_load hop hw hx (hS.cellAt hm hv) k
theorem wl_loadAgg (hS : St W0 w L) {t : TypeId} {x : Operand} (hop : o.op = .load t x) (hw : Region.wanted o (yielded ops a.tmps) = true) {b off : Nat} (hx : a.eval x = .pointer (some ⟨b, off, none⟩))
    {z : Value} {s by_ : Nat} [AG P t true] [TI P t z s by_] {cs : List Value} {T : TypeId} (hm : cel b cs T ∈ L) (hl : off + s ≤ cs.length)
    (k : wpList P ops Q rest (a.put o.dst (.agg ((cs.drop off).take s).toArray)) w) : wpList P ops Q (o :: rest) a w :=
  w_loadAgg hop hw hx (by simp; omega) (fun j v hj => by
    rw [add0]
    refine hS.cellAt hm ?_
    rw [List.getElem?_take] at hj
    split at hj
    · simpa using hj
    · cases hj) k

theorem store_run {t : TypeId} {z : Value} {by_ : Nat} [TI P t z 1 by_] {b off : Nat} {T : TypeId} {cs : Array Value} {v : Value} (h1 : v.oneCell' = true) (hb : w.heap[b]? = some (.cells cs T (0, 0))) (hlt : off < cs.size) :
    (Instr.storeAt t (.pointer (some ⟨b, off, none⟩)) v).run P w = .ok () (w.setCell ⟨b, off, none⟩ v) := by
  have hc : w.cell? ⟨b, off, none⟩ = some cs[off] := by simp [World.cell?, hb, hlt]
  have hf : w.frozen? ⟨b, off, none⟩ = false := by simp [World.frozen?, hb]
  have hcs : v.cells = #[v] := by cases v <;> first | rfl | simp [Value.oneCell'] at h1
  have hst := run_store P w ⟨b, off, none⟩ v .plain h1
  rw [hc] at hst
  simp [hf] at hst
  simp [Instr.storeAt, Instr.sureAddr, storeVar, sizeOf_run (P := P) (t := t), hcs, storeCells, add0, hst]
theorem storeAgg_run {t : TypeId} {z : Value} {s by_ : Nat} [TI P t z s by_] {b off : Nat} {T : TypeId} {cs : Array Value} {vs : List Value} (hs : vs.length = s) (h1 : ∀ v ∈ vs, v.oneCell' = true)
    (hb : w.heap[b]? = some (.cells cs T (0, 0))) (hlt : off + s ≤ cs.size) :
    (Instr.storeAt t (.pointer (some ⟨b, off, none⟩)) (.agg vs.toArray)).run P w = .ok () (w.setRow b (cs.toList.take off ++ vs ++ cs.toList.drop (off + s)).toArray) := by
  have := run_storeCells_at P b off T vs 0 cs w hb (by omega) h1
  simp only [Nat.add_zero, hs] at this
  simp [Instr.storeAt, Instr.sureAddr, storeVar, sizeOf_run (P := P) (t := t), Value.cells, hs, this]

theorem St.setCellAt {i : Nat} (s : St W0 w L) {b off : Nat} {cs : List Value} {T : TypeId} (h : L[i]? = some (cel b cs T)) (u : Value) : St W0 (w.setCell ⟨b, off, none⟩ u) (L.set i (cel b (cs.set off u) T)) :=
  St.back ((s.at_ h).setCell u) h
theorem St.setRowAt {i : Nat} (s : St W0 w L) {b : Nat} {cs cs' : List Value} {T : TypeId} (h : L[i]? = some (cel b cs T)) : St W0 (w.setRow b cs'.toArray) (L.set i (cel b cs' T)) := by
  refine St.back (A := cel b cs T) (St.set_ (s.at_ h) ⟨rfl, rfl, rfl, by simp, fun k _ hk => setRow_other w b k _ (fun e => hk (by rw [e]))⟩ ?_) h
  exact setRow_heap w b _ _ _ _ (s.cel_ (List.mem_of_getElem? h))

theorem wl_store (hS : St W0 w L) {t : TypeId} {x y : Operand} (hop : o.op = .store t x y) (hw : Region.wanted o (yielded ops a.tmps) = true) {b off : Nat} (hx : a.eval x = .pointer (some ⟨b, off, none⟩))
    {v : Value} (hy : a.eval y = v) (h1 : v.oneCell' = true) {z : Value} {by_ : Nat} [TI P t z 1 by_] {cs : List Value} {T : TypeId} {i : Nat} (hm : L[i]? = some (cel b cs T)) (hlt : off < cs.length)
    (k : ∀ w', St W0 w' (L.set i (cel b (cs.set off v) T)) → wpList P ops Q rest (a.put o.dst undef) w') : wpList P ops Q (o :: rest) a w :=
  step_skip hw (by unfold execOp; simp [hop, hx, hy, store_run h1 (hS.cel_ (List.mem_of_getElem? hm)) (by simpa using hlt)]) (k _ (hS.setCellAt hm v))
theorem wl_storeAgg (hS : St W0 w L) {t : TypeId} {x y : Operand} (hop : o.op = .store t x y) (hw : Region.wanted o (yielded ops a.tmps) = true) {b off : Nat} (hx : a.eval x = .pointer (some ⟨b, off, none⟩))
    {vs : List Value} (hy : a.eval y = .agg vs.toArray) (h1 : ∀ v ∈ vs, v.oneCell' = true) {z : Value} {s by_ : Nat} [TI P t z s by_] (hs : vs.length = s) {cs : List Value} {T : TypeId} {i : Nat} (hm : L[i]? = some (cel b cs T)) (hlt : off + s ≤ cs.length)
    (k : ∀ w', St W0 w' (L.set i (cel b (cs.take off ++ vs ++ cs.drop (off + s)) T)) → wpList P ops Q rest (a.put o.dst undef) w') : wpList P ops Q (o :: rest) a w :=
  step_skip (w' := w.setRow b (cs.take off ++ vs ++ cs.drop (off + s)).toArray) hw (by unfold execOp; simp [hop, hx, hy, storeAgg_run hs h1 (hS.cel_ (List.mem_of_getElem? hm)) (by simpa using hlt)]) (k (w.setRow b (cs.take off ++ vs ++ cs.drop (off + s)).toArray) (hS.setRowAt hm))

theorem wl_alloc (hS : St W0 w L) {t : TypeId} (hop : o.op = .alloc t) (hw : Region.wanted o (yielded ops a.tmps) = true) {z : Value} {s by_ : Nat} [TI P t z s by_]
    (k : ∀ b w', St W0 w' (cel b z.cells.toList t :: L) → wpList P ops Q rest (a.put o.dst (.pointer (some ⟨b, 0, none⟩))) w') : wpList P ops Q (o :: rest) a w :=
  step_val (w' := w.alloc (.cells z.cells t)) (v := .pointer (some ⟨w.heap.size, 0, none⟩)) hw (by unfold execOp; simp [hop, Instr.alloc, zero_run (P := P) (t := t), newVar, newRow, newObj, Sem.run]) (k _ _ (by simpa [cel] using hS.alloc (.cells z.cells t)))
theorem wl_box (hS : St W0 w L) {t : TypeId} {x : Operand} (hop : o.op = .box t x) (hw : Region.wanted o (yielded ops a.tmps) = true)
    (k : ∀ b w', St W0 w' (cel b (a.eval x).cells.toList t :: L) → wpList P ops Q rest (a.put o.dst (.pointer (some ⟨b, 0, none⟩))) w') : wpList P ops Q (o :: rest) a w :=
  step_val (w' := w.alloc (.cells (a.eval x).cells t)) (v := .pointer (some ⟨w.heap.size, 0, none⟩)) hw (by unfold execOp; simp [hop, Instr.box, newVar, newRow, newObj, Sem.run]) (k _ _ (by simpa [cel] using hS.alloc (.cells (a.eval x).cells t)))

/-! ### slices -/
theorem indexAt_run {t e : TypeId} [u : UL P t (.slice e)] {z : Value} {s by_ : Nat} [TI P e z s by_] {p : Addr} {n cap : Nat} {k : IntKind} {i : Int} (h0 : 0 ≤ i) (h1 : i < n) :
    (Instr.indexAt t (.slice (some p) n cap) (.int k i)).run P w = .ok (.pointer (some (p.add (i.toNat * s)))) w := by
  simp [Instr.indexAt, run_underlying u.pf, asIntOf, h0, h1, sizeOf_run (P := P) (t := e)]
/-- an element's address, one cell, read only -/
theorem wl_idx {α : Type} {R : Enc α} {t e : TypeId} {x ix : Operand} (hop : o.op = .indexAddr t x ix) (hw : Region.wanted o (yielded ops a.tmps) = true) {A : Option Addr} {n cap : Nat} (hx : a.eval x = .slice A n cap)
    {k : IntKind} {zi : Int} (hi : a.eval ix = .int k zi) [UL P t (.slice e)] {z : Value} {s by_ : Nat} [TI P e z s by_] {l : List α} (hr : Sl (Hp.of w) R (.slice A n cap) l) (hs : R.sz = s) (h0 : 0 ≤ zi) (h1 : zi < l.length)
    (kk : ∀ b off c el, l[zi.toNat]? = some el → R.r (Hp.of w) el c → (∀ j u, c[j]? = some u → w.cell? ⟨b, off + j, none⟩ = some u) → wpList P ops Q rest (a.put o.dst (.pointer (some ⟨b, off, none⟩))) w) : wpList P ops Q (o :: rest) a w := by
  have hlen := hr.len_
  have hlt : zi.toNat < l.length := by omega
  obtain ⟨b, off, cs, T, fr, c, hA, hb, hc, hcell⟩ := hr.at_ (List.getElem?_eq_getElem hlt)
  subst hA
  refine step_val (w' := w) (v := .pointer (some ⟨b, off + zi.toNat * s, none⟩)) hw ?_ (kk b (off + zi.toNat * s) c _ (List.getElem?_eq_getElem hlt) hc ?_)
  · unfold execOp
    simp [hop, hx, hi, indexAt_run (P := P) (t := t) (e := e) (s := s) h0 (by omega : zi < n), add0]
  · intro j u hj
    have := hcell j u hj
    rw [hs] at this
    have hb' : w.heap[b]? = some (.cells cs T fr) := hb
    simp [World.cell?, hb', this]
/-- the same, of elements of one cell -/
theorem wl_idx1 {α : Type} {f : α → Value} {hf : ∀ a, (f a).oneCell' = true} {t e : TypeId} {x ix : Operand} (hop : o.op = .indexAddr t x ix) (hw : Region.wanted o (yielded ops a.tmps) = true) {A : Option Addr} {n cap : Nat} (hx : a.eval x = .slice A n cap)
    {k : IntKind} {zi : Int} (hi : a.eval ix = .int k zi) [UL P t (.slice e)] {z : Value} {by_ : Nat} [TI P e z 1 by_] {l : List α} (hr : Sl (Hp.of w) (e1 f hf) (.slice A n cap) l) (h0 : 0 ≤ zi) (h1 : zi < l.length)
    (kk : ∀ b off el, l[zi.toNat]? = some el → w.cell? ⟨b, off, none⟩ = some (f el) → wpList P ops Q rest (a.put o.dst (.pointer (some ⟨b, off, none⟩))) w) : wpList P ops Q (o :: rest) a w :=
  wl_idx hop hw hx hi hr rfl h0 h1 fun b off c el hel hc hcell => kk b off el hel (by
    have hc : c = [f el] := hc
    subst hc
    simpa using hcell 0 (f el) rfl)
theorem wl_idxB {t e : TypeId} {x ix : Operand} (hop : o.op = .indexAddr t x ix) (hw : Region.wanted o (yielded ops a.tmps) = true) {A : Option Addr} {n cap : Nat} (hx : a.eval x = .slice A n cap)
    {k : IntKind} {zi : Int} (hi : a.eval ix = .int k zi) [UL P t (.slice e)] {z : Value} {by_ : Nat} [TI P e z 1 by_] {l : List UInt8} (hr : Sl (Hp.of w) eB (.slice A n cap) l) (h0 : 0 ≤ zi) (h1 : zi < l.length)
    (kk : ∀ b off el, l[zi.toNat]? = some el → el.toNat < 256 → w.cell? ⟨b, off, none⟩ = some (bv el) → wpList P ops Q rest (a.put o.dst (.pointer (some ⟨b, off, none⟩))) w) : wpList P ops Q (o :: rest) a w :=
  wl_idx1 hop hw hx hi hr h0 h1 fun b off el h1 h2 => kk b off el h1 el.toNat_lt h2
theorem wl_idxI {t e : TypeId} {x ix : Operand} (hop : o.op = .indexAddr t x ix) (hw : Region.wanted o (yielded ops a.tmps) = true) {A : Option Addr} {n cap : Nat} (hx : a.eval x = .slice A n cap)
    {k : IntKind} {zi : Int} (hi : a.eval ix = .int k zi) [UL P t (.slice e)] {z : Value} {by_ : Nat} [TI P e z 1 by_] {l : List Int} (hr : Sl (Hp.of w) eI (.slice A n cap) l) (h0 : 0 ≤ zi) (h1 : zi < l.length)
    (kk : ∀ b off el, l[zi.toNat]? = some el → w.cell? ⟨b, off, none⟩ = some (iv el) → wpList P ops Q rest (a.put o.dst (.pointer (some ⟨b, off, none⟩))) w) : wpList P ops Q (o :: rest) a w :=
  wl_idx1 hop hw hx hi hr h0 h1 fun b off el h1 h2 => kk b off el h1 h2
theorem wl_idxU {t e : TypeId} {x ix : Operand} (hop : o.op = .indexAddr t x ix) (hw : Region.wanted o (yielded ops a.tmps) = true) {A : Option Addr} {n cap : Nat} (hx : a.eval x = .slice A n cap)
    {k : IntKind} {zi : Int} (hi : a.eval ix = .int k zi) [UL P t (.slice e)] {z : Value} {by_ : Nat} [TI P e z 1 by_] {l : List UInt64} (hr : Sl (Hp.of w) eU (.slice A n cap) l) (h0 : 0 ≤ zi) (h1 : zi < l.length)
    (kk : ∀ b off el, l[zi.toNat]? = some el → el.toNat < 18446744073709551616 → w.cell? ⟨b, off, none⟩ = some (uv el) → wpList P ops Q rest (a.put o.dst (.pointer (some ⟨b, off, none⟩))) w) : wpList P ops Q (o :: rest) a w :=
  wl_idx1 hop hw hx hi hr h0 h1 fun b off el h1 h2 => kk b off el h1 el.toNat_lt h2
/-- an element's address in a row of the call's own -/
theorem wl_idxOwn {t e : TypeId} {x ix : Operand} (hop : o.op = .indexAddr t x ix) (hw : Region.wanted o (yielded ops a.tmps) = true) {g n cap : Nat} (hx : a.eval x = .slice (some ⟨g, 0, none⟩) n cap)
    {k : IntKind} {zi : Int} (hi : a.eval ix = .int k zi) [UL P t (.slice e)] {z : Value} {s by_ : Nat} [TI P e z s by_] (h0 : 0 ≤ zi) (h1 : zi < n)
    (kk : wpList P ops Q rest (a.put o.dst (.pointer (some ⟨g, zi.toNat * s, none⟩))) w) : wpList P ops Q (o :: rest) a w := by
  refine step_val (w' := w) hw ?_ kk
  unfold execOp
  simp [hop, hx, hi, indexAt_run (P := P) (t := t) (e := e) (s := s) h0 h1, add0]

theorem sliceBounds_run {n cap : Nat} {lo hi : Option Value} {l h : Nat} (hl : (lo = none ∧ l = 0) ∨ ∃ k, lo = some (.int k (l : Int))) (hh : (hi = none ∧ h = n) ∨ ∃ k, hi = some (.int k (h : Int))) (h1 : l ≤ h) (h2 : h ≤ cap) :
    (Instr.sliceBounds true n cap lo hi none).run P w = .ok (l, h, cap) w := by
  rcases hl with ⟨rfl, rfl⟩ | ⟨k, rfl⟩ <;> rcases hh with ⟨rfl, rfl⟩ | ⟨k', rfl⟩ <;>
    simp [Instr.sliceBounds, Instr.sliceBound, asIntOf] <;> (try split) <;> (try split) <;> (try simp_all) <;> (try omega)

end Go.Proofs.Ytbjaecofccpahaa
