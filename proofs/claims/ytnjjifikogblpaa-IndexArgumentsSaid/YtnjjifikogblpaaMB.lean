/-
  My own layer over the kit's walk, part 3: assertions over disjoint parts of memory, and one law an operation. Nothing of a program stands here.
-/
import Derived.OwnWalk
import Derived.Great.BuildSlice
import Derived.Test.YtnjjifikogblpaaMA
namespace Go.Proofs.Ytnjjifikogblpaa
open Go Go.RowKit
set_option linter.unusedVariables false
set_option linter.unusedSimpArgs false

/-! ### what is known of a type -/
class UL (P : Program) (t : TypeId) (d : outParam TypeDesc) : Prop where
  pf : P.underlying t = some d
class TI (P : Program) (t : TypeId) (z : outParam Value) (size bytes : outParam Nat) : Prop where
  pf : ∃ i, P.info? t = some i ∧ i.zero = some z ∧ i.size = size ∧ i.bytes = bytes
def aggD : TypeDesc → Bool
  | .struct _ | .array _ _ => true
  | _ => false

class AG (P : Program) (t : TypeId) (b : outParam Bool) : Prop where
  pf : ∃ d, P.underlying t = some d ∧ aggD d = b

variable {P : Program} {ops : Array Oper} {Q : Exit → Act → World → Prop} {rest : List Oper} {o : Oper} {a : Act}
variable {W0 w w' : World} {L L' : List HP}

theorem want_step (hw : Region.wanted o (yielded ops a.tmps) = true) (h : o.wp P a w (wpList P ops Q rest) Q) : wpList P ops Q (o :: rest) a w := by
  unfold wpList
  rw [if_pos hw]
  exact .inl h
theorem step_val (hw : Region.wanted o (yielded ops a.tmps) = true) {v : Value} (hr : (execOp a.eval o).run P w = .ok (.value v) w')
    (k : wpList P ops Q rest (a.put o.dst v) w') : wpList P ops Q (o :: rest) a w :=
  want_step hw (by unfold Oper.wp; rw [hr]; exact k)
theorem step_skip (hw : Region.wanted o (yielded ops a.tmps) = true) (hr : (execOp a.eval o).run P w = .ok .skip w')
    (k : wpList P ops Q rest (a.put o.dst undef) w') : wpList P ops Q (o :: rest) a w :=
  want_step hw (by unfold Oper.wp; rw [hr]; exact k)

/-- for looking: the walk stands before this operation -/
def Stop (p : Prop) : Prop := p
theorem stop_op (h : Stop (wpList P ops Q (o :: rest) a w)) : wpList P ops Q (o :: rest) a w := h
/-! guards: an arm is tried at its own operation alone -/
theorem g_load {t : TypeId} {x : Operand} {dst : Option Tmp} {ty : TypeId} {pos : String} {aft : Array Edge} {gd : Option (Nat × Bool)} (k : wpList P ops Q (⟨dst, .load t x, ty, pos, aft, gd⟩ :: rest) a w) : wpList P ops Q (⟨dst, .load t x, ty, pos, aft, gd⟩ :: rest) a w := k
theorem g_store {t : TypeId} {x y : Operand} {dst : Option Tmp} {ty : TypeId} {pos : String} {aft : Array Edge} {gd : Option (Nat × Bool)} (k : wpList P ops Q (⟨dst, .store t x y, ty, pos, aft, gd⟩ :: rest) a w) : wpList P ops Q (⟨dst, .store t x y, ty, pos, aft, gd⟩ :: rest) a w := k
theorem g_alloc {t : TypeId} {dst : Option Tmp} {ty : TypeId} {pos : String} {aft : Array Edge} {gd : Option (Nat × Bool)} (k : wpList P ops Q (⟨dst, .alloc t, ty, pos, aft, gd⟩ :: rest) a w) : wpList P ops Q (⟨dst, .alloc t, ty, pos, aft, gd⟩ :: rest) a w := k
theorem g_box {t : TypeId} {x : Operand} {dst : Option Tmp} {ty : TypeId} {pos : String} {aft : Array Edge} {gd : Option (Nat × Bool)} (k : wpList P ops Q (⟨dst, .box t x, ty, pos, aft, gd⟩ :: rest) a w) : wpList P ops Q (⟨dst, .box t x, ty, pos, aft, gd⟩ :: rest) a w := k
theorem g_idx {t : TypeId} {x y : Operand} {dst : Option Tmp} {ty : TypeId} {pos : String} {aft : Array Edge} {gd : Option (Nat × Bool)} (k : wpList P ops Q (⟨dst, .indexAddr t x y, ty, pos, aft, gd⟩ :: rest) a w) : wpList P ops Q (⟨dst, .indexAddr t x y, ty, pos, aft, gd⟩ :: rest) a w := k
theorem g_lit {t : TypeId} {n : Nat} {ps : Array (Nat × Operand)} {dst : Option Tmp} {ty : TypeId} {pos : String} {aft : Array Edge} {gd : Option (Nat × Bool)} (k : wpList P ops Q (⟨dst, .buildSlice t n ps, ty, pos, aft, gd⟩ :: rest) a w) : wpList P ops Q (⟨dst, .buildSlice t n ps, ty, pos, aft, gd⟩ :: rest) a w := k
theorem g_slice {t : TypeId} {x : Operand} {lo hi mx : Option Operand} {dst : Option Tmp} {ty : TypeId} {pos : String} {aft : Array Edge} {gd : Option (Nat × Bool)} (k : wpList P ops Q (⟨dst, .slice t x lo hi mx, ty, pos, aft, gd⟩ :: rest) a w) : wpList P ops Q (⟨dst, .slice t x lo hi mx, ty, pos, aft, gd⟩ :: rest) a w := k
theorem g_conv {t u : TypeId} {x : Operand} {dst : Option Tmp} {ty : TypeId} {pos : String} {aft : Array Edge} {gd : Option (Nat × Bool)} (k : wpList P ops Q (⟨dst, .convert t u x, ty, pos, aft, gd⟩ :: rest) a w) : wpList P ops Q (⟨dst, .convert t u x, ty, pos, aft, gd⟩ :: rest) a w := k
theorem g_append {xs : Array Operand} {ts : Array TypeId} {dst : Option Tmp} {ty : TypeId} {pos : String} {aft : Array Edge} {gd : Option (Nat × Bool)} (k : wpList P ops Q (⟨dst, .call { callee := .builtin .append, args := xs, argTypes := ts }, ty, pos, aft, gd⟩ :: rest) a w) : wpList P ops Q (⟨dst, .call { callee := .builtin .append, args := xs, argTypes := ts }, ty, pos, aft, gd⟩ :: rest) a w := k
theorem g_copy {xs : Array Operand} {ts : Array TypeId} {dst : Option Tmp} {ty : TypeId} {pos : String} {aft : Array Edge} {gd : Option (Nat × Bool)} (k : wpList P ops Q (⟨dst, .call { callee := .builtin .copy, args := xs, argTypes := ts }, ty, pos, aft, gd⟩ :: rest) a w) : wpList P ops Q (⟨dst, .call { callee := .builtin .copy, args := xs, argTypes := ts }, ty, pos, aft, gd⟩ :: rest) a w := k
theorem g_mk {t : TypeId} {x y : Operand} {dst : Option Tmp} {ty : TypeId} {pos : String} {aft : Array Edge} {gd : Option (Nat × Bool)} (k : wpList P ops Q (⟨dst, .makeSlice t x y, ty, pos, aft, gd⟩ :: rest) a w) : wpList P ops Q (⟨dst, .makeSlice t x y, ty, pos, aft, gd⟩ :: rest) a w := k
theorem g_mkmap {t : TypeId} {x : Option Operand} {dst : Option Tmp} {ty : TypeId} {pos : String} {aft : Array Edge} {gd : Option (Nat × Bool)} (k : wpList P ops Q (⟨dst, .makeMap t x, ty, pos, aft, gd⟩ :: rest) a w) : wpList P ops Q (⟨dst, .makeMap t x, ty, pos, aft, gd⟩ :: rest) a w := k
theorem g_lookup {t : TypeId} {x y : Operand} {b : Bool} {dst : Option Tmp} {ty : TypeId} {pos : String} {aft : Array Edge} {gd : Option (Nat × Bool)} (k : wpList P ops Q (⟨dst, .lookup t x y b, ty, pos, aft, gd⟩ :: rest) a w) : wpList P ops Q (⟨dst, .lookup t x y b, ty, pos, aft, gd⟩ :: rest) a w := k
theorem g_mapup {t : TypeId} {x y z : Operand} {dst : Option Tmp} {ty : TypeId} {pos : String} {aft : Array Edge} {gd : Option (Nat × Bool)} (k : wpList P ops Q (⟨dst, .mapUpdate t x y z, ty, pos, aft, gd⟩ :: rest) a w) : wpList P ops Q (⟨dst, .mapUpdate t x y z, ty, pos, aft, gd⟩ :: rest) a w := k
theorem g_delete {xs : Array Operand} {ts : Array TypeId} {dst : Option Tmp} {ty : TypeId} {pos : String} {aft : Array Edge} {gd : Option (Nat × Bool)} (k : wpList P ops Q (⟨dst, .call { callee := .builtin .delete, args := xs, argTypes := ts }, ty, pos, aft, gd⟩ :: rest) a w) : wpList P ops Q (⟨dst, .call { callee := .builtin .delete, args := xs, argTypes := ts }, ty, pos, aft, gd⟩ :: rest) a w := k
theorem g_len {xs : Array Operand} {ts : Array TypeId} {dst : Option Tmp} {ty : TypeId} {pos : String} {aft : Array Edge} {gd : Option (Nat × Bool)} (k : wpList P ops Q (⟨dst, .call { callee := .builtin .len, args := xs, argTypes := ts }, ty, pos, aft, gd⟩ :: rest) a w) : wpList P ops Q (⟨dst, .call { callee := .builtin .len, args := xs, argTypes := ts }, ty, pos, aft, gd⟩ :: rest) a w := k
theorem g_range {t : TypeId} {x : Operand} {dst : Option Tmp} {ty : TypeId} {pos : String} {aft : Array Edge} {gd : Option (Nat × Bool)} (k : wpList P ops Q (⟨dst, .range t x, ty, pos, aft, gd⟩ :: rest) a w) : wpList P ops Q (⟨dst, .range t x, ty, pos, aft, gd⟩ :: rest) a w := k
theorem g_next {x : Operand} {b : Bool} {dst : Option Tmp} {ty : TypeId} {pos : String} {aft : Array Edge} {gd : Option (Nat × Bool)} (k : wpList P ops Q (⟨dst, .next x b, ty, pos, aft, gd⟩ :: rest) a w) : wpList P ops Q (⟨dst, .next x b, ty, pos, aft, gd⟩ :: rest) a w := k
theorem g_binop {b : BinOp} {t u : TypeId} {x y : Operand} {dst : Option Tmp} {ty : TypeId} {pos : String} {aft : Array Edge} {gd : Option (Nat × Bool)} (k : wpList P ops Q (⟨dst, .binOp b t x y u, ty, pos, aft, gd⟩ :: rest) a w) : wpList P ops Q (⟨dst, .binOp b t x y u, ty, pos, aft, gd⟩ :: rest) a w := k
theorem g_mapentry {t : TypeId} {x y : Operand} {dst : Option Tmp} {ty : TypeId} {pos : String} {aft : Array Edge} {gd : Option (Nat × Bool)} (k : wpList P ops Q (⟨dst, .mapEntry t x y, ty, pos, aft, gd⟩ :: rest) a w) : wpList P ops Q (⟨dst, .mapEntry t x y, ty, pos, aft, gd⟩ :: rest) a w := k
theorem g_entrystore {t : TypeId} {x y z : Operand} {dst : Option Tmp} {ty : TypeId} {pos : String} {aft : Array Edge} {gd : Option (Nat × Bool)} (k : wpList P ops Q (⟨dst, .entryStore t x y z, ty, pos, aft, gd⟩ :: rest) a w) : wpList P ops Q (⟨dst, .entryStore t x y z, ty, pos, aft, gd⟩ :: rest) a w := k

theorem isAgg_run {t : TypeId} {d : TypeDesc} (h : P.underlying t = some d) (w : World) : (isAgg t).run P w = .ok (aggD d) w := by
  simp only [isAgg, Sem.run_bind, run_underlying h, Result.andThen_ok]
  cases d <;> rfl
theorem sizeOf_run {t : TypeId} {z : Value} {s b : Nat} [h : TI P t z s b] (w : World) : (sizeOf t).run P w = .ok s w := by
  obtain ⟨i, hi, _, hs, _⟩ := h.pf
  simp [sizeOf, typeInfo, hi, hs]
theorem zero_run {t : TypeId} {z : Value} {s b : Nat} [h : TI P t z s b] (w : World) : (zeroValue t).run P w = .ok z w := by
  obtain ⟨i, hi, hz, _, _⟩ := h.pf
  simp [zeroValue, typeInfo, hi, hz]
theorem add0 (b off i : Nat) : (⟨b, off, none⟩ : Addr).add i = ⟨b, off + i, none⟩ := Addr.add_lit b off i

theorem load_run {t : TypeId} [u : AG P t false] {p : Addr} {v : Value} (hc : w.cell? p = some v) :
    (Instr.loadAt t (.pointer (some p))).run P w = .ok v w := by
  obtain ⟨d, hu, hd⟩ := u.pf
  simp [Instr.loadAt, Instr.sureAddr, loadVar, isAgg_run hu, hd, load, Sem.run, hc]
theorem loadAgg_run {t : TypeId} {z : Value} {s by_ : Nat} [u : AG P t true] [TI P t z s by_] {p : Addr} {cs : List Value} (hs : cs.length = s)
    (hc : ∀ j v, cs[j]? = some v → w.cell? (p.add j) = some v) : (Instr.loadAt t (.pointer (some p))).run P w = .ok (.agg cs.toArray) w := by
  have := run_loadCells_list (P := P) w p cs hc
  rw [hs] at this
  obtain ⟨d, hu, hd⟩ := u.pf
  simp [Instr.loadAt, Instr.sureAddr, loadVar, isAgg_run hu, hd, sizeOf_run (P := P) (t := t), this]

/-- load of one cell -/
theorem w_load {t : TypeId} {x : Operand} (hop : o.op = .load t x) (hw : Region.wanted o (yielded ops a.tmps) = true) {p : Addr} (hx : a.eval x = .pointer (some p))
    [AG P t false] {v : Value} (hc : w.cell? p = some v) (k : wpList P ops Q rest (a.put o.dst v) w) : wpList P ops Q (o :: rest) a w :=
  step_val hw (by unfold execOp; simp [hop, hx, load_run hc]) k
theorem w_loadAgg {t : TypeId} {x : Operand} (hop : o.op = .load t x) (hw : Region.wanted o (yielded ops a.tmps) = true) {p : Addr} (hx : a.eval x = .pointer (some p))
    {z : Value} {s by_ : Nat} [AG P t true] [TI P t z s by_] {cs : List Value} (hs : cs.length = s) (hc : ∀ j v, cs[j]? = some v → w.cell? (p.add j) = some v)
    (k : wpList P ops Q rest (a.put o.dst (.agg cs.toArray)) w) : wpList P ops Q (o :: rest) a w :=
  step_val hw (by unfold execOp; simp [hop, hx, loadAgg_run hs hc]) k

theorem St.cellAt (s : St W0 w L) {b : Nat} {cs : List Value} {T : TypeId} (h : cel b cs T ∈ L) {off : Nat} {v : Value} (hv : cs[off]? = some v) : w.cell? ⟨b, off, none⟩ = some v := by
  have := s.cel_ h
  simp [World.cell?, this, hv]
/-- load out of a block that is owned -/
theorem wl_load (hS : St W0 w L) {t : TypeId} {x : Operand} (hop : o.op = .load t x) (hw : Region.wanted o (yielded ops a.tmps) = true) {b off : Nat} (hx : a.eval x = .pointer (some ⟨b, off, none⟩))
    [AG P t false] {cs : List Value} {T : TypeId} (hm : cel b cs T ∈ L) {v : Value} (hv : cs[off]? = some v)
    (k : wpList P ops Q rest (a.put o.dst v) w) : wpList P ops Q (o :: rest) a w :=
  w_load hop hw hx (hS.cellAt hm hv) k
theorem wl_loadAgg (hS : St W0 w L) {t : TypeId} {x : Operand} (hop : o.op = .load t x) (hw : Region.wanted o (yielded ops a.tmps) = true) {b off : Nat} (hx : a.eval x = .pointer (some ⟨b, off, none⟩))
    {z : Value} {s by_ : Nat} [AG P t true] [TI P t z s by_] {cs : List Value} {T : TypeId} (hm : cel b cs T ∈ L) (hl : off + s ≤ cs.length)
    (k : wpList P ops Q rest (a.put o.dst (.agg ((cs.drop off).take s).toArray)) w) : wpList P ops Q (o :: rest) a w :=
  w_loadAgg hop hw hx (by simp; omega) (fun j v hj => by
    rw [add0]
    refine hS.cellAt hm ?_
    rw [List.getElem?_take] at hj
    split at hj
    · simpa using hj
    · cases hj) k

theorem store_run {t : TypeId} {z : Value} {by_ : Nat} [TI P t z 1 by_] {b off : Nat} {T : TypeId} {cs : Array Value} {v : Value} (h1 : v.oneCell' = true) (hb : w.heap[b]? = some (.cells cs T (0, 0))) (hlt : off < cs.size) :
    (Instr.storeAt t (.pointer (some ⟨b, off, none⟩)) v).run P w = .ok () (w.setCell ⟨b, off, none⟩ v) := by
  have hc : w.cell? ⟨b, off, none⟩ = some cs[off] := by simp [World.cell?, hb, hlt]
  have hf : w.frozen? ⟨b, off, none⟩ = false := by simp [World.frozen?, hb]
  have hcs : v.cells = #[v] := by cases v <;> first | rfl | simp [Value.oneCell'] at h1
  have hst := run_store P w ⟨b, off, none⟩ v .plain h1
  rw [hc] at hst
  simp [hf] at hst
  simp [Instr.storeAt, Instr.sureAddr, storeVar, sizeOf_run (P := P) (t := t), hcs, storeCells, add0, hst]
theorem storeAgg_run {t : TypeId} {z : Value} {s by_ : Nat} [TI P t z s by_] {b off : Nat} {T : TypeId} {cs : Array Value} {vs : List Value} (hs : vs.length = s) (h1 : ∀ v ∈ vs, v.oneCell' = true)
    (hb : w.heap[b]? = some (.cells cs T (0, 0))) (hlt : off + s ≤ cs.size) :
    (Instr.storeAt t (.pointer (some ⟨b, off, none⟩)) (.agg vs.toArray)).run P w = .ok () (w.setRow b (cs.toList.take off ++ vs ++ cs.toList.drop (off + s)).toArray) := by
  have := run_storeCells_at P b off T vs 0 cs w hb (by omega) h1
  simp only [Nat.add_zero, hs] at this
  simp [Instr.storeAt, Instr.sureAddr, storeVar, sizeOf_run (P := P) (t := t), Value.cells, hs, this]

theorem St.setCellAt {i : Nat} (s : St W0 w L) {b off : Nat} {cs : List Value} {T : TypeId} (h : L[i]? = some (cel b cs T)) (u : Value) : St W0 (w.setCell ⟨b, off, none⟩ u) (L.set i (cel b (cs.set off u) T)) :=
  St.back ((s.at_ h).setCell u) h
theorem St.setRowAt {i : Nat} (s : St W0 w L) {b : Nat} {cs cs' : List Value} {T : TypeId} (h : L[i]? = some (cel b cs T)) : St W0 (w.setRow b cs'.toArray) (L.set i (cel b cs' T)) := by
  refine St.back (A := cel b cs T) (St.set_ (s.at_ h) ⟨rfl, rfl, rfl, by simp, fun k _ hk => setRow_other w b k _ (fun e => hk (by rw [e]))⟩ ?_) h
  exact setRow_heap w b _ _ _ _ (s.cel_ (List.mem_of_getElem? h))

theorem wl_store (hS : St W0 w L) {t : TypeId} {x y : Operand} (hop : o.op = .store t x y) (hw : Region.wanted o (yielded ops a.tmps) = true) {b off : Nat} (hx : a.eval x = .pointer (some ⟨b, off, none⟩))
    {v : Value} (hy : a.eval y = v) (h1 : v.oneCell' = true) {z : Value} {by_ : Nat} [TI P t z 1 by_] {cs : List Value} {T : TypeId} {i : Nat} (hm : L[i]? = some (cel b cs T)) (hlt : off < cs.length)
    (k : ∀ w', St W0 w' (L.set i (cel b (cs.set off v) T)) → wpList P ops Q rest (a.put o.dst undef) w') : wpList P ops Q (o :: rest) a w :=
  step_skip hw (by unfold execOp; simp [hop, hx, hy, store_run h1 (hS.cel_ (List.mem_of_getElem? hm)) (by simpa using hlt)]) (k _ (hS.setCellAt hm v))
theorem wl_storeAgg (hS : St W0 w L) {t : TypeId} {x y : Operand} (hop : o.op = .store t x y) (hw : Region.wanted o (yielded ops a.tmps) = true) {b off : Nat} (hx : a.eval x = .pointer (some ⟨b, off, none⟩))
    {vs : List Value} (hy : a.eval y = .agg vs.toArray) (h1 : ∀ v ∈ vs, v.oneCell' = true) {z : Value} {s by_ : Nat} [TI P t z s by_] (hs : vs.length = s) {cs : List Value} {T : TypeId} {i : Nat} (hm : L[i]? = some (cel b cs T)) (hlt : off + s ≤ cs.length)
    (k : ∀ w', St W0 w' (L.set i (cel b (cs.take off ++ vs ++ cs.drop (off + s)) T)) → wpList P ops Q rest (a.put o.dst undef) w') : wpList P ops Q (o :: rest) a w :=
  step_skip (w' := w.setRow b (cs.take off ++ vs ++ cs.drop (off + s)).toArray) hw (by unfold execOp; simp [hop, hx, hy, storeAgg_run hs h1 (hS.cel_ (List.mem_of_getElem? hm)) (by simpa using hlt)]) (k (w.setRow b (cs.take off ++ vs ++ cs.drop (off + s)).toArray) (hS.setRowAt hm))

theorem wl_alloc (hS : St W0 w L) {t : TypeId} (hop : o.op = .alloc t) (hw : Region.wanted o (yielded ops a.tmps) = true) {z : Value} {s by_ : Nat} [TI P t z s by_]
    (k : ∀ b w', St W0 w' (cel b z.cells.toList t :: L) → wpList P ops Q rest (a.put o.dst (.pointer (some ⟨b, 0, none⟩))) w') : wpList P ops Q (o :: rest) a w :=
  step_val (w' := w.alloc (.cells z.cells t)) (v := .pointer (some ⟨w.heap.size, 0, none⟩)) hw (by unfold execOp; simp [hop, Instr.alloc, zero_run (P := P) (t := t), newVar, newRow, newObj, Sem.run]) (k _ _ (by simpa [cel] using hS.alloc (.cells z.cells t)))
theorem wl_box (hS : St W0 w L) {t : TypeId} {x : Operand} (hop : o.op = .box t x) (hw : Region.wanted o (yielded ops a.tmps) = true)
    (k : ∀ b w', St W0 w' (cel b (a.eval x).cells.toList t :: L) → wpList P ops Q rest (a.put o.dst (.pointer (some ⟨b, 0, none⟩))) w') : wpList P ops Q (o :: rest) a w :=
  step_val (w' := w.alloc (.cells (a.eval x).cells t)) (v := .pointer (some ⟨w.heap.size, 0, none⟩)) hw (by unfold execOp; simp [hop, Instr.box, newVar, newRow, newObj, Sem.run]) (k _ _ (by simpa [cel] using hS.alloc (.cells (a.eval x).cells t)))

/-! ### slices -/
theorem indexAt_run {t e : TypeId} [u : UL P t (.slice e)] {z : Value} {s by_ : Nat} [TI P e z s by_] {p : Addr} {n cap : Nat} {k : IntKind} {i : Int} (h0 : 0 ≤ i) (h1 : i < n) :
    (Instr.indexAt t (.slice (some p) n cap) (.int k i)).run P w = .ok (.pointer (some (p.add (i.toNat * s)))) w := by
  simp [Instr.indexAt, run_underlying u.pf, asIntOf, h0, h1, sizeOf_run (P := P) (t := e)]
/-- an element's address, one cell, read only -/
theorem wl_idx {α : Type} {R : Enc α} {t e : TypeId} {x ix : Operand} (hop : o.op = .indexAddr t x ix) (hw : Region.wanted o (yielded ops a.tmps) = true) {A : Option Addr} {n cap : Nat} (hx : a.eval x = .slice A n cap)
    {k : IntKind} {zi : Int} (hi : a.eval ix = .int k zi) [UL P t (.slice e)] {z : Value} {s by_ : Nat} [TI P e z s by_] {l : List α} (hr : Sl (Hp.of w) R (.slice A n cap) l) (hs : R.sz = s) (h0 : 0 ≤ zi) (h1 : zi < l.length)
    (kk : ∀ b off c el, l[zi.toNat]? = some el → R.r (Hp.of w) el c → (∀ j u, c[j]? = some u → w.cell? ⟨b, off + j, none⟩ = some u) → wpList P ops Q rest (a.put o.dst (.pointer (some ⟨b, off, none⟩))) w) : wpList P ops Q (o :: rest) a w := by
  have hlen := hr.len_
  have hlt : zi.toNat < l.length := by omega
  obtain ⟨b, off, cs, T, fr, c, hA, hb, hc, hcell⟩ := hr.at_ (List.getElem?_eq_getElem hlt)
  subst hA
  refine step_val (w' := w) (v := .pointer (some ⟨b, off + zi.toNat * s, none⟩)) hw ?_ (kk b (off + zi.toNat * s) c _ (List.getElem?_eq_getElem hlt) hc ?_)
  · unfold execOp
    simp [hop, hx, hi, indexAt_run (P := P) (t := t) (e := e) (s := s) h0 (by omega : zi < n), add0]
  · intro j u hj
    have := hcell j u hj
    rw [hs] at this
    have hb' : w.heap[b]? = some (.cells cs T fr) := hb
    simp [World.cell?, hb', this]
/-- the same, of elements of one cell -/
theorem wl_idx1 {α : Type} {f : α → Value} {hf : ∀ a, (f a).oneCell' = true} {t e : TypeId} {x ix : Operand} (hop : o.op = .indexAddr t x ix) (hw : Region.wanted o (yielded ops a.tmps) = true) {A : Option Addr} {n cap : Nat} (hx : a.eval x = .slice A n cap)
    {k : IntKind} {zi : Int} (hi : a.eval ix = .int k zi) [UL P t (.slice e)] {z : Value} {by_ : Nat} [TI P e z 1 by_] {l : List α} (hr : Sl (Hp.of w) (e1 f hf) (.slice A n cap) l) (h0 : 0 ≤ zi) (h1 : zi < l.length)
    (kk : ∀ b off el, l[zi.toNat]? = some el → w.cell? ⟨b, off, none⟩ = some (f el) → wpList P ops Q rest (a.put o.dst (.pointer (some ⟨b, off, none⟩))) w) : wpList P ops Q (o :: rest) a w :=
  wl_idx hop hw hx hi hr rfl h0 h1 fun b off c el hel hc hcell => kk b off el hel (by
    have hc : c = [f el] := hc
    subst hc
    simpa using hcell 0 (f el) rfl)
theorem wl_idxB {t e : TypeId} {x ix : Operand} (hop : o.op = .indexAddr t x ix) (hw : Region.wanted o (yielded ops a.tmps) = true) {A : Option Addr} {n cap : Nat} (hx : a.eval x = .slice A n cap)
    {k : IntKind} {zi : Int} (hi : a.eval ix = .int k zi) [UL P t (.slice e)] {z : Value} {by_ : Nat} [TI P e z 1 by_] {l : List UInt8} (hr : Sl (Hp.of w) eB (.slice A n cap) l) (h0 : 0 ≤ zi) (h1 : zi < l.length)
    (kk : ∀ b off el, l[zi.toNat]? = some el → el.toNat < 256 → w.cell? ⟨b, off, none⟩ = some (bv el) → wpList P ops Q rest (a.put o.dst (.pointer (some ⟨b, off, none⟩))) w) : wpList P ops Q (o :: rest) a w :=
  wl_idx1 hop hw hx hi hr h0 h1 fun b off el h1 h2 => kk b off el h1 el.toNat_lt h2
theorem wl_idxI {t e : TypeId} {x ix : Operand} (hop : o.op = .indexAddr t x ix) (hw : Region.wanted o (yielded ops a.tmps) = true) {A : Option Addr} {n cap : Nat} (hx : a.eval x = .slice A n cap)
    {k : IntKind} {zi : Int} (hi : a.eval ix = .int k zi) [UL P t (.slice e)] {z : Value} {by_ : Nat} [TI P e z 1 by_] {l : List Int} (hr : Sl (Hp.of w) eI (.slice A n cap) l) (h0 : 0 ≤ zi) (h1 : zi < l.length)
    (kk : ∀ b off el, l[zi.toNat]? = some el → w.cell? ⟨b, off, none⟩ = some (iv el) → wpList P ops Q rest (a.put o.dst (.pointer (some ⟨b, off, none⟩))) w) : wpList P ops Q (o :: rest) a w :=
  wl_idx1 hop hw hx hi hr h0 h1 fun b off el h1 h2 => kk b off el h1 h2
theorem wl_idxU {t e : TypeId} {x ix : Operand} (hop : o.op = .indexAddr t x ix) (hw : Region.wanted o (yielded ops a.tmps) = true) {A : Option Addr} {n cap : Nat} (hx : a.eval x = .slice A n cap)
    {k : IntKind} {zi : Int} (hi : a.eval ix = .int k zi) [UL P t (.slice e)] {z : Value} {by_ : Nat} [TI P e z 1 by_] {l : List UInt64} (hr : Sl (Hp.of w) eU (.slice A n cap) l) (h0 : 0 ≤ zi) (h1 : zi < l.length)
    (kk : ∀ b off el, l[zi.toNat]? = some el → el.toNat < 18446744073709551616 → w.cell? ⟨b, off, none⟩ = some (uv el) → wpList P ops Q rest (a.put o.dst (.pointer (some ⟨b, off, none⟩))) w) : wpList P ops Q (o :: rest) a w :=
  wl_idx1 hop hw hx hi hr h0 h1 fun b off el h1 h2 => kk b off el h1 el.toNat_lt h2
/-- an element's address in a row of the call's own -/
theorem wl_idxOwn {t e : TypeId} {x ix : Operand} (hop : o.op = .indexAddr t x ix) (hw : Region.wanted o (yielded ops a.tmps) = true) {g n cap : Nat} (hx : a.eval x = .slice (some ⟨g, 0, none⟩) n cap)
    {k : IntKind} {zi : Int} (hi : a.eval ix = .int k zi) [UL P t (.slice e)] {z : Value} {s by_ : Nat} [TI P e z s by_] (h0 : 0 ≤ zi) (h1 : zi < n)
    (kk : wpList P ops Q rest (a.put o.dst (.pointer (some ⟨g, zi.toNat * s, none⟩))) w) : wpList P ops Q (o :: rest) a w := by
  refine step_val (w' := w) hw ?_ kk
  unfold execOp
  simp [hop, hx, hi, indexAt_run (P := P) (t := t) (e := e) (s := s) h0 h1, add0]

theorem sliceBounds_run {n cap : Nat} {lo hi : Option Value} {l h : Nat} (hl : (lo = none ∧ l = 0) ∨ ∃ k, lo = some (.int k (l : Int))) (hh : (hi = none ∧ h = n) ∨ ∃ k, hi = some (.int k (h : Int))) (h1 : l ≤ h) (h2 : h ≤ cap) :
    (Instr.sliceBounds true n cap lo hi none).run P w = .ok (l, h, cap) w := by
  rcases hl with ⟨rfl, rfl⟩ | ⟨k, rfl⟩ <;> rcases hh with ⟨rfl, rfl⟩ | ⟨k', rfl⟩ <;>
    simp [Instr.sliceBounds, Instr.sliceBound, asIntOf] <;> (try split) <;> (try split) <;> (try simp_all) <;> (try omega)

end Go.Proofs.Ytnjjifikogblpaa
namespace Go.Proofs.Ytnjjifikogblpaa
open Go Go.RowKit
set_option linter.unusedVariables false
set_option linter.unusedSimpArgs false
variable {P : Program} {ops : Array Oper} {Q : Exit → Act → World → Prop} {rest : List Oper} {o : Oper} {a : Act}
variable {W0 w w' : World} {L L' : List HP}

theorem at0 { A : HP} {L : List HP} : (A :: L)[0]? = some A := rfl
theorem at1 {x0 A : HP} {L : List HP} : (x0 :: A :: L)[1]? = some A := rfl
theorem at2 {x0 x1 A : HP} {L : List HP} : (x0 :: x1 :: A :: L)[2]? = some A := rfl
theorem at3 {x0 x1 x2 A : HP} {L : List HP} : (x0 :: x1 :: x2 :: A :: L)[3]? = some A := rfl
theorem at4 {x0 x1 x2 x3 A : HP} {L : List HP} : (x0 :: x1 :: x2 :: x3 :: A :: L)[4]? = some A := rfl
theorem at5 {x0 x1 x2 x3 x4 A : HP} {L : List HP} : (x0 :: x1 :: x2 :: x3 :: x4 :: A :: L)[5]? = some A := rfl
theorem at6 {x0 x1 x2 x3 x4 x5 A : HP} {L : List HP} : (x0 :: x1 :: x2 :: x3 :: x4 :: x5 :: A :: L)[6]? = some A := rfl
theorem at7 {x0 x1 x2 x3 x4 x5 x6 A : HP} {L : List HP} : (x0 :: x1 :: x2 :: x3 :: x4 :: x5 :: x6 :: A :: L)[7]? = some A := rfl
theorem at8 {x0 x1 x2 x3 x4 x5 x6 x7 A : HP} {L : List HP} : (x0 :: x1 :: x2 :: x3 :: x4 :: x5 :: x6 :: x7 :: A :: L)[8]? = some A := rfl
theorem at9 {x0 x1 x2 x3 x4 x5 x6 x7 x8 A : HP} {L : List HP} : (x0 :: x1 :: x2 :: x3 :: x4 :: x5 :: x6 :: x7 :: x8 :: A :: L)[9]? = some A := rfl
theorem at10 {x0 x1 x2 x3 x4 x5 x6 x7 x8 x9 A : HP} {L : List HP} : (x0 :: x1 :: x2 :: x3 :: x4 :: x5 :: x6 :: x7 :: x8 :: x9 :: A :: L)[10]? = some A := rfl
theorem at11 {x0 x1 x2 x3 x4 x5 x6 x7 x8 x9 x10 A : HP} {L : List HP} : (x0 :: x1 :: x2 :: x3 :: x4 :: x5 :: x6 :: x7 :: x8 :: x9 :: x10 :: A :: L)[11]? = some A := rfl
theorem at12 {x0 x1 x2 x3 x4 x5 x6 x7 x8 x9 x10 x11 A : HP} {L : List HP} : (x0 :: x1 :: x2 :: x3 :: x4 :: x5 :: x6 :: x7 :: x8 :: x9 :: x10 :: x11 :: A :: L)[12]? = some A := rfl
/-- what a source of an append is: a row that reads, owned or not -/
def Src {α : Type} (L : List HP) (R : Enc α) (y : Value) (l : List α) : Prop := rd R y l ∈ L ∨ ∃ E, own E R y l ∈ L
theorem SepL.mem {m : Hp} {A : HP} : ∀ {L : List HP} {h : Hp}, SepL m L h → A ∈ L → ∃ x : Hp, x.le h ∧ A.p m x
  | _ :: _, _, ⟨x, _, _, hx, _, hA, _⟩, .head _ => ⟨x, hx, hA⟩
  | _ :: _, _, ⟨_, _, _, _, hy, _, hL⟩, .tail _ h => by
    obtain ⟨x, hx, hA⟩ := SepL.mem hL h
    exact ⟨x, hx.trans hy, hA⟩
/-- its cells, in the hidden memory: the elements' relation by the immutable part alone -/
theorem Src.get {α : Type} {R : Enc α} {y : Value} {l : List α} (h : Src L R y l) {m hp : Hp} (s : SepL m L hp) {c : Hp} (hm : m.le c) (hh : hp.le c) :
    ∃ A cap css, y = .slice A l.length cap ∧ All2 (R.r m) l css ∧ (l = [] ∨ ∃ b off cs t fr, A = some ⟨b, off, none⟩ ∧ c b = some (.cells cs t fr) ∧ ∀ j u, css.flatten[j]? = some u → cs[off + j]? = some u) := by
  rcases h with h | ⟨E, h⟩
  · obtain ⟨x, hx, A, cap, css, hv, hc, ha, hr⟩ := s.mem h
    refine ⟨A, cap, css, hv, ha, ?_⟩
    rcases hr with hr | ⟨b, off, cs, t, fr, hA, hb, hcs⟩
    · exact .inl hr
    · exact .inr ⟨b, off, cs, t, fr, hA, hm _ _ hb, hcs⟩
  · obtain ⟨x, hx, css, ha, hr⟩ := s.mem h
    rcases hr with ⟨rfl, rfl⟩ | ⟨g, cap, cur, rfl, hg, hc, _, _, ht⟩
    · exact ⟨none, 0, css, rfl, ha, .inl rfl⟩
    · refine ⟨_, cap, css, rfl, ha, .inr ⟨g, 0, cur, E, (0, 0), rfl, (hx.trans hh) _ _ hg, fun j u hj => ?_⟩⟩
      rw [← ht, List.getElem?_take] at hj
      split at hj
      · simpa using hj
      · cases hj

theorem Src.c {α : Type} {R : Enc α} {y : Value} {l : List α} {A : HP} (h : Src L R y l) : Src (A :: L) R y l := by
  rcases h with h | ⟨E, h⟩
  · exact .inl (.tail _ h)
  · exact .inr ⟨E, .tail _ h⟩
theorem Src.sl {α : Type} {R : Enc α} {y : Value} {l : List α} (h : Src L R y l) (S : St W0 w L) : Sl (Hp.of w) R y l := by
  rcases h with h | ⟨E, h⟩
  · exact S.rd h
  · exact S.rdo h

theorem run_append_of_nil {t ty e : TypeId} {i : TypeInfo} {size : Nat} (ht : P.underlying t = some (.slice e)) (hi : P.info? e = some i) {v : Value} {n : Nat} {xs : List Value} (hown : w.ownsRow 0 e size v n xs) (c : Nat) :
    (Builtin.append_ #[t, t] ty #[v, .slice none 0 c]).run P w = .ok v w := by
  rcases hown.2 with ⟨rfl, rfl⟩ | ⟨g, cap, cur, rfl, _, _, hnc, _⟩
  · simp [Builtin.append_, run_underlying ht, sizeOf, typeInfo, hi, Builtin.lenOf, Builtin.firstCells]
  · simp [Builtin.append_, run_underlying ht, sizeOf, typeInfo, hi, Builtin.lenOf, Builtin.firstCells, hnc, storeCells]

theorem append_run {t ty e : TypeId} {z : Value} {s by_ : Nat} [u : UL P t (.slice e)] [ti : TI P e z s by_] (hzs : z.cells.size = s) (hs0 : 0 < s) {α : Type} {R : Enc α} (hR : R.sz = s)
    {v y : Value} {l l2 : List α} (S : St W0 w (own e R v l :: L)) (hy : Src L R y l2) (hb : (l.length + l2.length) * by_ ≤ 140737488355328) (h63 : l.length + l2.length ≤ maxLen) :
    ∃ v' w', (Builtin.append_ #[t, t] ty #[v, y]).run P w = .ok v' w' ∧ St W0 w' (own e R v' (l ++ l2) :: L) := by
  subst hR
  obtain ⟨i, hi, hz, hsz, hby⟩ := ti.pf
  obtain ⟨m, x, b, hA, hL, hm, hx, hbw, d, g⟩ := S.lay
  obtain ⟨css, hall, hrow, hblk⟩ := own_ownsRow hx hA
  have finish : ∀ {w' : World} {v' : Value} {css2 : List (List Value)}, All2 (R.r m) l2 css2 → w'.ownsRow 0 e R.sz v' (l.length + l2.length) (css.flatten ++ css2.flatten) → w.grownBy w' v.ownBlock →
      (v'.ownBlock = v.ownBlock ∨ v'.ownBlock = some w.heap.size) → St W0 w' (own e R v' (l ++ l2) :: L) := by
    intro w' v' css2 ha2 hown hg hbk
    refine g hg.os hg.tape hg.output hg.size (ownsRow_own (css := css ++ css2) (hall.append ha2) (by rw [List.length_append, List.flatten_append]; exact hown)) ?_ ?_ hL
    · intro k o e
      dsimp only at e
      split at e
      · exact e
      · cases e
    · intro k hk hn
      have hne : v.ownBlock ≠ some k := fun e => by
        have h1 := hblk k e
        rw [hn] at h1
        have : w.heap[k]? = some w.heap[k] := Array.getElem?_eq_getElem hk
        rw [this] at h1; cases h1
      refine ⟨hg.block k hk (fun e => hne e.symm), ?_⟩
      rw [if_neg]
      rcases hbk with hb | hb
      · rw [hb]; exact hne
      · rw [hb]; intro e; injection e with e; omega
  obtain ⟨A, c, css2, rfl, ha2, hsrc⟩ := hy.get hL hm hbw
  have hfl : css2.flatten.length = l2.length * R.sz := ha2.flen
  rcases A with _ | ad
  · have hn : l2 = [] := by
      rcases hsrc with h | ⟨b', off, cs, T, fr, hA', _⟩
      · exact h
      · cases hA'
    subst hn
    have hc2 : css2.flatten = [] := List.eq_nil_of_length_eq_zero (by simpa using hfl)
    exact ⟨v, w, run_append_of_nil u.pf hi hrow c, finish ha2 (by rw [hc2]; simpa using hrow) (World.grownBy.refl w _) (.inl rfl)⟩
  · have hcells : ∀ j u, css2.flatten[j]? = some u → w.cell? (ad.add j) = some u := by
      intro j u hj
      rcases hsrc with h | ⟨b', off, cs, T, fr, hA', hb', hcs⟩
      · subst h
        have hc2 : css2.flatten = [] := List.eq_nil_of_length_eq_zero (by simpa using hfl)
        rw [hc2] at hj; simp at hj
      · injection hA' with hA'
        subst hA'
        have hb'' : w.heap[b']? = some (.cells cs T fr) := hb'
        rw [add0]
        simp [World.cell?, hb'', hcs j u hj]
    obtain ⟨v', w', hrun, h2, h3, _, h5⟩ := run_append_own_at (P := P) w 0 t ty e i z R.sz by_ u.pf hi hz hsz hby hzs hs0 v l.length css.flatten hrow ad l2.length c css2.flatten hfl hcells ha2.ones h63 hb (Nat.zero_le _)
    exact ⟨v', w', hrun, finish ha2 h2 h3 h5⟩

theorem wl_append (hS : St W0 w L) {t : TypeId} {sx sy : Operand} (hop : o.op = .call { callee := .builtin .append, args := #[sx, sy], argTypes := #[t, t] }) (hw : Region.wanted o (yielded ops a.tmps) = true)
    {e : TypeId} {z : Value} {s by_ : Nat} [u : UL P t (.slice e)] [ti : TI P e z s by_] {α : Type} {R : Enc α} {v : Value} {l l2 : List α} {i : Nat} (hv : a.eval sx = v) (hm : L[i]? = some (own e R v l))
    {y : Value} (hy : a.eval sy = y) (hsrc : Src (L.eraseIdx i) R y l2) (hzs : z.cells.size = s) (hs0 : 0 < s) (hR : R.sz = s) (hb : (l.length + l2.length) * by_ ≤ 140737488355328)
    (k : ∀ A c w', St W0 w' (L.set i (own e R (.slice A (l.length + l2.length) c) (l ++ l2))) → wpList P ops Q rest (a.put o.dst (.slice A (l.length + l2.length) c)) w') (h63 : l.length + l2.length ≤ maxLen := by first | (unfold maxLen; omega) | (unfold maxLen; simp; omega)) : wpList P ops Q (o :: rest) a w := by
  obtain ⟨v', w', hr, hS'⟩ := append_run (P := P) (t := t) (ty := o.type) (e := e) hzs hs0 hR (hS.at_ hm) hsrc hb h63
  obtain ⟨A, c, rfl, _⟩ := (hS'.rdo (.head _)).form
  rw [List.length_append] at hr hS'
  refine step_val (v := .slice A (l.length + l2.length) c) (w' := w') hw ?_ (k A c w' (hS'.back hm))
  unfold execOp
  simp only [hop, resolve, invoke, builtin, Sem.run_bind, Sem.run_pure, Result.andThen_ok, List.map_toArray, List.map_cons, List.map_nil, hv, hy, hr]

/-- a slice literal: its cells, one cell an element -/
theorem wl_lit (hS : St W0 w L) {t : TypeId} {n : Nat} {parts : Array (Nat × Operand)} (hop : o.op = .buildSlice t n parts) (hw : Region.wanted o (yielded ops a.tmps) = true)
    {e : TypeId} {z : Value} {s by_ : Nat} [u : UL P t (.slice e)] [ti : TI P e z s by_] {cells : List Value}
    (hf : Instr.fill (fun i => some (i * s, s)) ((Array.range (n * s)).map (z.cells[· % z.cells.size]!)) (parts.map fun (i, x) => (i, a.eval x)).toList = some cells.toArray) (hsm : n * s ≤ 16777216 := by decide) (hpos : 0 < n * s := by decide)
    {α : Type} {R : Enc α} {l : List α} {css : List (List Value)} (hn : l.length = n) (hR : R.sz = s) (hel : ∀ m h, SepL m L h → All2 (R.r m) l css) (hc : cells = css.flatten) (hml : n ≤ maxLen := by decide)
    (k : ∀ A w', St W0 w' (own e R (.slice A n n) l :: L) → wpList P ops Q rest (a.put o.dst (.slice A n n)) w') : wpList P ops Q (o :: rest) a w := by
  obtain ⟨i, hi, hz, hsz, hby⟩ := ti.pf
  subst hsz; subst hc
  have hr := run_buildSlice (P := P) w t e n (parts.map fun (i, x) => (i, a.eval x)) css.flatten.toArray i z u.pf hi hz (by omega) (by omega) hf
  refine step_val (v := .slice (some ⟨w.heap.size, 0, none⟩) n n) (w' := w.alloc (.cells css.flatten.toArray e)) hw (by unfold execOp; simp [hop, hr]) (k _ _ ?_)
  have S := hS.alloc (.cells css.flatten.toArray e)
  refine S.weak fun m h hs => ?_
  obtain ⟨x, y, d, hx, hy, hA, hL⟩ := hs
  have hall := hel m y hL
  refine ⟨x, y, d, hx, hy, ⟨css, hall, .inr ⟨w.heap.size, n, css.flatten.toArray, by rw [hn], hA, by omega, hml, ?_, ?_⟩⟩, hL⟩
  · have := hall.flen
    rw [hR, hn] at this
    rw [hR]
    simpa using this
  · have := hall.flen
    rw [← this]
    exact List.take_length

theorem fold_set : ∀ (vs : List Value) (k : Nat) (cs : Array Value), k + vs.length = cs.size → (vs.zipIdx k).foldl (fun cs (x : Value × Nat) => cs.setIfInBounds (0 + x.2) x.1) cs = (cs.toList.take k ++ vs).toArray
  | [], k, cs, hk => by
    have : cs.toList.take k = cs.toList := List.take_of_length_le (by simp at hk; simp [hk])
    simp [this]
  | c :: vs, k, cs, hk => by
    simp at hk
    simp only [List.zipIdx_cons, List.foldl_cons]
    rw [fold_set vs (k + 1) _ (by simp; omega)]
    congr 1
    simp only [Nat.zero_add, Array.toList_setIfInBounds]
    have hlt : k < (cs.toList.set k c).length := by simp; omega
    rw [List.take_succ_eq_append_getElem hlt]
    have e : (cs.toList.set k c).take k = cs.toList.take k := by rw [List.take_set]; exact List.set_eq_of_length_le (by simp; omega)
    rw [e]; simp
/-- 'append(s, x)': the literal of one element, and the append, at once -/
theorem wl_push (hS : St W0 w L) {o2 : Oper} {t : TypeId} {x sx : Operand} {d : Tmp} (hop : o.op = .buildSlice t 1 #[(0, x)]) (hop2 : o2.op = .call { callee := .builtin .append, args := #[sx, .tmp d], argTypes := #[t, t] }) (hd : o.dst = some d)
    (hw : Region.wanted o (yielded ops a.tmps) = true) (hw2 : ∀ A, Region.wanted o2 (yielded ops (a.put o.dst (.slice A 1 1)).tmps) = true)
    {e : TypeId} {z : Value} {s by_ : Nat} [u : UL P t (.slice e)] [ti : TI P e z s by_] {α : Type} {R : Enc α} {v : Value} {l : List α} {i : Nat} (hv : ∀ A, (a.put o.dst (.slice A 1 1)).eval sx = v) (hdlt : d < a.tmps.size) (hm : L[i]? = some (own e R v l))
    {el : α} (hR : R.sz = s) (hzs : z.cells.size = s) (hs0 : 0 < s) (hs1 : s ≤ 16777216) (hel : ∀ m h, SepL m L h → R.r m el (a.eval x).cells.toList) (hb : (l.length + 1) * by_ ≤ 140737488355328)
    (k : ∀ A A1 c w', St W0 w' (L.set i (own e R (.slice A (l.length + 1) c) (l ++ [el]))) → wpList P ops Q rest ((a.put o.dst (.slice A1 1 1)).put o2.dst (.slice A (l.length + 1) c)) w') (h63 : l.length + 1 ≤ maxLen := by first | (unfold maxLen; omega) | (unfold maxLen; simp; omega)) : wpList P ops Q (o :: o2 :: rest) a w := by
  have hlen : (a.eval x).cells.size = s := by
    obtain ⟨h1, h2, h3, h4, m, h, hm', hw', hh, dd, hL⟩ := hS
    have := R.len (hel m h hL)
    rw [← hR, ← this]; simp
  have hcz : (z.cells).size = s := hzs
  have hfill : Instr.fill (fun i => some (i * s, s)) ((Array.range (1 * s)).map (z.cells[· % z.cells.size]!)) [(0, a.eval x)] = some (a.eval x).cells := by
    simp only [Instr.fill, hlen]
    rw [if_neg (by simp)]
    congr 1
    have key := @fold_set
    have := key (a.eval x).cells.toList 0 ((Array.range (1 * s)).map (z.cells[· % z.cells.size]!)) (by simp [hlen])
    simp at this
    refine Eq.trans ?_ this
    simp only [Nat.zero_mul, Nat.zero_add, Nat.one_mul]
    rw [← Array.foldl_toList, Array.toList_zipIdx]
  refine wl_lit (R := R) (l := [el]) (css := [(a.eval x).cells.toList]) (cells := (a.eval x).cells.toList) hS hop hw (e := e) (s := s) (by simpa using hfill) (by omega) (by omega) rfl hR (fun m h hL => ⟨hel m h hL, trivial⟩) (by simp) (by decide) ?_
  intro A w1 hS1
  have hm1 : (own e R (.slice A 1 1) [el] :: L)[i + 1]? = some (own e R v l) := by simpa using hm
  refine wl_append hS1 hop2 (hw2 A) (hv A) hm1 (y := .slice A 1 1) (l2 := [el]) ?_ (.inr ⟨e, by simp⟩) hzs hs0 hR (by simpa using hb) ?_ (by simpa using h63)
  · rw [hd]
    simp [Act.put, Act.eval, hdlt]
  · intro A2 c w2 hS2
    exact k A2 A c w2 (St.drop (by simpa using hS2))
/-- the same, its operations written out -/
theorem L_push (hS : St W0 w L) {dst2 : Option Tmp} {t : TypeId} {x sx : Operand} {d : Tmp} {ty ty2 : TypeId} {pos pos2 : String} {aft aft2 : Array Edge} {gd gd2 : Option (Nat × Bool)}
    {e : TypeId} {z : Value} {s by_ : Nat} [u : UL P t (.slice e)] [ti : TI P e z s by_] {α : Type} {R : Enc α} {v : Value} {l : List α} {i : Nat}
    (hw : Region.wanted ⟨some d, .buildSlice t 1 #[(0, x)], ty, pos, aft, gd⟩ (yielded ops a.tmps) = true)
    (hw2 : ∀ A, Region.wanted ⟨dst2, .call { callee := .builtin .append, args := #[sx, .tmp d], argTypes := #[t, t] }, ty2, pos2, aft2, gd2⟩ (yielded ops (a.put (some d) (.slice A 1 1)).tmps) = true)
    (hv : ∀ A, (a.put (some d) (.slice A 1 1)).eval sx = v) (hdlt : d < a.tmps.size) (hm : L[i]? = some (own e R v l))
    {el : α} (hR : R.sz = s) (hzs : z.cells.size = s) (hs0 : 0 < s) (hs1 : s ≤ 16777216) (hel : ∀ m h, SepL m L h → R.r m el (a.eval x).cells.toList) (hb : (l.length + 1) * by_ ≤ 140737488355328)
    (k : ∀ A A1 c w', St W0 w' (L.set i (own e R (.slice A (l.length + 1) c) (l ++ [el]))) → wpList P ops Q rest ((a.put (some d) (.slice A1 1 1)).put dst2 (.slice A (l.length + 1) c)) w') (h63 : l.length + 1 ≤ maxLen := by first | (unfold maxLen; omega) | (unfold maxLen; simp; omega)) :
    wpList P ops Q (⟨some d, .buildSlice t 1 #[(0, x)], ty, pos, aft, gd⟩ :: ⟨dst2, .call { callee := .builtin .append, args := #[sx, .tmp d], argTypes := #[t, t] }, ty2, pos2, aft2, gd2⟩ :: rest) a w :=
  wl_push hS rfl rfl rfl hw hw2 hv hdlt hm hR hzs hs0 hs1 hel hb k h63
theorem L_append (hS : St W0 w L) {dst : Option Tmp} {t : TypeId} {sx sy : Operand} {ty : TypeId} {pos : String} {aft : Array Edge} {gd : Option (Nat × Bool)}
    {e : TypeId} {z : Value} {s by_ : Nat} [u : UL P t (.slice e)] [ti : TI P e z s by_] {α : Type} {R : Enc α} {v y : Value} {l l2 : List α} {i : Nat}
    (hw : Region.wanted ⟨dst, .call { callee := .builtin .append, args := #[sx, sy], argTypes := #[t, t] }, ty, pos, aft, gd⟩ (yielded ops a.tmps) = true) (hv : a.eval sx = v) (hy : a.eval sy = y) (hm : L[i]? = some (own e R v l))
    (hsrc : Src (L.eraseIdx i) R y l2) (hzs : z.cells.size = s) (hs0 : 0 < s) (hR : R.sz = s) (hb : (l.length + l2.length) * by_ ≤ 140737488355328)
    (k : ∀ A c w', St W0 w' (L.set i (own e R (.slice A (l.length + l2.length) c) (l ++ l2))) → wpList P ops Q rest (a.put dst (.slice A (l.length + l2.length) c)) w') (h63 : l.length + l2.length ≤ maxLen := by first | (unfold maxLen; omega) | (unfold maxLen; simp; omega)) :
    wpList P ops Q (⟨dst, .call { callee := .builtin .append, args := #[sx, sy], argTypes := #[t, t] }, ty, pos, aft, gd⟩ :: rest) a w :=
  wl_append hS rfl hw hv hm hy hsrc hzs hs0 hR hb k h63
theorem wl_bytes (hS : St W0 w L) {t ts : TypeId} {x : Operand} (hop : o.op = .convert ts t x) (hw : Region.wanted o (yielded ops a.tmps) = true)
    {e : TypeId} {sv : ByteArray} (hx : a.eval x = .string sv) [us : UL P ts .string] [u : UL P t (.slice e)] [ub : UL P e (.int .u8)]
    (k : ∀ A c w', St W0 w' (rd eB (.slice A sv.size c) sv.data.toList :: L) → wpList P ops Q rest (a.put o.dst (.slice A sv.size c)) w') : wpList P ops Q (o :: rest) a w := by
  have hr := run_bytes_of_string (P := P) w ts t e sv us.pf u.pf ub.pf
  refine step_val hw (by unfold execOp; simp only [hop, hx, Sem.run_bind, hr, Result.andThen_ok]; rfl) (k (some ⟨w.heap.size, 0, none⟩) (grownCap w sv.size 0 e) (w.drew.alloc (.cells (bytesRow sv (grownCap w sv.size 0 e)) e ((bytesRow sv (grownCap w sv.size 0 e)).size, (bytesRow sv (grownCap w sv.size 0 e)).size + 1))) ?_)
  have S := hS.drew.alloc (.cells (bytesRow sv (grownCap w sv.size 0 e)) e ((bytesRow sv (grownCap w sv.size 0 e)).size, (bytesRow sv (grownCap w sv.size 0 e)).size + 1))
  refine S.freeze fun m h d hA => ?_
  refine (⟨some ⟨w.heap.size, 0, none⟩, grownCap w sv.size 0 e, sv.data.toList.map (fun b => [bv b]), ?_, ?_, ?_, .inr ⟨w.heap.size, 0, _, _, _, rfl, Hp.le_or_right d _ _ hA, ?_⟩⟩ : Sl (m.or h) eB (.slice (some ⟨w.heap.size, 0, none⟩) sv.size (grownCap w sv.size 0 e)) sv.data.toList)
  · rfl
  · exact grownCap_ge w sv.size 0 e
  · have : ∀ l : List UInt8, All2 (eB.r (m.or h)) l (l.map fun b => [bv b]) := fun l => by
      induction l with
      | nil => trivial
      | cons b l ih => exact ⟨rfl, ih⟩
    exact this _
  · intro j u hj
    have hfl : ∀ l : List UInt8, (l.map fun b => [bv b]).flatten = l.map bv := fun l => by
      induction l with
      | nil => rfl
      | cons b l ih => simp [ih]
    rw [hfl] at hj
    have hlt : j < sv.data.size := by
      have := (List.getElem?_eq_some_iff.1 hj).1
      simpa using this
    simp only [Nat.zero_add, bytesRow]
    rw [Array.getElem?_append_left (by simpa using hlt)]
    simpa using hj
theorem flat_one {α : Type} (f : α → Value) : ∀ l : List α, (l.map fun b => [f b]).flatten = l.map f
  | [] => rfl
  | b :: l => by simp [flat_one f l]
theorem all2_e1 {α : Type} {f : α → Value} {h : ∀ a, (f a).oneCell' = true} {m : Hp} : ∀ {l : List α} {css : List (List Value)}, All2 ((e1 f h).r m) l css ↔ css = l.map fun b => [f b]
  | [], [] => by simp [All2]
  | [], _ :: _ => by simp [All2]
  | _ :: _, [] => by simp [All2]
  | b :: l, c :: r => by
    have ih := all2_e1 (f := f) (h := h) (m := m) (l := l) (css := r)
    show (c = [f b] ∧ All2 _ l r) ↔ _
    rw [ih]; simp
theorem wl_string (hS : St W0 w L) {t ts : TypeId} {x : Operand} (hop : o.op = .convert ts t x) (hw : Region.wanted o (yielded ops a.tmps) = true)
    {e : TypeId} {y : Value} {l : List UInt8} (hx : a.eval x = y) [us : UL P t .string] [u : UL P ts (.slice e)] [ub : UL P e (.int .u8)] (hsrc : Src L eB y l)
    (k : wpList P ops Q rest (a.put o.dst (.string ⟨l.toArray⟩)) w) : wpList P ops Q (o :: rest) a w := by
  have hsl : Sl (Hp.of w) eB y l := by
    rcases hsrc with h | ⟨E, h⟩
    · exact hS.rd h
    · exact hS.rdo h
  obtain ⟨A, c, css, rfl, hc, ha, hr⟩ := hsl
  refine step_val (w' := w) hw ?_ k
  unfold execOp
  simp only [hop, hx, Sem.run_bind]
  rcases hr with h | ⟨b, off, cs, T, fr, hA, hb, hcs⟩
  · subst h
    have hz : (convert ts t (.slice A 0 c)).run P w = .ok (.string ⟨#[]⟩) w := by
      rcases A with _ | ad
      · rw [run_convert_bytes_string w ts t e none 0 c u.pf ub.pf us.pf]; rfl
      · exact run_convert_bytes_back (P := P) w ts t e ad c [] u.pf ub.pf us.pf (fun j hj => by simp at hj)
    simp [hz]
  · subst hA
    rw [run_convert_bytes_back (P := P) w ts t e ⟨b, off, none⟩ c l u.pf ub.pf us.pf (fun j hj => ?_)]
    · rfl
    · have ha := all2_e1.1 ha
      subst ha
      rw [flat_one] at hcs
      have := hcs j (bv l[j]) (by simp [List.getElem?_eq_getElem hj])
      have hb' : w.heap[b]? = some (.cells cs T fr) := hb
      rw [add0]
      simp [World.cell?, hb', this]
end Go.Proofs.Ytnjjifikogblpaa
