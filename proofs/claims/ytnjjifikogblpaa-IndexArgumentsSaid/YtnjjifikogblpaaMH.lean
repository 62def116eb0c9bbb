/-
  My own engine's front: one class that turns a goal into the next one; what is left to a tactic is said by small structures.
-/
import Derived.Test.YtnjjifikogblpaaMG
namespace Go.Proofs.Ytnjjifikogblpaa
open Go Go.RowKit
set_option linter.unusedVariables false
set_option linter.unusedSimpArgs false
class GoJ (J : Prop) (G : outParam Prop) : Prop where
  pf : G → J
theorem go {J G : Prop} [h : GoJ J G] (g : G) : J := h.pf g
/-! ### is an operation of a region wanted -/
class DstI (ops : List Oper) (j : Nat) (t : outParam Nat) : Prop where
  pf : (ops[j]?).bind (·.dst) = some t
instance dst0 {r : List Oper} {t : Nat} {op : Op} {ty : TypeId} {pos : String} {aft : Array Edge} {gd : Option (Nat × Bool)} : DstI (⟨some t, op, ty, pos, aft, gd⟩ :: r) 0 t := ⟨rfl⟩
instance dstS {r : List Oper} {o : Oper} {j t : Nat} [h : DstI r j t] : DstI (o :: r) (j + 1) t := ⟨by simpa using h.pf⟩
instance dst8 {r : List Oper} {a b c d e f g h : Oper} {j t : Nat} [k : DstI r j t] : DstI (a :: b :: c :: d :: e :: f :: g :: h :: r) (j + 8) t := ⟨by simpa using k.pf⟩
class BqI (p q : Bool) (r : outParam Bool) : Prop where
  pf : (p == q) = r
instance : BqI true true true := ⟨rfl⟩
instance : BqI true false false := ⟨rfl⟩
instance : BqI false true false := ⟨rfl⟩
instance : BqI false false true := ⟨rfl⟩
class Wn (ops : List Oper) (l : List Value) (gd : Option (Nat × Bool)) (b : outParam Bool) : Prop where
  pf : ∀ (d : Option Tmp) (op : Op) (ty : TypeId) (pos : String) (aft : Array Edge), Region.wanted ⟨d, op, ty, pos, aft, gd⟩ (yielded ops.toArray l.toArray) = b
instance wn0 {ops : List Oper} {l : List Value} : Wn ops l none true := ⟨fun _ _ _ _ _ => rfl⟩
instance wnB {ops : List Oper} {l : List Value} {j t : Nat} {q w b : Bool} [h : DstI ops j t] [g : GA l t (.bool q)] [k : BqI q w b] : Wn ops l (some (j, w)) b := ⟨fun _ _ _ _ _ => by
  have h1 := h.pf
  have h2 := g.pf
  have h3 := k.pf
  simp only [Region.wanted, yielded, List.getElem?_toArray]
  rw [h1]
  simp only [Option.bind_some, List.getElem?_toArray, h2]
  simpa using h3⟩
instance wnU {ops : List Oper} {l : List Value} {j t : Nat} {w : Bool} [h : DstI ops j t] [g : GA l t undef] : Wn ops l (some (j, w)) false := ⟨fun _ _ _ _ _ => by
  have h1 := h.pf
  have h2 := g.pf
  simp only [Region.wanted, yielded, List.getElem?_toArray]
  rw [h1]
  simp only [Option.bind_some, List.getElem?_toArray, h2]
  rfl⟩
/-! ### what is left to a tactic -/
structure CmpG (p T F : Prop) : Prop where
  t : p → T
  f : ¬ p → F
structure SW {ρ : Type} (φ : ρ → Prop) (K : ρ → Prop) : Prop where
  pf : ∃ r, φ r ∧ K r
structure SI {ρ : Type} (φ : ρ → Prop) (K : ρ → Prop) : Prop where
  pf : ∃ r, φ r ∧ K r
structure SE {ρ : Type} (φ : ρ → Prop) (K : ρ → Prop) : Prop where
  pf : ∃ r, φ r ∧ K r
structure SD (br : Bool) (i n : Nat) (L S : List HP) (K : Bool → Prop) : Prop where
  pf : ∃ r, (br || i == n) = r ∧ (r = true ∨ Sub L S) ∧ K r
structure SP {ρ : Type} (φ : ρ → Prop) (K : ρ → Prop) : Prop where
  pf : ∃ r, φ r ∧ K r
theorem cG {p T F : Prop} (h : CmpG p T F) : CmpG p T F := h
theorem cT {p T F : Prop} (k : T) (h : p := by omega) : CmpG p T F := ⟨fun _ => k, fun h' => absurd h h'⟩
theorem cF {p T F : Prop} (k : F) (h : ¬ p := by omega) : CmpG p T F := ⟨fun h' => absurd h' h, fun _ => k⟩
theorem cS {p T F : Prop} (k : p → T) (k' : ¬ p → F) : CmpG p T F := ⟨k, k'⟩
section
variable {ρ : Type} {φ : ρ → Prop} {K : ρ → Prop} {r : ρ}
theorem gW (h : SW φ K) : SW φ K := h
theorem gI (h : SI φ K) : SI φ K := h
theorem gE (h : SE φ K) : SE φ K := h
theorem gP (h : SP φ K) : SP φ K := h
theorem sW (k : K r) (h : φ r := by first | exact wr_i64 (by omega) (by omega) | exact wr_u64 (by omega) (by omega) | exact wr_u8 (by omega) (by omega) | exact ⟨by first | omega | decide, wq_i64 (by omega) (by omega) (by omega)⟩ | exact ⟨by first | omega | decide, wq_u64 (by omega) (by omega) (by omega)⟩ | exact ⟨by first | omega | decide, wm_nn (by omega)⟩ | exact ⟨by first | omega | decide, rfl⟩ | exact minL (by omega) | exact minR (by omega) | exact maxL (by omega) | exact maxR (by omega) | exact rfl) : SW φ K := ⟨r, h, k⟩
theorem sI (k : K r) (h : φ r := by first | exact ⟨by omega, by omega, Int.toNat_natCast _⟩ | exact ⟨by decide, by omega, rfl⟩ | exact ⟨by omega, by omega, rfl⟩) : SI φ K := ⟨r, h, k⟩
theorem sE (k : K r) (h : φ r := by first | exact At.pf | assumption | rfl | omega) : SE φ K := ⟨r, h, k⟩
theorem sP (k : K r) (h : φ r := by first | exact ⟨by (try simp only [List.length_append, List.length_cons, List.length_nil, Nat.zero_add, Nat.add_zero, Nat.reduceAdd]) <;> exact rfl, by omega, by omega⟩) : SP φ K := ⟨r, h, k⟩
end
theorem gD {br : Bool} {i n : Nat} {L S : List HP} {K : Bool → Prop} (h : SD br i n L S K) : SD br i n L S K := h
theorem sD {br : Bool} {i n : Nat} {L S : List HP} {K : Bool → Prop} {r : Bool} (k : K r) (h1 : (br || i == n) = r := by rfl) (h2 : r = true ∨ Sub L S := by first | exact .inl rfl | exact .inr Sb) : SD br i n L S K := ⟨r, h1, h2, k⟩
/-- s[lo:hi]: the bounds -/
structure SC (n : Nat) (lz hz : Int) (K : Nat → Nat → Prop) : Prop where
  pf : ∃ l' h', 0 ≤ lz ∧ lz ≤ hz ∧ hz ≤ n ∧ lz.toNat = l' ∧ hz.toNat - l' = h' ∧ K l' h'
theorem gC {n : Nat} {lz hz : Int} {K : Nat → Nat → Prop} (h : SC n lz hz K) : SC n lz hz K := h
theorem sC {n l' h' : Nat} {lz hz : Int} {K : Nat → Nat → Prop} (k : K l' h') (h0 : 0 ≤ lz := by omega) (h1 : lz ≤ hz := by omega) (h2 : hz ≤ n := by omega) (e1 : lz.toNat = l' := by first | exact Int.toNat_natCast _ | exact rfl) (e2 : hz.toNat - l' = h' := by first | (rw [Int.toNat_natCast, Nat.sub_zero]) | rw [Int.toNat_natCast] | rfl) : SC n lz hz K := ⟨l', h', h0, h1, h2, e1, e2, k⟩
class OneI (v : Value) : Prop where
  pf : v.oneCell' = true
instance {k : IntKind} {n : Int} : OneI (.int k n) := ⟨rfl⟩
instance {b : Bool} : OneI (.bool b) := ⟨rfl⟩
instance {s : ByteArray} : OneI (.string s) := ⟨rfl⟩
instance {p : Option Addr} : OneI (.pointer p) := ⟨rfl⟩
instance {p : Option Addr} {n c : Nat} : OneI (.slice p n c) := ⟨rfl⟩
instance {r : Option Nat} : OneI (.map r) := ⟨rfl⟩
instance {f : Fn} {A B : Array Value} : OneI (.func f A B) := ⟨rfl⟩
instance {A : Option Addr} {j s o : Nat} : OneI (elp A j s o) := ⟨rfl⟩
class AllOne (vs : List Value) : Prop where
  pf : (vs.all fun v => v.oneCell') = true
instance : AllOne [] := ⟨rfl⟩
instance {v : Value} {vs : List Value} [h : OneI v] [k : AllOne vs] : AllOne (v :: vs) := ⟨by have := k.pf; simp only [List.all_cons, h.pf, this, Bool.and_self]⟩
/-- one cell an element -/
class E1E {α : Type} (R : Enc α) (f : outParam (α → Value)) : Prop where
  pf : ∃ hf, R = e1 f hf
instance {α : Type} {f : α → Value} {hf : ∀ a, (f a).oneCell' = true} : E1E (e1 f hf) f := ⟨hf, rfl⟩
instance : E1E eI iv := ⟨fun _ => rfl, rfl⟩
instance : E1E eB bv := ⟨fun _ => rfl, rfl⟩
instance : E1E eU uv := ⟨fun _ => rfl, rfl⟩
/-- a bound of a slice -/
class BdI (a : Act) (x : Option Operand) (dflt : Int) (z : outParam Int) : Prop where
  pf : (x.map a.eval = none ∧ z = dflt) ∨ ∃ k, x.map a.eval = some (.int k z)
instance {a : Act} {dflt : Int} : BdI a none dflt dflt := ⟨.inl ⟨rfl, rfl⟩⟩
instance {a : Act} {x : Operand} {dflt z : Int} {k : IntKind} [h : Ev a x (.int k z)] : BdI a (some x) dflt z := ⟨.inr ⟨k, congrArg some h.pf⟩⟩
section
variable {P : Program} {W0 w : World} {L L' S : List HP} {ops : List Oper} {rest : List Oper} {o : Oper} {a a' aT aF : Act} {Q : Exit → Act → World → Prop} {lt : List Value} {ds : List Deferred}
  {d : Option Tmp} {ty : TypeId} {pos : String} {aft : Array Edge} {gd : Option (Nat × Bool)} {x y z : Operand} {v : Value} {t u : TypeId} {k k' : IntKind} {m n r : Int} {b : Nat} {op : BinOp}
instance svc_str {e : TypeId} {vv : Value} {l : List UInt8} [us : UL P t .string] [u' : UL P u (.slice e)] [ub : UL P e (.int .u8)] [h : Ev a x vv] [h2 : Sc S vv eB l] : SVc P W0 S ⟨d, .convert u t x, ty, pos, aft, gd⟩ a (.string ⟨l.toArray⟩) := ⟨sv_str h.pf (h2.pf).all⟩
/-! ### code, ends -/
instance {x y : Code} : GoJ (CL P W0 L (.seq x y) Q a) (CL P W0 L x (Exit.then (y.wp P Q) Q) a) := ⟨C_seq⟩
instance {id : Nat} {l : List Oper} : GoJ (CL P W0 L (.region id l.toArray false) Q a) (OL P W0 L l.toArray Q l a) := ⟨C_region⟩
instance {id : Nat} {c : Code} : GoJ (CL P W0 L (.block id c) Q a) (CL P W0 L c (Exit.inBlock id Q) a) := ⟨C_block⟩
instance : GoJ (CL P W0 L .skip Q a) (EL W0 L Q .normal a) := ⟨C_skip⟩
instance {id : Nat} : GoJ (CL P W0 L (.exit id) Q a) (EL W0 L Q (.exit id) a) := ⟨C_exit⟩
instance : GoJ (CL P W0 L .ret Q a) (EL W0 L Q .ret a) := ⟨C_ret⟩
instance {c : Operand} {x y : Code} [hc : Ev a c (.bool true)] : GoJ (CL P W0 L (.cond c x y) Q a) (CL P W0 L x Q a) := ⟨C_condT hc.pf⟩
instance {c : Operand} {x y : Code} [hc : Ev a c (.bool false)] : GoJ (CL P W0 L (.cond c x y) Q a) (CL P W0 L y Q a) := ⟨C_condF hc.pf⟩
instance {c : Code} : GoJ (CL P W0 L (.scope c) Q a) (CL P W0 L c (Exit.noGoto Q) a) := ⟨C_scope⟩
instance {l : Nat} : GoJ (CL P W0 L (.label l) Q a) (EL W0 L Q .normal a) := ⟨C_label⟩
instance {y : Code} {Q' : Exit → Act → World → Prop} : GoJ (EL W0 L (Exit.then (y.wp P Q) Q') .normal a) (CL P W0 L y Q a) := ⟨E_thenN⟩
instance {K : Act → World → Prop} {id : Nat} : GoJ (EL W0 L (Exit.then K Q) (.exit id) a) (EL W0 L Q (.exit id) a) := ⟨E_thenE⟩
instance {K : Act → World → Prop} : GoJ (EL W0 L (Exit.then K Q) .ret a) (EL W0 L Q .ret a) := ⟨E_thenR⟩
instance {id : Nat} : GoJ (EL W0 L (Exit.inBlock id Q) .normal a) (EL W0 L Q .normal a) := ⟨E_blkN⟩
instance {id : Nat} : GoJ (EL W0 L (Exit.inBlock id Q) .ret a) (EL W0 L Q .ret a) := ⟨E_blkR⟩
instance {id id' : Nat} [hne : NeN id' id] : GoJ (EL W0 L (Exit.inBlock id Q) (.exit id') a) (EL W0 L Q (.exit id') a) := ⟨E_blkX hne.pf⟩
instance {id : Nat} : GoJ (EL W0 L (Exit.inBlock id Q) (.exit id) a) (EL W0 L Q .normal a) := ⟨E_blkE⟩
instance : GoJ (EL W0 L (Exit.noGoto Q) .normal a) (EL W0 L Q .normal a) := ⟨E_gotoN⟩
instance : GoJ (EL W0 L (Exit.noGoto Q) .ret a) (EL W0 L Q .ret a) := ⟨E_gotoR⟩
instance {id : Nat} : GoJ (EL W0 L (Exit.noGoto Q) (.exit id) a) (EL W0 L Q (.exit id) a) := ⟨E_gotoE⟩
/-! ### operations -/
instance j_nil : GoJ (OL P W0 L ops.toArray Q [] a) (EL W0 L Q .normal a) := ⟨O_nil⟩
instance (priority := low) j_off [hw : Wn ops lt gd false] [hp : Put ⟨lt.toArray, ds⟩ d undef a'] {op : Op} : GoJ (OL P W0 L ops.toArray Q (⟨d, op, ty, pos, aft, gd⟩ :: rest) ⟨lt.toArray, ds⟩) (OL P W0 L ops.toArray Q rest a') := ⟨O_off (hw.pf _ _ _ _ _) hp.pf⟩
instance j_sv [hw : Wn ops lt gd true] {op : Op} [h : SVc P W0 L ⟨d, op, ty, pos, aft, gd⟩ ⟨lt.toArray, ds⟩ v] [hp : Put ⟨lt.toArray, ds⟩ d v a'] : GoJ (OL P W0 L ops.toArray Q (⟨d, op, ty, pos, aft, gd⟩ :: rest) ⟨lt.toArray, ds⟩) (OL P W0 L ops.toArray Q rest a') := ⟨O_sv (hw.pf _ _ _ _ _) h.pf hp.pf⟩
instance j_add [hx : Ev ⟨lt.toArray, ds⟩ x (.int k m)] [hy : Ev ⟨lt.toArray, ds⟩ y (.int k n)] {f : Int → Act} [hw : Wn ops lt gd true] [hp : ∀ r : Int, Put ⟨lt.toArray, ds⟩ d (.int k r) (f r)] : GoJ (OL P W0 L ops.toArray Q (⟨d, .binOp .add t x y u, ty, pos, aft, gd⟩ :: rest) ⟨lt.toArray, ds⟩) (SW (fun r : Int => k.wrap (m + n) = r) fun r => OL P W0 L ops.toArray Q rest (f r)) := ⟨fun s => let ⟨r, h, q⟩ := s.pf; O_sv (hw.pf _ _ _ _ _) (sv_add hx.pf hy.pf h) (hp r).pf q⟩
instance j_sub [hx : Ev ⟨lt.toArray, ds⟩ x (.int k m)] [hy : Ev ⟨lt.toArray, ds⟩ y (.int k n)] {f : Int → Act} [hw : Wn ops lt gd true] [hp : ∀ r : Int, Put ⟨lt.toArray, ds⟩ d (.int k r) (f r)] : GoJ (OL P W0 L ops.toArray Q (⟨d, .binOp .sub t x y u, ty, pos, aft, gd⟩ :: rest) ⟨lt.toArray, ds⟩) (SW (fun r : Int => k.wrap (m - n) = r) fun r => OL P W0 L ops.toArray Q rest (f r)) := ⟨fun s => let ⟨r, h, q⟩ := s.pf; O_sv (hw.pf _ _ _ _ _) (sv_sub hx.pf hy.pf h) (hp r).pf q⟩
instance j_mul [hx : Ev ⟨lt.toArray, ds⟩ x (.int k m)] [hy : Ev ⟨lt.toArray, ds⟩ y (.int k n)] {f : Int → Act} [hw : Wn ops lt gd true] [hp : ∀ r : Int, Put ⟨lt.toArray, ds⟩ d (.int k r) (f r)] : GoJ (OL P W0 L ops.toArray Q (⟨d, .binOp .mul t x y u, ty, pos, aft, gd⟩ :: rest) ⟨lt.toArray, ds⟩) (SW (fun r : Int => k.wrap (m * n) = r) fun r => OL P W0 L ops.toArray Q rest (f r)) := ⟨fun s => let ⟨r, h, q⟩ := s.pf; O_sv (hw.pf _ _ _ _ _) (sv_mul hx.pf hy.pf h) (hp r).pf q⟩
instance j_quo [hx : Ev ⟨lt.toArray, ds⟩ x (.int k m)] [hy : Ev ⟨lt.toArray, ds⟩ y (.int k n)] {f : Int → Act} [hw : Wn ops lt gd true] [hp : ∀ r : Int, Put ⟨lt.toArray, ds⟩ d (.int k r) (f r)] : GoJ (OL P W0 L ops.toArray Q (⟨d, .binOp .quo t x y u, ty, pos, aft, gd⟩ :: rest) ⟨lt.toArray, ds⟩) (SW (fun r : Int => n ≠ 0 ∧ k.wrap (m.tdiv n) = r) fun r => OL P W0 L ops.toArray Q rest (f r)) := ⟨fun s => let ⟨r, h, q⟩ := s.pf; O_sv (hw.pf _ _ _ _ _) (sv_quo hx.pf hy.pf h.1 h.2) (hp r).pf q⟩
instance j_rem [hx : Ev ⟨lt.toArray, ds⟩ x (.int k m)] [hy : Ev ⟨lt.toArray, ds⟩ y (.int k n)] {f : Int → Act} [hw : Wn ops lt gd true] [hp : ∀ r : Int, Put ⟨lt.toArray, ds⟩ d (.int k r) (f r)] : GoJ (OL P W0 L ops.toArray Q (⟨d, .binOp .rem t x y u, ty, pos, aft, gd⟩ :: rest) ⟨lt.toArray, ds⟩) (SW (fun r : Int => n ≠ 0 ∧ m.tmod n = r) fun r => OL P W0 L ops.toArray Q rest (f r)) := ⟨fun s => let ⟨r, h, q⟩ := s.pf; O_sv (hw.pf _ _ _ _ _) (sv_rem hx.pf hy.pf h.1 h.2) (hp r).pf q⟩
instance j_neg [hx : Ev ⟨lt.toArray, ds⟩ x (.int k m)] {f : Int → Act} [hw : Wn ops lt gd true] [hp : ∀ r : Int, Put ⟨lt.toArray, ds⟩ d (.int k r) (f r)] : GoJ (OL P W0 L ops.toArray Q (⟨d, .unOp .neg t x, ty, pos, aft, gd⟩ :: rest) ⟨lt.toArray, ds⟩) (SW (fun r : Int => k.wrap (-m) = r) fun r => OL P W0 L ops.toArray Q rest (f r)) := ⟨fun s => let ⟨r, h, q⟩ := s.pf; O_sv (hw.pf _ _ _ _ _) (sv_neg hx.pf h) (hp r).pf q⟩
instance j_conv {dsc : TypeDesc} [us : UL P u dsc] [ut : UL P t (.int k')] [hx : Ev ⟨lt.toArray, ds⟩ x (.int k m)] {f : Int → Act} [hw : Wn ops lt gd true] [hp : ∀ r : Int, Put ⟨lt.toArray, ds⟩ d (.int k' r) (f r)] : GoJ (OL P W0 L ops.toArray Q (⟨d, .convert u t x, ty, pos, aft, gd⟩ :: rest) ⟨lt.toArray, ds⟩) (SW (fun r : Int => k'.wrap m = r) fun r => OL P W0 L ops.toArray Q rest (f r)) := ⟨fun s => let ⟨r, h, q⟩ := s.pf; O_sv (hw.pf _ _ _ _ _) (sv_conv hx.pf h) (hp r).pf q⟩
instance j_min {ats : Array TypeId} [hx : Ev ⟨lt.toArray, ds⟩ x (.int k m)] [hy : Ev ⟨lt.toArray, ds⟩ y (.int k' n)] {f : Int → Act} [hw : Wn ops lt gd true] [hp : ∀ r : Int, Put ⟨lt.toArray, ds⟩ d (.int k r) (f r)] : GoJ (OL P W0 L ops.toArray Q (⟨d, .call ⟨.builtin .min, #[x, y], ats⟩, ty, pos, aft, gd⟩ :: rest) ⟨lt.toArray, ds⟩) (SW (fun r : Int => (if n < m then n else m) = r) fun r => OL P W0 L ops.toArray Q rest (f r)) := ⟨fun s => let ⟨r, h, q⟩ := s.pf; O_sv (hw.pf _ _ _ _ _) (sv_min hx.pf hy.pf h) (hp r).pf q⟩
instance j_max {ats : Array TypeId} [hx : Ev ⟨lt.toArray, ds⟩ x (.int k m)] [hy : Ev ⟨lt.toArray, ds⟩ y (.int k' n)] {f : Int → Act} [hw : Wn ops lt gd true] [hp : ∀ r : Int, Put ⟨lt.toArray, ds⟩ d (.int k r) (f r)] : GoJ (OL P W0 L ops.toArray Q (⟨d, .call ⟨.builtin .max, #[x, y], ats⟩, ty, pos, aft, gd⟩ :: rest) ⟨lt.toArray, ds⟩) (SW (fun r : Int => (if n > m then n else m) = r) fun r => OL P W0 L ops.toArray Q rest (f r)) := ⟨fun s => let ⟨r, h, q⟩ := s.pf; O_sv (hw.pf _ _ _ _ _) (sv_max hx.pf hy.pf h) (hp r).pf q⟩
instance j_cat {p q : ByteArray} [hx : Ev ⟨lt.toArray, ds⟩ x (.string p)] [hy : Ev ⟨lt.toArray, ds⟩ y (.string q)] {f : Unit → Act} [hw : Wn ops lt gd true] [hp : ∀ r : Unit, Put ⟨lt.toArray, ds⟩ d (.string (p ++ q)) (f r)] : GoJ (OL P W0 L ops.toArray Q (⟨d, .binOp .add t x y u, ty, pos, aft, gd⟩ :: rest) ⟨lt.toArray, ds⟩) (SE (fun r : Unit => p.size + q.size ≤ 9223372036854775807) fun r => OL P W0 L ops.toArray Q rest (f r)) := ⟨fun s => let ⟨r, h, q⟩ := s.pf; O_sv (hw.pf _ _ _ _ _) (sv_cat hx.pf hy.pf h) (hp r).pf q⟩
instance j_idx {e : TypeId} {zv : Value} {s by_ n c : Nat} {A : Option Addr} {α : Type} {R : Enc α} {l : List α} {i₀ : Int} [ut : UL P t (.slice e)] [ti : TI P e zv s by_] [hx : Ev ⟨lt.toArray, ds⟩ x (.slice A n c)] [hy : Ev ⟨lt.toArray, ds⟩ y (.int k i₀)] [hs : Sc L (.slice A n c) R l] {f : Nat → Act} [hw : Wn ops lt gd true] [hp : ∀ r : Nat, Put ⟨lt.toArray, ds⟩ d (elp A r s 0) (f r)] : GoJ (OL P W0 L ops.toArray Q (⟨d, .indexAddr t x y, ty, pos, aft, gd⟩ :: rest) ⟨lt.toArray, ds⟩) (SI (fun r : Nat => 0 ≤ i₀ ∧ i₀ < n ∧ i₀.toNat = r) fun r => OL P W0 L ops.toArray Q rest (f r)) := ⟨fun s => let ⟨r, h, q⟩ := s.pf; O_sv (hw.pf _ _ _ _ _) (sv_idx hx.pf hy.pf (hs.pf).all h.1 h.2.1 h.2.2) (hp r).pf q⟩
instance (priority := low) j_ldE {j n c : Nat} {A : Option Addr} {α : Type} {R : Enc α} {f₀ : α → Value} {l : List α} [AG P t false] [hx : Ev ⟨lt.toArray, ds⟩ x (elp A j 1 0)] [hs : ScA A L n c R l] [hq : E1E R f₀] {f : α → Act} [hw : Wn ops lt gd true] [hp : ∀ r : α, Put ⟨lt.toArray, ds⟩ d (f₀ r) (f r)] : GoJ (OL P W0 L ops.toArray Q (⟨d, .load t x, ty, pos, aft, gd⟩ :: rest) ⟨lt.toArray, ds⟩) (SE (fun r : α => l[j]? = some r) fun r => OL P W0 L ops.toArray Q rest (f r)) := ⟨fun s => let ⟨r, h, q⟩ := s.pf; O_sv (hw.pf _ _ _ _ _) (by obtain ⟨hf, rfl⟩ := hq.pf; exact sv_loadE hx.pf (hs.pf).all h) (hp r).pf q⟩
instance j_cmp {p : Prop} [hx : Ev ⟨lt.toArray, ds⟩ x (.int k m)] [hy : Ev ⟨lt.toArray, ds⟩ y (.int k n)] [hw : Wn ops lt gd true] [c : CmpP op m n p] [hpT : Put ⟨lt.toArray, ds⟩ d (.bool true) aT] [hpF : Put ⟨lt.toArray, ds⟩ d (.bool false) aF] : GoJ (OL P W0 L ops.toArray Q (⟨d, .binOp op t x y u, ty, pos, aft, gd⟩ :: rest) ⟨lt.toArray, ds⟩) (CmpG p (OL P W0 L ops.toArray Q rest aT) (OL P W0 L ops.toArray Q rest aF)) := ⟨fun g => O_split (fun h => c.tr h hx.pf hy.pf) (fun h => c.fl h hx.pf hy.pf) g.t g.f (hw.pf _ _ _ _ _) hpT.pf hpF.pf⟩
class SzC (v : Value) (s : Nat) : Prop where
  pf : v.cells.size = s
instance {v : Value} {cs : List Value} {s : Nat} [h : CellsI v cs] [k : LenI cs s] : SzC v s := ⟨by have := h.pf; have h2 := k.pf; rw [← h2, ← this]; simp⟩
instance j_alloc {zv : Value} {s by_ : Nat} {cs : List Value} [TI P t zv s by_] [hz : CellsI zv cs] {f : Nat → Act} [hw : Wn ops lt gd true] [hp : ∀ (b : Nat), Put ⟨lt.toArray, ds⟩ d (.pointer (some ⟨b, 0, none⟩)) (f b)] : GoJ (OL P W0 L ops.toArray Q (⟨d, .alloc t, ty, pos, aft, gd⟩ :: rest) ⟨lt.toArray, ds⟩) (∀ (b : Nat), OL P W0 (cel b cs t :: L) ops.toArray Q rest (f b)) := ⟨fun s => by
  refine O_dy (hw.pf _ _ _ _ _) (dy_alloc hz.pf) ?_
  rintro _ _ ⟨b, rfl, rfl⟩
  rw [(hp b).pf]
  exact s b⟩
instance j_box {cs : List Value} [hx : Ev ⟨lt.toArray, ds⟩ x v] [hz : CellsI v cs] {f : Nat → Act} [hw : Wn ops lt gd true] [hp : ∀ (b : Nat), Put ⟨lt.toArray, ds⟩ d (.pointer (some ⟨b, 0, none⟩)) (f b)] : GoJ (OL P W0 L ops.toArray Q (⟨d, .box t x, ty, pos, aft, gd⟩ :: rest) ⟨lt.toArray, ds⟩) (∀ (b : Nat), OL P W0 (cel b cs t :: L) ops.toArray Q rest (f b)) := ⟨fun s => by
  refine O_dy (hw.pf _ _ _ _ _) (dy_box hx.pf hz.pf) ?_
  rintro _ _ ⟨b, rfl, rfl⟩
  rw [(hp b).pf]
  exact s b⟩
instance j_bytes {e : TypeId} {sv : ByteArray} [hx : Ev ⟨lt.toArray, ds⟩ x (.string sv)] [us : UL P u .string] [ut : UL P t (.slice e)] [ub : UL P e (.int .u8)] {f : Option Addr → Nat → Act} [hw : Wn ops lt gd true] [hp : ∀ (A : Option Addr) (c : Nat), Put ⟨lt.toArray, ds⟩ d (.slice A sv.size c) (f A c)] : GoJ (OL P W0 L ops.toArray Q (⟨d, .convert u t x, ty, pos, aft, gd⟩ :: rest) ⟨lt.toArray, ds⟩) (∀ (A : Option Addr) (c : Nat), OL P W0 (rd eB (.slice A sv.size c) sv.data.toList :: L) ops.toArray Q rest (f A c)) := ⟨fun s => by
  refine O_dy (hw.pf _ _ _ _ _) (dy_bytes hx.pf) ?_
  rintro _ _ ⟨A, c, rfl, rfl⟩
  rw [(hp A c).pf]
  exact s A c⟩
instance j_ldS {j n c : Nat} {A₀ : Option Addr} {α : Type} {R : Enc α} {l : List (List α)} {el : List α} [AG P t false] [hx : Ev ⟨lt.toArray, ds⟩ x (elp A₀ j 1 0)] [hs : ScA A₀ L n c (eSl R) l] [hl : At l j el] {f : Option Addr → Nat → Act} [hw : Wn ops lt gd true] [hp : ∀ (A : Option Addr) (c' : Nat), Put ⟨lt.toArray, ds⟩ d (.slice A el.length c') (f A c')] : GoJ (OL P W0 L ops.toArray Q (⟨d, .load t x, ty, pos, aft, gd⟩ :: rest) ⟨lt.toArray, ds⟩) (∀ (A : Option Addr) (c' : Nat), OL P W0 (rd R (.slice A el.length c') el :: L) ops.toArray Q rest (f A c')) := ⟨fun s => by
  refine O_dy (hw.pf _ _ _ _ _) (dy_loadS hx.pf hs.pf hl.pf) ?_
  rintro _ _ ⟨A, c', rfl, rfl⟩
  rw [(hp A c').pf]
  exact s A c'⟩
instance j_store {zv : Value} {by_ : Nat} [TI P t zv 1 by_] {T : TypeId} {off ix : Nat} {cs cs' : List Value} {Lf : List HP} [hx : Ev ⟨lt.toArray, ds⟩ x (.pointer (some ⟨b, off, none⟩))] [hy : Ev ⟨lt.toArray, ds⟩ y v] [h1 : OneI v] [hm : IxC b L ix cs T] {vv : Value} [hg : GA cs off vv] [hcs : SAt cs off v cs'] [hL : SAt L ix (cel b cs' T) Lf] {f : Act} [hw : Wn ops lt gd true] [hp : Put ⟨lt.toArray, ds⟩ d (undef) (f)] : GoJ (OL P W0 L ops.toArray Q (⟨d, .store t x y, ty, pos, aft, gd⟩ :: rest) ⟨lt.toArray, ds⟩) (OL P W0 Lf ops.toArray Q rest f) := ⟨fun s => by
  refine O_dy (hw.pf _ _ _ _ _) (dy_store hx.pf hy.pf h1.pf hm.pf hg.lt hcs.pf) ?_
  rintro _ _ ⟨rfl, rfl⟩
  rw [hp.pf, hL.pf]
  exact s⟩
instance (priority := low) j_storeV {zv : Value} {by_ : Nat} [TI P t zv 1 by_] {T : TypeId} {off ix : Nat} {cs cs' : List Value} {Lf : List HP} [hx : Ev ⟨lt.toArray, ds⟩ x (.pointer (some ⟨b, off, none⟩))] [hy : Ev ⟨lt.toArray, ds⟩ y v] [hm : IxC b L ix cs T] {vv : Value} [hg : GA cs off vv] [hcs : SAt cs off v cs'] [hL : SAt L ix (cel b cs' T) Lf] {f : Unit → Act} [hw : Wn ops lt gd true] [hp : ∀ r : Unit, Put ⟨lt.toArray, ds⟩ d (undef) (f r)] : GoJ (OL P W0 L ops.toArray Q (⟨d, .store t x y, ty, pos, aft, gd⟩ :: rest) ⟨lt.toArray, ds⟩) (SE (fun r : Unit => v.oneCell' = true) fun r => OL P W0 (Lf) ops.toArray Q rest (f r)) := ⟨fun s => by
  obtain ⟨r, h, q⟩ := s.pf
  refine O_dy (hw.pf _ _ _ _ _) (dy_store hx.pf hy.pf h hm.pf hg.lt hcs.pf) ?_
  rintro _ _ ⟨rfl, rfl⟩
  rw [(hp r).pf, hL.pf]
  exact q⟩
instance j_storeG {zv : Value} {sz by_ : Nat} [TI P t zv sz by_] {T : TypeId} {off ix : Nat} {cs cs' vs : List Value} {Lf : List HP} [hx : Ev ⟨lt.toArray, ds⟩ x (.pointer (some ⟨b, off, none⟩))] [hy : Ev ⟨lt.toArray, ds⟩ y (.agg vs.toArray)] [h1 : AllOne vs] [hm : IxC b L ix cs T] [hs : LenI vs sz] [hsp : SpL cs off vs cs'] [hL : SAt L ix (cel b cs' T) Lf] {f : Act} [hw : Wn ops lt gd true] [hp : Put ⟨lt.toArray, ds⟩ d (undef) (f)] : GoJ (OL P W0 L ops.toArray Q (⟨d, .store t x y, ty, pos, aft, gd⟩ :: rest) ⟨lt.toArray, ds⟩) (OL P W0 Lf ops.toArray Q rest f) := ⟨fun s => by
  refine O_dy (hw.pf _ _ _ _ _) (dy_storeG hx.pf hy.pf h1.pf hs hm.pf hsp) ?_
  rintro _ _ ⟨rfl, rfl⟩
  rw [hp.pf, hL.pf]
  exact s⟩
instance j_append {e : TypeId} {zv v' : Value} {sz by_ ix : Nat} [ut : UL P t (.slice e)] [ti : TI P e zv sz by_] {α : Type} {R : Enc α} {l l2 : List α} {Le : List HP} [hx : Ev ⟨lt.toArray, ds⟩ x v] [hy : Ev ⟨lt.toArray, ds⟩ y v'] [hm : InO L v ix e R l] [he : EAt L ix Le] [hsrc : Sc Le v' R l2] [hR : Sz R sz] [hs0 : PosN sz] [hzc : SzC zv sz] {f : Nat → Option Addr → Nat → Act} {Lg : Nat → Option Addr → Nat → List HP} [hw : Wn ops lt gd true] [hp : ∀ r : Nat, ∀ (A : Option Addr) (c : Nat), Put ⟨lt.toArray, ds⟩ d (.slice A r c) (f r A c)] [hL : ∀ r : Nat, ∀ (A : Option Addr) (c : Nat), SAt L ix (own e R (.slice A r c) (l ++ l2)) (Lg r A c)] : GoJ (OL P W0 L ops.toArray Q (⟨d, .call ⟨.builtin .append, #[x, y], #[t, t]⟩, ty, pos, aft, gd⟩ :: rest) ⟨lt.toArray, ds⟩) (SP (fun r : Nat => l.length + l2.length = r ∧ r * by_ ≤ 140737488355328 ∧ r ≤ 9223372036854775807) fun r => ∀ (A : Option Addr) (c : Nat), OL P W0 (Lg r A c) ops.toArray Q rest (f r A c)) := ⟨fun s => by
  obtain ⟨r, h, q⟩ := s.pf
  refine O_dy (hw.pf _ _ _ _ _) (dy_append hx.pf hy.pf hm.pf he.pf hsrc.pf hzc.pf hs0.pf hR.pf h.1 h.2.1 h.2.2) ?_
  rintro _ _ ⟨A, c, rfl, rfl⟩
  rw [(hp r A c).pf, (hL r A c).pf]
  exact q A c⟩
instance j_appstr {e : TypeId} [ut : UL P t (.slice e)] [us : UL P u .string] [ti : TI P e (.int .u8 0) 1 1] {l : List UInt8} {sv : ByteArray} {ix : Nat} [hx : Ev ⟨lt.toArray, ds⟩ x v] [hy : Ev ⟨lt.toArray, ds⟩ y (.string sv)] [hm : InO L v ix e eB l] {f : Nat → Option Addr → Nat → Act} {Lg : Nat → Option Addr → Nat → List HP} [hw : Wn ops lt gd true] [hp : ∀ r : Nat, ∀ (A : Option Addr) (c : Nat), Put ⟨lt.toArray, ds⟩ d (.slice A r c) (f r A c)] [hL : ∀ r : Nat, ∀ (A : Option Addr) (c : Nat), SAt L ix (own e eB (.slice A r c) (l ++ sv.data.toList)) (Lg r A c)] : GoJ (OL P W0 L ops.toArray Q (⟨d, .call ⟨.builtin .append, #[x, y], #[t, u]⟩, ty, pos, aft, gd⟩ :: rest) ⟨lt.toArray, ds⟩) (SP (fun r : Nat => l.length + sv.size = r ∧ r ≤ 140737488355328 ∧ r ≤ 9223372036854775807) fun r => ∀ (A : Option Addr) (c : Nat), OL P W0 (Lg r A c) ops.toArray Q rest (f r A c)) := ⟨fun s => by
  obtain ⟨r, h, q⟩ := s.pf
  refine O_dy (hw.pf _ _ _ _ _) (dy_appstr hx.pf hy.pf hm.pf h.1 h.2.1) ?_
  rintro _ _ ⟨A, c, rfl, rfl⟩
  rw [(hp r A c).pf, (hL r A c).pf]
  exact q A c⟩
instance j_slice {e : TypeId} {zv : Value} {s by_ n c : Nat} {A₀ : Option Addr} {lo hi : Option Operand} {lz hz : Int} {α : Type} {R : Enc α} {l : List α} [ut : UL P t (.slice e)] [ti : TI P e zv s by_] [hx : Ev ⟨lt.toArray, ds⟩ x (.slice A₀ n c)] [hm : InR (.slice A₀ n c) L R l] [hR : Sz R s] [hl : BdI ⟨lt.toArray, ds⟩ lo 0 lz] [hh : BdI ⟨lt.toArray, ds⟩ hi n hz] {f : Nat → Option Addr → Nat → Act} [hw : Wn ops lt gd true] [hp : ∀ (h' : Nat) (A : Option Addr) (c' : Nat), Put ⟨lt.toArray, ds⟩ d (.slice A h' c') (f h' A c')] : GoJ (OL P W0 L ops.toArray Q (⟨d, .slice t x lo hi none, ty, pos, aft, gd⟩ :: rest) ⟨lt.toArray, ds⟩) (SC n lz hz fun l' h' => ∀ (A : Option Addr) (c' : Nat), OL P W0 (rd R (.slice A h' c') ((l.drop l').take h') :: L) ops.toArray Q rest (f h' A c')) := ⟨fun s => by
  obtain ⟨l', h', h0, h1, h2, e1, e2, q⟩ := s.pf
  refine O_dy (hw.pf _ _ _ _ _) (dy_rslice hx.pf hm.pf hR.pf hl.pf hh.pf h0 h1 h2 e1 e2) ?_
  rintro _ _ ⟨A, c', rfl, rfl⟩
  rw [(hp h' A c').pf]
  exact q A c'⟩
/-! ### drawn regions -/
class GO (l : List Oper) (i : Nat) (o : outParam Oper) : Prop where
  pf : l[i]? = some o
instance go0 {l : List Oper} {o : Oper} : GO (o :: l) 0 o := ⟨rfl⟩
instance goS {l : List Oper} {x o : Oper} {i : Nat} [h : GO l i o] : GO (x :: l) (i + 1) o := ⟨by simpa using h.pf⟩
section
variable {n₀ i₁ m₁ : Nat} {l₀ : List Oper} {br : Bool} {r₀ : List (Nat × Nat)}
instance j_dnil : GoJ (DL P W0 S n₀ l₀ Q br [] L a) (EL W0 L Q .normal a) := ⟨D_nil⟩
instance j_dop {G : Prop} [h : GO l₀ i₁ o] [k : GoJ (DX P W0 S n₀ l₀ Q br i₁ m₁ o r₀ L a) G] : GoJ (DL P W0 S n₀ l₀ Q br ((i₁, m₁) :: r₀) L a) G := ⟨fun g => D_op h.pf (k.pf g)⟩
instance (priority := low) jX_off {op : Op} [hw : Wn l₀ lt gd false] [hp : Put ⟨lt.toArray, ds⟩ d undef a'] : GoJ (DX P W0 S n₀ l₀ Q br i₁ (m₁ + 1) ⟨d, op, ty, pos, aft, gd⟩ r₀ L ⟨lt.toArray, ds⟩) (DL P W0 S n₀ l₀ Q br r₀ L a') := ⟨fun g => Xo g (hw.pf _ _ _ _ _) hp.pf⟩
instance jX_sv {op : Op} [hw : Wn l₀ lt gd true] [h : SVc P W0 S ⟨d, op, ty, pos, aft, gd⟩ ⟨lt.toArray, ds⟩ v] [hp : Put ⟨lt.toArray, ds⟩ d v a'] : GoJ (DX P W0 S n₀ l₀ Q br i₁ 1 ⟨d, op, ty, pos, aft, gd⟩ r₀ L ⟨lt.toArray, ds⟩) (DL P W0 S n₀ l₀ Q br r₀ L a') := ⟨fun g => X_s h.pf g (hw.pf _ _ _ _ _) hp.pf⟩
instance jX_pu {op : Op} [hw : Wn l₀ lt gd true] [h : ∀ W0, SVc P W0 [] ⟨d, op, ty, pos, aft, gd⟩ ⟨lt.toArray, ds⟩ v] [hp : Put ⟨lt.toArray, ds⟩ d v a'] : GoJ (DX P W0 S n₀ l₀ Q br i₁ (m₁ + 2) ⟨d, op, ty, pos, aft, gd⟩ r₀ L ⟨lt.toArray, ds⟩) (DL P W0 S n₀ l₀ Q br r₀ L a') := ⟨fun g => X_p (fun W0 => (h W0).pf) g (hw.pf _ _ _ _ _) hp.pf⟩
instance jX_add [hx : Ev ⟨lt.toArray, ds⟩ x (.int k m)] [hy : Ev ⟨lt.toArray, ds⟩ y (.int k n)] {f : Int → Act} [hw : Wn l₀ lt gd true] [hp : ∀ r : Int, Put ⟨lt.toArray, ds⟩ d (.int k r) (f r)] : GoJ (DX P W0 S n₀ l₀ Q br i₁ (m₁ + 1) ⟨d, .binOp .add t x y u, ty, pos, aft, gd⟩ r₀ L ⟨lt.toArray, ds⟩) (SW (fun r : Int => k.wrap (m + n) = r) fun r => DL P W0 S n₀ l₀ Q br r₀ L (f r)) := ⟨fun s => let ⟨r, h, q⟩ := s.pf; X_w (fun _ _ => sv_add hx.pf hy.pf h) q (hw.pf _ _ _ _ _) (hp r).pf⟩
instance jX_sub [hx : Ev ⟨lt.toArray, ds⟩ x (.int k m)] [hy : Ev ⟨lt.toArray, ds⟩ y (.int k n)] {f : Int → Act} [hw : Wn l₀ lt gd true] [hp : ∀ r : Int, Put ⟨lt.toArray, ds⟩ d (.int k r) (f r)] : GoJ (DX P W0 S n₀ l₀ Q br i₁ (m₁ + 1) ⟨d, .binOp .sub t x y u, ty, pos, aft, gd⟩ r₀ L ⟨lt.toArray, ds⟩) (SW (fun r : Int => k.wrap (m - n) = r) fun r => DL P W0 S n₀ l₀ Q br r₀ L (f r)) := ⟨fun s => let ⟨r, h, q⟩ := s.pf; X_w (fun _ _ => sv_sub hx.pf hy.pf h) q (hw.pf _ _ _ _ _) (hp r).pf⟩
instance jX_mul [hx : Ev ⟨lt.toArray, ds⟩ x (.int k m)] [hy : Ev ⟨lt.toArray, ds⟩ y (.int k n)] {f : Int → Act} [hw : Wn l₀ lt gd true] [hp : ∀ r : Int, Put ⟨lt.toArray, ds⟩ d (.int k r) (f r)] : GoJ (DX P W0 S n₀ l₀ Q br i₁ (m₁ + 1) ⟨d, .binOp .mul t x y u, ty, pos, aft, gd⟩ r₀ L ⟨lt.toArray, ds⟩) (SW (fun r : Int => k.wrap (m * n) = r) fun r => DL P W0 S n₀ l₀ Q br r₀ L (f r)) := ⟨fun s => let ⟨r, h, q⟩ := s.pf; X_w (fun _ _ => sv_mul hx.pf hy.pf h) q (hw.pf _ _ _ _ _) (hp r).pf⟩
instance jX_quo [hx : Ev ⟨lt.toArray, ds⟩ x (.int k m)] [hy : Ev ⟨lt.toArray, ds⟩ y (.int k n)] {f : Int → Act} [hw : Wn l₀ lt gd true] [hp : ∀ r : Int, Put ⟨lt.toArray, ds⟩ d (.int k r) (f r)] : GoJ (DX P W0 S n₀ l₀ Q br i₁ (m₁ + 1) ⟨d, .binOp .quo t x y u, ty, pos, aft, gd⟩ r₀ L ⟨lt.toArray, ds⟩) (SW (fun r : Int => n ≠ 0 ∧ k.wrap (m.tdiv n) = r) fun r => DL P W0 S n₀ l₀ Q br r₀ L (f r)) := ⟨fun s => let ⟨r, h, q⟩ := s.pf; X_w (fun _ _ => sv_quo hx.pf hy.pf h.1 h.2) q (hw.pf _ _ _ _ _) (hp r).pf⟩
instance jX_rem [hx : Ev ⟨lt.toArray, ds⟩ x (.int k m)] [hy : Ev ⟨lt.toArray, ds⟩ y (.int k n)] {f : Int → Act} [hw : Wn l₀ lt gd true] [hp : ∀ r : Int, Put ⟨lt.toArray, ds⟩ d (.int k r) (f r)] : GoJ (DX P W0 S n₀ l₀ Q br i₁ (m₁ + 1) ⟨d, .binOp .rem t x y u, ty, pos, aft, gd⟩ r₀ L ⟨lt.toArray, ds⟩) (SW (fun r : Int => n ≠ 0 ∧ m.tmod n = r) fun r => DL P W0 S n₀ l₀ Q br r₀ L (f r)) := ⟨fun s => let ⟨r, h, q⟩ := s.pf; X_w (fun _ _ => sv_rem hx.pf hy.pf h.1 h.2) q (hw.pf _ _ _ _ _) (hp r).pf⟩
instance jX_neg [hx : Ev ⟨lt.toArray, ds⟩ x (.int k m)] {f : Int → Act} [hw : Wn l₀ lt gd true] [hp : ∀ r : Int, Put ⟨lt.toArray, ds⟩ d (.int k r) (f r)] : GoJ (DX P W0 S n₀ l₀ Q br i₁ (m₁ + 1) ⟨d, .unOp .neg t x, ty, pos, aft, gd⟩ r₀ L ⟨lt.toArray, ds⟩) (SW (fun r : Int => k.wrap (-m) = r) fun r => DL P W0 S n₀ l₀ Q br r₀ L (f r)) := ⟨fun s => let ⟨r, h, q⟩ := s.pf; X_w (fun _ _ => sv_neg hx.pf h) q (hw.pf _ _ _ _ _) (hp r).pf⟩
instance jX_conv {dsc : TypeDesc} [us : UL P u dsc] [ut : UL P t (.int k')] [hx : Ev ⟨lt.toArray, ds⟩ x (.int k m)] {f : Int → Act} [hw : Wn l₀ lt gd true] [hp : ∀ r : Int, Put ⟨lt.toArray, ds⟩ d (.int k' r) (f r)] : GoJ (DX P W0 S n₀ l₀ Q br i₁ (m₁ + 1) ⟨d, .convert u t x, ty, pos, aft, gd⟩ r₀ L ⟨lt.toArray, ds⟩) (SW (fun r : Int => k'.wrap m = r) fun r => DL P W0 S n₀ l₀ Q br r₀ L (f r)) := ⟨fun s => let ⟨r, h, q⟩ := s.pf; X_w (fun _ _ => sv_conv hx.pf h) q (hw.pf _ _ _ _ _) (hp r).pf⟩
instance jX_min {ats : Array TypeId} [hx : Ev ⟨lt.toArray, ds⟩ x (.int k m)] [hy : Ev ⟨lt.toArray, ds⟩ y (.int k' n)] {f : Int → Act} [hw : Wn l₀ lt gd true] [hp : ∀ r : Int, Put ⟨lt.toArray, ds⟩ d (.int k r) (f r)] : GoJ (DX P W0 S n₀ l₀ Q br i₁ (m₁ + 1) ⟨d, .call ⟨.builtin .min, #[x, y], ats⟩, ty, pos, aft, gd⟩ r₀ L ⟨lt.toArray, ds⟩) (SW (fun r : Int => (if n < m then n else m) = r) fun r => DL P W0 S n₀ l₀ Q br r₀ L (f r)) := ⟨fun s => let ⟨r, h, q⟩ := s.pf; X_w (fun _ _ => sv_min hx.pf hy.pf h) q (hw.pf _ _ _ _ _) (hp r).pf⟩
instance jX_max {ats : Array TypeId} [hx : Ev ⟨lt.toArray, ds⟩ x (.int k m)] [hy : Ev ⟨lt.toArray, ds⟩ y (.int k' n)] {f : Int → Act} [hw : Wn l₀ lt gd true] [hp : ∀ r : Int, Put ⟨lt.toArray, ds⟩ d (.int k r) (f r)] : GoJ (DX P W0 S n₀ l₀ Q br i₁ (m₁ + 1) ⟨d, .call ⟨.builtin .max, #[x, y], ats⟩, ty, pos, aft, gd⟩ r₀ L ⟨lt.toArray, ds⟩) (SW (fun r : Int => (if n > m then n else m) = r) fun r => DL P W0 S n₀ l₀ Q br r₀ L (f r)) := ⟨fun s => let ⟨r, h, q⟩ := s.pf; X_w (fun _ _ => sv_max hx.pf hy.pf h) q (hw.pf _ _ _ _ _) (hp r).pf⟩
instance jX_cat {p q : ByteArray} [hx : Ev ⟨lt.toArray, ds⟩ x (.string p)] [hy : Ev ⟨lt.toArray, ds⟩ y (.string q)] {f : Unit → Act} [hw : Wn l₀ lt gd true] [hp : ∀ r : Unit, Put ⟨lt.toArray, ds⟩ d (.string (p ++ q)) (f r)] : GoJ (DX P W0 S n₀ l₀ Q br i₁ (m₁ + 1) ⟨d, .binOp .add t x y u, ty, pos, aft, gd⟩ r₀ L ⟨lt.toArray, ds⟩) (SE (fun r : Unit => p.size + q.size ≤ 9223372036854775807) fun r => DL P W0 S n₀ l₀ Q br r₀ L (f r)) := ⟨fun s => let ⟨r, h, q⟩ := s.pf; X_w (fun _ _ => sv_cat hx.pf hy.pf h) q (hw.pf _ _ _ _ _) (hp r).pf⟩
instance jX_idx {e : TypeId} {zv : Value} {s by_ n c : Nat} {A : Option Addr} {α : Type} {R : Enc α} {l : List α} {i₀ : Int} [ut : UL P t (.slice e)] [ti : TI P e zv s by_] [hx : Ev ⟨lt.toArray, ds⟩ x (.slice A n c)] [hy : Ev ⟨lt.toArray, ds⟩ y (.int k i₀)] [hs : Sc S (.slice A n c) R l] {f : Nat → Act} [hw : Wn l₀ lt gd true] [hp : ∀ r : Nat, Put ⟨lt.toArray, ds⟩ d (elp A r s 0) (f r)] : GoJ (DX P W0 S n₀ l₀ Q br i₁ 1 ⟨d, .indexAddr t x y, ty, pos, aft, gd⟩ r₀ L ⟨lt.toArray, ds⟩) (SI (fun r : Nat => 0 ≤ i₀ ∧ i₀ < n ∧ i₀.toNat = r) fun r => DL P W0 S n₀ l₀ Q br r₀ L (f r)) := ⟨fun s => let ⟨r, h, q⟩ := s.pf; X_s (sv_idx hx.pf hy.pf (hs.pf).all h.1 h.2.1 h.2.2) q (hw.pf _ _ _ _ _) (hp r).pf⟩
instance (priority := low) jX_ldE {j n c : Nat} {A : Option Addr} {α : Type} {R : Enc α} {f₀ : α → Value} {l : List α} [AG P t false] [hx : Ev ⟨lt.toArray, ds⟩ x (elp A j 1 0)] [hs : ScA A S n c R l] [hq : E1E R f₀] {f : α → Act} [hw : Wn l₀ lt gd true] [hp : ∀ r : α, Put ⟨lt.toArray, ds⟩ d (f₀ r) (f r)] : GoJ (DX P W0 S n₀ l₀ Q br i₁ 1 ⟨d, .load t x, ty, pos, aft, gd⟩ r₀ L ⟨lt.toArray, ds⟩) (SE (fun r : α => l[j]? = some r) fun r => DL P W0 S n₀ l₀ Q br r₀ L (f r)) := ⟨fun s => let ⟨r, h, q⟩ := s.pf; X_s (by obtain ⟨hf, rfl⟩ := hq.pf; exact sv_loadE hx.pf (hs.pf).all h) q (hw.pf _ _ _ _ _) (hp r).pf⟩
instance jX_cmp {p : Prop} [hx : Ev ⟨lt.toArray, ds⟩ x (.int k m)] [hy : Ev ⟨lt.toArray, ds⟩ y (.int k n)] [hw : Wn l₀ lt gd true] [c : CmpP op m n p] [hpT : Put ⟨lt.toArray, ds⟩ d (.bool true) aT] [hpF : Put ⟨lt.toArray, ds⟩ d (.bool false) aF] : GoJ (DX P W0 S n₀ l₀ Q br i₁ (m₁ + 1) ⟨d, .binOp op t x y u, ty, pos, aft, gd⟩ r₀ L ⟨lt.toArray, ds⟩) (CmpG p (DL P W0 S n₀ l₀ Q br r₀ L aT) (DL P W0 S n₀ l₀ Q br r₀ L aF)) := ⟨fun g => by
  by_cases h : p
  · exact X_w (fun _ _ => c.tr h hx.pf hy.pf) (g.t h) (hw.pf _ _ _ _ _) hpT.pf
  · exact X_w (fun _ _ => c.fl h hx.pf hy.pf) (g.f h) (hw.pf _ _ _ _ _) hpF.pf⟩
instance jX_alloc {zv : Value} {s by_ : Nat} {cs : List Value} [TI P t zv s by_] [hz : CellsI zv cs] {f : Nat → Act} [hw : Wn l₀ lt gd true] [hp : ∀ (b : Nat), Put ⟨lt.toArray, ds⟩ d (.pointer (some ⟨b, 0, none⟩)) (f b)] : GoJ (DX P W0 S n₀ l₀ Q br i₁ 0 ⟨d, .alloc t, ty, pos, aft, gd⟩ r₀ L ⟨lt.toArray, ds⟩) (∀ (b : Nat), SD br i₁ n₀ (cel b cs t :: L) S fun r₁ => DL P W0 S n₀ l₀ Q r₁ r₀ (cel b cs t :: L) (f b)) := ⟨fun s => by
  refine X_d (dy_alloc hz.pf) ?_ (hw.pf _ _ _ _ _) rfl
  rintro _ _ ⟨b, rfl, rfl⟩
  rw [(hp b).pf]
  obtain ⟨r₁, e1, e2, e3⟩ := (s b).pf
  subst e1
  exact ⟨e2, e3⟩⟩
instance jX_box {cs : List Value} [hx : Ev ⟨lt.toArray, ds⟩ x v] [hz : CellsI v cs] {f : Nat → Act} [hw : Wn l₀ lt gd true] [hp : ∀ (b : Nat), Put ⟨lt.toArray, ds⟩ d (.pointer (some ⟨b, 0, none⟩)) (f b)] : GoJ (DX P W0 S n₀ l₀ Q br i₁ 0 ⟨d, .box t x, ty, pos, aft, gd⟩ r₀ L ⟨lt.toArray, ds⟩) (∀ (b : Nat), SD br i₁ n₀ (cel b cs t :: L) S fun r₁ => DL P W0 S n₀ l₀ Q r₁ r₀ (cel b cs t :: L) (f b)) := ⟨fun s => by
  refine X_d (dy_box hx.pf hz.pf) ?_ (hw.pf _ _ _ _ _) rfl
  rintro _ _ ⟨b, rfl, rfl⟩
  rw [(hp b).pf]
  obtain ⟨r₁, e1, e2, e3⟩ := (s b).pf
  subst e1
  exact ⟨e2, e3⟩⟩
instance jX_bytes {e : TypeId} {sv : ByteArray} [hx : Ev ⟨lt.toArray, ds⟩ x (.string sv)] [us : UL P u .string] [ut : UL P t (.slice e)] [ub : UL P e (.int .u8)] {f : Option Addr → Nat → Act} [hw : Wn l₀ lt gd true] [hp : ∀ (A : Option Addr) (c : Nat), Put ⟨lt.toArray, ds⟩ d (.slice A sv.size c) (f A c)] : GoJ (DX P W0 S n₀ l₀ Q br i₁ 0 ⟨d, .convert u t x, ty, pos, aft, gd⟩ r₀ L ⟨lt.toArray, ds⟩) (∀ (A : Option Addr) (c : Nat), SD br i₁ n₀ (rd eB (.slice A sv.size c) sv.data.toList :: L) S fun r₁ => DL P W0 S n₀ l₀ Q r₁ r₀ (rd eB (.slice A sv.size c) sv.data.toList :: L) (f A c)) := ⟨fun s => by
  refine X_d (dy_bytes hx.pf) ?_ (hw.pf _ _ _ _ _) rfl
  rintro _ _ ⟨A, c, rfl, rfl⟩
  rw [(hp A c).pf]
  obtain ⟨r₁, e1, e2, e3⟩ := (s A c).pf
  subst e1
  exact ⟨e2, e3⟩⟩
instance jX_ldS {j n c : Nat} {A₀ : Option Addr} {α : Type} {R : Enc α} {l : List (List α)} {el : List α} [AG P t false] [hx : Ev ⟨lt.toArray, ds⟩ x (elp A₀ j 1 0)] [hs : ScA A₀ L n c (eSl R) l] [hl : At l j el] {f : Option Addr → Nat → Act} [hw : Wn l₀ lt gd true] [hp : ∀ (A : Option Addr) (c' : Nat), Put ⟨lt.toArray, ds⟩ d (.slice A el.length c') (f A c')] : GoJ (DX P W0 S n₀ l₀ Q br i₁ 0 ⟨d, .load t x, ty, pos, aft, gd⟩ r₀ L ⟨lt.toArray, ds⟩) (∀ (A : Option Addr) (c' : Nat), SD br i₁ n₀ (rd R (.slice A el.length c') el :: L) S fun r₁ => DL P W0 S n₀ l₀ Q r₁ r₀ (rd R (.slice A el.length c') el :: L) (f A c')) := ⟨fun s => by
  refine X_d (dy_loadS hx.pf hs.pf hl.pf) ?_ (hw.pf _ _ _ _ _) rfl
  rintro _ _ ⟨A, c', rfl, rfl⟩
  rw [(hp A c').pf]
  obtain ⟨r₁, e1, e2, e3⟩ := (s A c').pf
  subst e1
  exact ⟨e2, e3⟩⟩
instance jX_store {zv : Value} {by_ : Nat} [TI P t zv 1 by_] {T : TypeId} {off ix : Nat} {cs cs' : List Value} {Lf : List HP} [hx : Ev ⟨lt.toArray, ds⟩ x (.pointer (some ⟨b, off, none⟩))] [hy : Ev ⟨lt.toArray, ds⟩ y v] [h1 : OneI v] [hm : IxC b L ix cs T] {vv : Value} [hg : GA cs off vv] [hcs : SAt cs off v cs'] [hL : SAt L ix (cel b cs' T) Lf] {f : Act} [hw : Wn l₀ lt gd true] [hp : Put ⟨lt.toArray, ds⟩ d (undef) (f)] : GoJ (DX P W0 S n₀ l₀ Q br i₁ 0 ⟨d, .store t x y, ty, pos, aft, gd⟩ r₀ L ⟨lt.toArray, ds⟩) (SD br i₁ n₀ Lf S fun r₁ => DL P W0 S n₀ l₀ Q r₁ r₀ Lf (f)) := ⟨fun s => by
  refine X_d (dy_store hx.pf hy.pf h1.pf hm.pf hg.lt hcs.pf) ?_ (hw.pf _ _ _ _ _) rfl
  rintro _ _ ⟨rfl, rfl⟩
  rw [hp.pf, hL.pf]
  obtain ⟨r₁, e1, e2, e3⟩ := (s).pf
  subst e1
  exact ⟨e2, e3⟩⟩
instance (priority := low) jX_storeV {zv : Value} {by_ : Nat} [TI P t zv 1 by_] {T : TypeId} {off ix : Nat} {cs cs' : List Value} {Lf : List HP} [hx : Ev ⟨lt.toArray, ds⟩ x (.pointer (some ⟨b, off, none⟩))] [hy : Ev ⟨lt.toArray, ds⟩ y v] [hm : IxC b L ix cs T] {vv : Value} [hg : GA cs off vv] [hcs : SAt cs off v cs'] [hL : SAt L ix (cel b cs' T) Lf] {f : Unit → Act} [hw : Wn l₀ lt gd true] [hp : ∀ r : Unit, Put ⟨lt.toArray, ds⟩ d (undef) (f r)] : GoJ (DX P W0 S n₀ l₀ Q br i₁ 0 ⟨d, .store t x y, ty, pos, aft, gd⟩ r₀ L ⟨lt.toArray, ds⟩) (SE (fun r : Unit => v.oneCell' = true) fun r => SD br i₁ n₀ (Lf) S fun r₁ => DL P W0 S n₀ l₀ Q r₁ r₀ (Lf) (f r)) := ⟨fun s => by
  obtain ⟨r, h, q⟩ := s.pf
  refine X_d (dy_store hx.pf hy.pf h hm.pf hg.lt hcs.pf) ?_ (hw.pf _ _ _ _ _) rfl
  rintro _ _ ⟨rfl, rfl⟩
  rw [(hp r).pf, hL.pf]
  obtain ⟨r₁, e1, e2, e3⟩ := (q).pf
  subst e1
  exact ⟨e2, e3⟩⟩
instance jX_storeG {zv : Value} {sz by_ : Nat} [TI P t zv sz by_] {T : TypeId} {off ix : Nat} {cs cs' vs : List Value} {Lf : List HP} [hx : Ev ⟨lt.toArray, ds⟩ x (.pointer (some ⟨b, off, none⟩))] [hy : Ev ⟨lt.toArray, ds⟩ y (.agg vs.toArray)] [h1 : AllOne vs] [hm : IxC b L ix cs T] [hs : LenI vs sz] [hsp : SpL cs off vs cs'] [hL : SAt L ix (cel b cs' T) Lf] {f : Act} [hw : Wn l₀ lt gd true] [hp : Put ⟨lt.toArray, ds⟩ d (undef) (f)] : GoJ (DX P W0 S n₀ l₀ Q br i₁ 0 ⟨d, .store t x y, ty, pos, aft, gd⟩ r₀ L ⟨lt.toArray, ds⟩) (SD br i₁ n₀ Lf S fun r₁ => DL P W0 S n₀ l₀ Q r₁ r₀ Lf (f)) := ⟨fun s => by
  refine X_d (dy_storeG hx.pf hy.pf h1.pf hs hm.pf hsp) ?_ (hw.pf _ _ _ _ _) rfl
  rintro _ _ ⟨rfl, rfl⟩
  rw [hp.pf, hL.pf]
  obtain ⟨r₁, e1, e2, e3⟩ := (s).pf
  subst e1
  exact ⟨e2, e3⟩⟩
instance jX_append {e : TypeId} {zv v' : Value} {sz by_ ix : Nat} [ut : UL P t (.slice e)] [ti : TI P e zv sz by_] {α : Type} {R : Enc α} {l l2 : List α} {Le : List HP} [hx : Ev ⟨lt.toArray, ds⟩ x v] [hy : Ev ⟨lt.toArray, ds⟩ y v'] [hm : InO L v ix e R l] [he : EAt L ix Le] [hsrc : Sc Le v' R l2] [hR : Sz R sz] [hs0 : PosN sz] [hzc : SzC zv sz] {f : Nat → Option Addr → Nat → Act} {Lg : Nat → Option Addr → Nat → List HP} [hw : Wn l₀ lt gd true] [hp : ∀ r : Nat, ∀ (A : Option Addr) (c : Nat), Put ⟨lt.toArray, ds⟩ d (.slice A r c) (f r A c)] [hL : ∀ r : Nat, ∀ (A : Option Addr) (c : Nat), SAt L ix (own e R (.slice A r c) (l ++ l2)) (Lg r A c)] : GoJ (DX P W0 S n₀ l₀ Q br i₁ 0 ⟨d, .call ⟨.builtin .append, #[x, y], #[t, t]⟩, ty, pos, aft, gd⟩ r₀ L ⟨lt.toArray, ds⟩) (SP (fun r : Nat => l.length + l2.length = r ∧ r * by_ ≤ 140737488355328 ∧ r ≤ 9223372036854775807) fun r => ∀ (A : Option Addr) (c : Nat), SD br i₁ n₀ (Lg r A c) S fun r₁ => DL P W0 S n₀ l₀ Q r₁ r₀ (Lg r A c) (f r A c)) := ⟨fun s => by
  obtain ⟨r, h, q⟩ := s.pf
  refine X_d (dy_append hx.pf hy.pf hm.pf he.pf hsrc.pf hzc.pf hs0.pf hR.pf h.1 h.2.1 h.2.2) ?_ (hw.pf _ _ _ _ _) rfl
  rintro _ _ ⟨A, c, rfl, rfl⟩
  rw [(hp r A c).pf, (hL r A c).pf]
  obtain ⟨r₁, e1, e2, e3⟩ := (q A c).pf
  subst e1
  exact ⟨e2, e3⟩⟩
instance jX_appstr {e : TypeId} [ut : UL P t (.slice e)] [us : UL P u .string] [ti : TI P e (.int .u8 0) 1 1] {l : List UInt8} {sv : ByteArray} {ix : Nat} [hx : Ev ⟨lt.toArray, ds⟩ x v] [hy : Ev ⟨lt.toArray, ds⟩ y (.string sv)] [hm : InO L v ix e eB l] {f : Nat → Option Addr → Nat → Act} {Lg : Nat → Option Addr → Nat → List HP} [hw : Wn l₀ lt gd true] [hp : ∀ r : Nat, ∀ (A : Option Addr) (c : Nat), Put ⟨lt.toArray, ds⟩ d (.slice A r c) (f r A c)] [hL : ∀ r : Nat, ∀ (A : Option Addr) (c : Nat), SAt L ix (own e eB (.slice A r c) (l ++ sv.data.toList)) (Lg r A c)] : GoJ (DX P W0 S n₀ l₀ Q br i₁ 0 ⟨d, .call ⟨.builtin .append, #[x, y], #[t, u]⟩, ty, pos, aft, gd⟩ r₀ L ⟨lt.toArray, ds⟩) (SP (fun r : Nat => l.length + sv.size = r ∧ r ≤ 140737488355328 ∧ r ≤ 9223372036854775807) fun r => ∀ (A : Option Addr) (c : Nat), SD br i₁ n₀ (Lg r A c) S fun r₁ => DL P W0 S n₀ l₀ Q r₁ r₀ (Lg r A c) (f r A c)) := ⟨fun s => by
  obtain ⟨r, h, q⟩ := s.pf
  refine X_d (dy_appstr hx.pf hy.pf hm.pf h.1 h.2.1) ?_ (hw.pf _ _ _ _ _) rfl
  rintro _ _ ⟨A, c, rfl, rfl⟩
  rw [(hp r A c).pf, (hL r A c).pf]
  obtain ⟨r₁, e1, e2, e3⟩ := (q A c).pf
  subst e1
  exact ⟨e2, e3⟩⟩
instance jX_slice {e : TypeId} {zv : Value} {s by_ n c : Nat} {A₀ : Option Addr} {lo hi : Option Operand} {lz hz : Int} {α : Type} {R : Enc α} {l : List α} [ut : UL P t (.slice e)] [ti : TI P e zv s by_] [hx : Ev ⟨lt.toArray, ds⟩ x (.slice A₀ n c)] [hm : InR (.slice A₀ n c) L R l] [hR : Sz R s] [hl : BdI ⟨lt.toArray, ds⟩ lo 0 lz] [hh : BdI ⟨lt.toArray, ds⟩ hi n hz] {f : Nat → Option Addr → Nat → Act} [hw : Wn l₀ lt gd true] [hp : ∀ (h' : Nat) (A : Option Addr) (c' : Nat), Put ⟨lt.toArray, ds⟩ d (.slice A h' c') (f h' A c')] : GoJ (DX P W0 S n₀ l₀ Q br i₁ 0 ⟨d, .slice t x lo hi none, ty, pos, aft, gd⟩ r₀ L ⟨lt.toArray, ds⟩) (SC n lz hz fun l' h' => ∀ (A : Option Addr) (c' : Nat), SD br i₁ n₀ (rd R (.slice A h' c') ((l.drop l').take h') :: L) S fun r₁ => DL P W0 S n₀ l₀ Q r₁ r₀ (rd R (.slice A h' c') ((l.drop l').take h') :: L) (f h' A c')) := ⟨fun s => by
  obtain ⟨l', h', h0, h1, h2, e1, e2, q⟩ := s.pf
  refine X_d (dy_rslice hx.pf hm.pf hR.pf hl.pf hh.pf h0 h1 h2 e1 e2) ?_ (hw.pf _ _ _ _ _) rfl
  rintro _ _ ⟨A, c', rfl, rfl⟩
  rw [(hp h' A c').pf]
  obtain ⟨r₁, e1, e2, e3⟩ := (q A c').pf
  subst e1
  exact ⟨e2, e3⟩⟩
end
end
end Go.Proofs.Ytnjjifikogblpaa
