/-
  My own engine: short names for the walk, so that the texts stay small.
-/
import Derived.Test.YtjaopndlcghkcaaE6
namespace Go.Proofs.Ytjaopndlcghkcaa
open Go Go.RowKit
set_option linter.unusedVariables false
set_option linter.unusedSimpArgs false


section
variable {P : Program} {W0 w : World} {L L' S : List HP} {ops : Array Oper} {rest : List Oper} {o : Oper} {a a' aT aF : Act} {Q : Exit → Act → World → Prop}
  {d : Option Tmp} {ty : TypeId} {pos : String} {aft : Array Edge} {gd : Option (Nat × Bool)} {x y z : Operand} {v : Value} {t u : TypeId} {k k' : IntKind} {m n r : Int} {b : Nat} {op : BinOp}
/-- a test of two integers -/
class CmpP (op : BinOp) (m n : Int) (p : outParam Prop) : Prop where
  tr : p → ∀ {P : Program} {W0 : World} {S : List HP} {a : Act} {d : Option Tmp} {ty : TypeId} {pos : String} {aft : Array Edge} {gd : Option (Nat × Bool)} {x y : Operand} {t u : TypeId} {k : IntKind}, a.eval x = .int k m → a.eval y = .int k n → SV P W0 S ⟨d, .binOp op t x y u, ty, pos, aft, gd⟩ a (.bool true)
  fl : ¬ p → ∀ {P : Program} {W0 : World} {S : List HP} {a : Act} {d : Option Tmp} {ty : TypeId} {pos : String} {aft : Array Edge} {gd : Option (Nat × Bool)} {x y : Operand} {t u : TypeId} {k : IntKind}, a.eval x = .int k m → a.eval y = .int k n → SV P W0 S ⟨d, .binOp op t x y u, ty, pos, aft, gd⟩ a (.bool false)
instance : CmpP .lss m n (m < n) := ⟨fun h _ _ _ _ _ _ _ _ _ _ _ _ _ _ hx hy => sv_ltT hx hy h, fun h _ _ _ _ _ _ _ _ _ _ _ _ _ _ hx hy => sv_ltF hx hy h⟩
instance : CmpP .leq m n (m ≤ n) := ⟨fun h _ _ _ _ _ _ _ _ _ _ _ _ _ _ hx hy => sv_leT hx hy h, fun h _ _ _ _ _ _ _ _ _ _ _ _ _ _ hx hy => sv_leF hx hy h⟩
instance : CmpP .gtr m n (n < m) := ⟨fun h _ _ _ _ _ _ _ _ _ _ _ _ _ _ hx hy => sv_gtT hx hy h, fun h _ _ _ _ _ _ _ _ _ _ _ _ _ _ hx hy => sv_gtF hx hy h⟩
instance : CmpP .geq m n (n ≤ m) := ⟨fun h _ _ _ _ _ _ _ _ _ _ _ _ _ _ hx hy => sv_geT hx hy h, fun h _ _ _ _ _ _ _ _ _ _ _ _ _ _ hx hy => sv_geF hx hy h⟩
instance : CmpP .eql m n (m = n) := ⟨fun h _ _ _ _ _ _ _ _ _ _ _ _ _ _ hx hy => sv_eqT hx hy h, fun h _ _ _ _ _ _ _ _ _ _ _ _ _ _ hx hy => sv_eqF hx hy h⟩
instance : CmpP .neq m n (¬ m = n) := ⟨fun h _ _ _ _ _ _ _ _ _ _ _ _ _ _ hx hy => sv_neT hx hy h, fun h _ _ _ _ _ _ _ _ _ _ _ _ _ _ hx hy => sv_neF hx hy (Decidable.not_not.1 h)⟩
class IsCmp (op : BinOp) : Prop where
  pf : True
instance : IsCmp .lss := ⟨trivial⟩
instance : IsCmp .leq := ⟨trivial⟩
instance : IsCmp .gtr := ⟨trivial⟩
instance : IsCmp .geq := ⟨trivial⟩
instance : IsCmp .eql := ⟨trivial⟩
instance : IsCmp .neq := ⟨trivial⟩
/-! ### code, ends -/
theorem Cs {x y : Code} (h : CL P W0 L x (Exit.then (y.wp P Q) Q) a) : CL P W0 L (.seq x y) Q a := C_seq h
theorem Cr {id : Nat} {l : List Oper} (h : OL P W0 L l.toArray Q l a) : CL P W0 L (.region id l.toArray false) Q a := C_region h
theorem Cb {id : Nat} {c : Code} (h : CL P W0 L c (Exit.inBlock id Q) a) : CL P W0 L (.block id c) Q a := C_block h
theorem Ck (h : EL W0 L Q .normal a) : CL P W0 L .skip Q a := C_skip h
theorem Cx {id : Nat} (h : EL W0 L Q (.exit id) a) : CL P W0 L (.exit id) Q a := C_exit h
theorem Ce (h : EL W0 L Q .ret a) : CL P W0 L .ret Q a := C_ret h
theorem Ct {c : Operand} {x y : Code} [hc : Ev a c (.bool true)] (h : CL P W0 L x Q a) : CL P W0 L (.cond c x y) Q a := C_condT hc.pf h
theorem Cf {c : Operand} {x y : Code} [hc : Ev a c (.bool false)] (h : CL P W0 L y Q a) : CL P W0 L (.cond c x y) Q a := C_condF hc.pf h
theorem Co {c : Code} (h : CL P W0 L c (Exit.noGoto Q) a) : CL P W0 L (.scope c) Q a := C_scope h
theorem Cl {l : Nat} (h : EL W0 L Q .normal a) : CL P W0 L (.label l) Q a := C_label h
theorem Ea {y : Code} {Q' : Exit → Act → World → Prop} (h : CL P W0 L y Q a) : EL W0 L (Exit.then (y.wp P Q) Q') .normal a := E_thenN h
theorem Eb {K : Act → World → Prop} {id : Nat} (h : EL W0 L Q (.exit id) a) : EL W0 L (Exit.then K Q) (.exit id) a := E_thenE h
theorem Ec {K : Act → World → Prop} (h : EL W0 L Q .ret a) : EL W0 L (Exit.then K Q) .ret a := E_thenR h
theorem Ed {id : Nat} (h : EL W0 L Q .normal a) : EL W0 L (Exit.inBlock id Q) .normal a := E_blkN h
theorem Ee {id : Nat} (h : EL W0 L Q .ret a) : EL W0 L (Exit.inBlock id Q) .ret a := E_blkR h
theorem Ef {id : Nat} (h : EL W0 L Q .normal a) : EL W0 L (Exit.inBlock id Q) (.exit id) a := E_blkE h
theorem Eg {id id' : Nat} (h : EL W0 L Q (.exit id') a) (hne : id' ≠ id := by decide) : EL W0 L (Exit.inBlock id Q) (.exit id') a := E_blkX hne h
theorem Eh (h : EL W0 L Q .normal a) : EL W0 L (Exit.noGoto Q) .normal a := E_gotoN h
theorem Ei (h : EL W0 L Q .ret a) : EL W0 L (Exit.noGoto Q) .ret a := E_gotoR h
theorem Ej {id : Nat} (h : EL W0 L Q (.exit id) a) : EL W0 L (Exit.noGoto Q) (.exit id) a := E_gotoE h
/-! ### guards: which operation it is -/
theorem JB (k : OL P W0 L ops Q (⟨d, .binOp op t x y u, ty, pos, aft, gd⟩ :: rest) a) : OL P W0 L ops Q (⟨d, .binOp op t x y u, ty, pos, aft, gd⟩ :: rest) a := k
theorem JC [IsCmp op] (k : OL P W0 L ops Q (⟨d, .binOp op t x y u, ty, pos, aft, gd⟩ :: rest) a) : OL P W0 L ops Q (⟨d, .binOp op t x y u, ty, pos, aft, gd⟩ :: rest) a := k
theorem JP (k : OL P W0 L ops Q (⟨d, .binOp .add t x y u, ty, pos, aft, gd⟩ :: rest) a) : OL P W0 L ops Q (⟨d, .binOp .add t x y u, ty, pos, aft, gd⟩ :: rest) a := k
theorem JM (k : OL P W0 L ops Q (⟨d, .binOp .sub t x y u, ty, pos, aft, gd⟩ :: rest) a) : OL P W0 L ops Q (⟨d, .binOp .sub t x y u, ty, pos, aft, gd⟩ :: rest) a := k
theorem JU (k : OL P W0 L ops Q (⟨d, .binOp .mul t x y u, ty, pos, aft, gd⟩ :: rest) a) : OL P W0 L ops Q (⟨d, .binOp .mul t x y u, ty, pos, aft, gd⟩ :: rest) a := k
theorem JQ (k : OL P W0 L ops Q (⟨d, .binOp .quo t x y u, ty, pos, aft, gd⟩ :: rest) a) : OL P W0 L ops Q (⟨d, .binOp .quo t x y u, ty, pos, aft, gd⟩ :: rest) a := k
theorem JR (k : OL P W0 L ops Q (⟨d, .binOp .rem t x y u, ty, pos, aft, gd⟩ :: rest) a) : OL P W0 L ops Q (⟨d, .binOp .rem t x y u, ty, pos, aft, gd⟩ :: rest) a := k
theorem JI (k : OL P W0 L ops Q (⟨d, .indexAddr t x y, ty, pos, aft, gd⟩ :: rest) a) : OL P W0 L ops Q (⟨d, .indexAddr t x y, ty, pos, aft, gd⟩ :: rest) a := k
theorem JL (k : OL P W0 L ops Q (⟨d, .load t x, ty, pos, aft, gd⟩ :: rest) a) : OL P W0 L ops Q (⟨d, .load t x, ty, pos, aft, gd⟩ :: rest) a := k
theorem JV (k : OL P W0 L ops Q (⟨d, .convert t u x, ty, pos, aft, gd⟩ :: rest) a) : OL P W0 L ops Q (⟨d, .convert t u x, ty, pos, aft, gd⟩ :: rest) a := k
theorem JS (k : OL P W0 L ops Q (⟨d, .store t x y, ty, pos, aft, gd⟩ :: rest) a) : OL P W0 L ops Q (⟨d, .store t x y, ty, pos, aft, gd⟩ :: rest) a := k
theorem JK {bi : Builtin} {xs : Array Operand} {ts : Array TypeId} (k : OL P W0 L ops Q (⟨d, .call ⟨.builtin bi, xs, ts⟩, ty, pos, aft, gd⟩ :: rest) a) : OL P W0 L ops Q (⟨d, .call ⟨.builtin bi, xs, ts⟩, ty, pos, aft, gd⟩ :: rest) a := k
theorem JA (k : OL P W0 L ops Q (⟨d, .alloc t, ty, pos, aft, gd⟩ :: rest) a) : OL P W0 L ops Q (⟨d, .alloc t, ty, pos, aft, gd⟩ :: rest) a := k
theorem JX (k : OL P W0 L ops Q (⟨d, .box t x, ty, pos, aft, gd⟩ :: rest) a) : OL P W0 L ops Q (⟨d, .box t x, ty, pos, aft, gd⟩ :: rest) a := k
theorem JD {lo hi mx : Option Operand} (k : OL P W0 L ops Q (⟨d, .slice t x lo hi mx, ty, pos, aft, gd⟩ :: rest) a) : OL P W0 L ops Q (⟨d, .slice t x lo hi mx, ty, pos, aft, gd⟩ :: rest) a := k
theorem JN {uo : UnOp} (k : OL P W0 L ops Q (⟨d, .unOp uo t x, ty, pos, aft, gd⟩ :: rest) a) : OL P W0 L ops Q (⟨d, .unOp uo t x, ty, pos, aft, gd⟩ :: rest) a := k
section
variable {n i m : Nat} {l : List Oper} {br : Bool} {r : List (Nat × Nat)}
theorem KB (k : DX P W0 S n l Q br i m ⟨d, .binOp op t x y u, ty, pos, aft, gd⟩ r L a) : DX P W0 S n l Q br i m ⟨d, .binOp op t x y u, ty, pos, aft, gd⟩ r L a := k
theorem KC [IsCmp op] (k : DX P W0 S n l Q br i m ⟨d, .binOp op t x y u, ty, pos, aft, gd⟩ r L a) : DX P W0 S n l Q br i m ⟨d, .binOp op t x y u, ty, pos, aft, gd⟩ r L a := k
theorem KP (k : DX P W0 S n l Q br i m ⟨d, .binOp .add t x y u, ty, pos, aft, gd⟩ r L a) : DX P W0 S n l Q br i m ⟨d, .binOp .add t x y u, ty, pos, aft, gd⟩ r L a := k
theorem KM (k : DX P W0 S n l Q br i m ⟨d, .binOp .sub t x y u, ty, pos, aft, gd⟩ r L a) : DX P W0 S n l Q br i m ⟨d, .binOp .sub t x y u, ty, pos, aft, gd⟩ r L a := k
theorem KU (k : DX P W0 S n l Q br i m ⟨d, .binOp .mul t x y u, ty, pos, aft, gd⟩ r L a) : DX P W0 S n l Q br i m ⟨d, .binOp .mul t x y u, ty, pos, aft, gd⟩ r L a := k
theorem KQ (k : DX P W0 S n l Q br i m ⟨d, .binOp .quo t x y u, ty, pos, aft, gd⟩ r L a) : DX P W0 S n l Q br i m ⟨d, .binOp .quo t x y u, ty, pos, aft, gd⟩ r L a := k
theorem KR (k : DX P W0 S n l Q br i m ⟨d, .binOp .rem t x y u, ty, pos, aft, gd⟩ r L a) : DX P W0 S n l Q br i m ⟨d, .binOp .rem t x y u, ty, pos, aft, gd⟩ r L a := k
theorem KI (k : DX P W0 S n l Q br i m ⟨d, .indexAddr t x y, ty, pos, aft, gd⟩ r L a) : DX P W0 S n l Q br i m ⟨d, .indexAddr t x y, ty, pos, aft, gd⟩ r L a := k
theorem KL (k : DX P W0 S n l Q br i m ⟨d, .load t x, ty, pos, aft, gd⟩ r L a) : DX P W0 S n l Q br i m ⟨d, .load t x, ty, pos, aft, gd⟩ r L a := k
theorem KV (k : DX P W0 S n l Q br i m ⟨d, .convert t u x, ty, pos, aft, gd⟩ r L a) : DX P W0 S n l Q br i m ⟨d, .convert t u x, ty, pos, aft, gd⟩ r L a := k
theorem KS (k : DX P W0 S n l Q br i m ⟨d, .store t x y, ty, pos, aft, gd⟩ r L a) : DX P W0 S n l Q br i m ⟨d, .store t x y, ty, pos, aft, gd⟩ r L a := k
theorem KK {bi : Builtin} {xs : Array Operand} {ts : Array TypeId} (k : DX P W0 S n l Q br i m ⟨d, .call ⟨.builtin bi, xs, ts⟩, ty, pos, aft, gd⟩ r L a) : DX P W0 S n l Q br i m ⟨d, .call ⟨.builtin bi, xs, ts⟩, ty, pos, aft, gd⟩ r L a := k
theorem KA (k : DX P W0 S n l Q br i m ⟨d, .alloc t, ty, pos, aft, gd⟩ r L a) : DX P W0 S n l Q br i m ⟨d, .alloc t, ty, pos, aft, gd⟩ r L a := k
theorem KX (k : DX P W0 S n l Q br i m ⟨d, .box t x, ty, pos, aft, gd⟩ r L a) : DX P W0 S n l Q br i m ⟨d, .box t x, ty, pos, aft, gd⟩ r L a := k
theorem KD {lo hi mx : Option Operand} (k : DX P W0 S n l Q br i m ⟨d, .slice t x lo hi mx, ty, pos, aft, gd⟩ r L a) : DX P W0 S n l Q br i m ⟨d, .slice t x lo hi mx, ty, pos, aft, gd⟩ r L a := k
theorem KN {uo : UnOp} (k : DX P W0 S n l Q br i m ⟨d, .unOp uo t x, ty, pos, aft, gd⟩ r L a) : DX P W0 S n l Q br i m ⟨d, .unOp uo t x, ty, pos, aft, gd⟩ r L a := k
end
/-! ### operations -/
theorem On (k : EL W0 L Q .normal a) : OL P W0 L ops Q [] a := O_nil k
theorem Oz {v : Value} [h : SVc P W0 L o a v] (k : OL P W0 L ops Q rest a') (hw : Region.wanted o (yielded ops a.tmps) = true := by rfl) (hp : a.put o.dst v = a' := by exact Put.pf) : OL P W0 L ops Q (o :: rest) a := O_sv hw h.pf hp k
theorem Oo (k : OL P W0 L ops Q rest a') (hw : Region.wanted o (yielded ops a.tmps) = false := by rfl) (hp : a.put o.dst undef = a' := by exact Put.pf) : OL P W0 L ops Q (o :: rest) a := O_off hw hp k
theorem Ot {p : Prop} [hx : Ev a x (.int k m)] [hy : Ev a y (.int k n)] [c : CmpP op m n p] (k : OL P W0 L ops Q rest a') (h : p := by omega) (hw : Region.wanted (⟨d, .binOp op t x y u, ty, pos, aft, gd⟩ : Oper) (yielded ops a.tmps) = true := by rfl) (hp : a.put d (.bool true) = a' := by exact Put.pf) : OL P W0 L ops Q (⟨d, .binOp op t x y u, ty, pos, aft, gd⟩ :: rest) a := O_sv hw (c.tr h hx.pf hy.pf) hp k
theorem Of {p : Prop} [hx : Ev a x (.int k m)] [hy : Ev a y (.int k n)] [c : CmpP op m n p] (k : OL P W0 L ops Q rest a') (h : ¬ p := by omega) (hw : Region.wanted (⟨d, .binOp op t x y u, ty, pos, aft, gd⟩ : Oper) (yielded ops a.tmps) = true := by rfl) (hp : a.put d (.bool false) = a' := by exact Put.pf) : OL P W0 L ops Q (⟨d, .binOp op t x y u, ty, pos, aft, gd⟩ :: rest) a := O_sv hw (c.fl h hx.pf hy.pf) hp k
theorem Oy {p : Prop} [hx : Ev a x (.int k m)] [hy : Ev a y (.int k n)] [c : CmpP op m n p] (kT : p → OL P W0 L ops Q rest aT) (kF : ¬ p → OL P W0 L ops Q rest aF) (hw : Region.wanted (⟨d, .binOp op t x y u, ty, pos, aft, gd⟩ : Oper) (yielded ops a.tmps) = true := by rfl) (hpT : a.put d (.bool true) = aT := by exact Put.pf) (hpF : a.put d (.bool false) = aF := by exact Put.pf) : OL P W0 L ops Q (⟨d, .binOp op t x y u, ty, pos, aft, gd⟩ :: rest) a := O_split (fun h => c.tr h hx.pf hy.pf) (fun h => c.fl h hx.pf hy.pf) kT kF hw hpT hpF
theorem Op {κ : IntKind} [hx : Ev a x (.int κ m)] [hy : Ev a y (.int κ n)] (k : OL P W0 L ops Q rest a') (hr : κ.wrap (m + n) = r := by first | exact wr_i64 (by omega) (by omega) | exact wr_u64 (by omega) (by omega) | exact wr_u8 (by omega) (by omega) | exact rfl) (hw : Region.wanted (⟨d, .binOp .add t x y u, ty, pos, aft, gd⟩ : Oper) (yielded ops a.tmps) = true := by rfl) (hp : a.put d (.int κ r) = a' := by exact Put.pf) : OL P W0 L ops Q (⟨d, .binOp .add t x y u, ty, pos, aft, gd⟩ :: rest) a := O_sv hw (sv_add hx.pf hy.pf hr) hp k
theorem Om {κ : IntKind} [hx : Ev a x (.int κ m)] [hy : Ev a y (.int κ n)] (k : OL P W0 L ops Q rest a') (hr : κ.wrap (m - n) = r := by first | exact wr_i64 (by omega) (by omega) | exact wr_u64 (by omega) (by omega) | exact wr_u8 (by omega) (by omega) | exact rfl) (hw : Region.wanted (⟨d, .binOp .sub t x y u, ty, pos, aft, gd⟩ : Oper) (yielded ops a.tmps) = true := by rfl) (hp : a.put d (.int κ r) = a' := by exact Put.pf) : OL P W0 L ops Q (⟨d, .binOp .sub t x y u, ty, pos, aft, gd⟩ :: rest) a := O_sv hw (sv_sub hx.pf hy.pf hr) hp k
theorem Ou {κ : IntKind} [hx : Ev a x (.int κ m)] [hy : Ev a y (.int κ n)] (k : OL P W0 L ops Q rest a') (hr : κ.wrap (m * n) = r := by first | exact wr_i64 (by omega) (by omega) | exact wr_u64 (by omega) (by omega) | exact wr_u8 (by omega) (by omega) | exact rfl) (hw : Region.wanted (⟨d, .binOp .mul t x y u, ty, pos, aft, gd⟩ : Oper) (yielded ops a.tmps) = true := by rfl) (hp : a.put d (.int κ r) = a' := by exact Put.pf) : OL P W0 L ops Q (⟨d, .binOp .mul t x y u, ty, pos, aft, gd⟩ :: rest) a := O_sv hw (sv_mul hx.pf hy.pf hr) hp k
theorem Oq {κ : IntKind} [hx : Ev a x (.int κ m)] [hy : Ev a y (.int κ n)] (k : OL P W0 L ops Q rest a') (h0 : n ≠ 0 := by first | omega | decide) (hr : κ.wrap (m.tdiv n) = r := by first | exact wq_i64 (by omega) (by omega) (by omega) | exact wq_u64 (by omega) (by omega) (by omega) | exact rfl) (hw : Region.wanted (⟨d, .binOp .quo t x y u, ty, pos, aft, gd⟩ : Oper) (yielded ops a.tmps) = true := by rfl) (hp : a.put d (.int κ r) = a' := by exact Put.pf) : OL P W0 L ops Q (⟨d, .binOp .quo t x y u, ty, pos, aft, gd⟩ :: rest) a := O_sv hw (sv_quo hx.pf hy.pf h0 hr) hp k
theorem Or {κ : IntKind} [hx : Ev a x (.int κ m)] [hy : Ev a y (.int κ n)] (k : OL P W0 L ops Q rest a') (h0 : n ≠ 0 := by first | omega | decide) (hr : m.tmod n = r := by first | exact wm_nn (by omega) | exact rfl) (hw : Region.wanted (⟨d, .binOp .rem t x y u, ty, pos, aft, gd⟩ : Oper) (yielded ops a.tmps) = true := by rfl) (hp : a.put d (.int κ r) = a' := by exact Put.pf) : OL P W0 L ops Q (⟨d, .binOp .rem t x y u, ty, pos, aft, gd⟩ :: rest) a := O_sv hw (sv_rem hx.pf hy.pf h0 hr) hp k
theorem Ov {ds : TypeDesc} [us : UL P u ds] [ut : UL P t (.int k')] [hx : Ev a x (.int k m)] (q : OL P W0 L ops Q rest a') (hr : k'.wrap m = r := by first | exact wr_i64 (by omega) (by omega) | exact wr_u64 (by omega) (by omega) | exact wr_u8 (by omega) (by omega) | exact rfl) (hw : Region.wanted (⟨d, .convert u t x, ty, pos, aft, gd⟩ : Oper) (yielded ops a.tmps) = true := by rfl) (hp : a.put d (.int k' r) = a' := by exact Put.pf) : OL P W0 L ops Q (⟨d, .convert u t x, ty, pos, aft, gd⟩ :: rest) a := O_sv hw (sv_conv hx.pf hr) hp q
theorem Oi {e : TypeId} {zv : Value} {s by_ j n c : Nat} {A : Option Addr} {α : Type} {R : Enc α} {l : List α} {i : Int} [ut : UL P t (.slice e)] [ti : TI P e zv s by_] [hx : Ev a x (.slice A n c)] [hi : Ev a y (.int k i)] [hs : Sc L (.slice A n c) R l] (q : OL P W0 L ops Q rest a') (h0 : 0 ≤ i := by first | omega | decide) (h1 : i < n := by first | omega | decide) (hj : i.toNat = j := by first | exact Int.toNat_natCast _ | exact rfl) (hw : Region.wanted (⟨d, .indexAddr t x y, ty, pos, aft, gd⟩ : Oper) (yielded ops a.tmps) = true := by rfl) (hp : a.put d (elp A j s 0) = a' := by exact Put.pf) : OL P W0 L ops Q (⟨d, .indexAddr t x y, ty, pos, aft, gd⟩ :: rest) a := O_sv hw (sv_idx hx.pf hi.pf (hs.pf).all h0 h1 hj) hp q
theorem Oe {j n c : Nat} {A : Option Addr} {α : Type} {f : α → Value} {hf : ∀ a, (f a).oneCell' = true} {l : List α} {el : α} [AG P t false] [hx : Ev a x (elp A j 1 0)] [hs : ScA A L n c (e1 f hf) l] (q : OL P W0 L ops Q rest a') (hl : l[j]? = some el := by assumption) (hw : Region.wanted (⟨d, .load t x, ty, pos, aft, gd⟩ : Oper) (yielded ops a.tmps) = true := by rfl) (hp : a.put d (f el) = a' := by exact Put.pf) : OL P W0 L ops Q (⟨d, .load t x, ty, pos, aft, gd⟩ :: rest) a := O_sv hw (sv_loadE hx.pf (hs.pf).all hl) hp q
theorem Oa {zv : Value} {s by_ : Nat} {cs : List Value} [TI P t zv s by_] [hz : CellsI zv cs] {f : Nat → Act} {Lf : Nat → List HP} (k : ∀ b, OL P W0 (Lf b) ops Q rest (f b)) (hw : Region.wanted (⟨d, .alloc t, ty, pos, aft, gd⟩ : Oper) (yielded ops a.tmps) = true := by rfl) (hp : ∀ b, a.put d (.pointer (some ⟨b, 0, none⟩)) = f b := by intro _; exact Put.pf) (hL : ∀ b, cel b cs t :: L = Lf b := by intro _; first | exact SAt.pf | exact rfl) : OL P W0 L ops Q (⟨d, .alloc t, ty, pos, aft, gd⟩ :: rest) a := by
  refine O_dy hw (dy_alloc hz.pf) ?_
  rintro _ _ ⟨b, rfl, rfl⟩
  rw [hp b, hL b]
  exact k b
theorem Ob {cs : List Value} [hx : Ev a x v] [hz : CellsI v cs] {f : Nat → Act} {Lf : Nat → List HP} (k : ∀ b, OL P W0 (Lf b) ops Q rest (f b)) (hw : Region.wanted (⟨d, .box t x, ty, pos, aft, gd⟩ : Oper) (yielded ops a.tmps) = true := by rfl) (hp : ∀ b, a.put d (.pointer (some ⟨b, 0, none⟩)) = f b := by intro _; exact Put.pf) (hL : ∀ b, cel b cs t :: L = Lf b := by intro _; first | exact SAt.pf | exact rfl) : OL P W0 L ops Q (⟨d, .box t x, ty, pos, aft, gd⟩ :: rest) a := by
  refine O_dy hw (dy_box hx.pf hz.pf) ?_
  rintro _ _ ⟨b, rfl, rfl⟩
  rw [hp b, hL b]
  exact k b
theorem Oc {zv : Value} {by_ : Nat} [TI P t zv 1 by_] {T : TypeId} {off ix : Nat} {cs cs' : List Value} [hx : Ev a x (.pointer (some ⟨b, off, none⟩))] [hy : Ev a y v] [hm : IxC b L ix cs T] [hcs : SAt cs off v cs'] {vv : Value} [hg : GA cs off vv] {f : Act} {Lf : List HP} (k : OL P W0 (Lf) ops Q rest (f)) (h1 : v.oneCell' = true := by first | rfl | assumption) (hw : Region.wanted (⟨d, .store t x y, ty, pos, aft, gd⟩ : Oper) (yielded ops a.tmps) = true := by rfl) (hp : a.put d (undef) = f := by exact Put.pf) (hL : L.set ix (cel b cs' T) = Lf := by first | exact SAt.pf | exact rfl) : OL P W0 L ops Q (⟨d, .store t x y, ty, pos, aft, gd⟩ :: rest) a := by
  refine O_dy hw (dy_store hx.pf hy.pf h1 hm.pf hg.lt hcs.pf) ?_
  rintro _ _ ⟨rfl, rfl⟩
  rw [hp, hL]
  exact k
theorem Od {zv : Value} {sz by_ : Nat} [TI P t zv sz by_] {T : TypeId} {off ix : Nat} {cs cs' vs : List Value} [hx : Ev a x (.pointer (some ⟨b, off, none⟩))] [hy : Ev a y (.agg vs.toArray)] [hm : IxC b L ix cs T] [hs : LenI vs sz] [hsp : SpL cs off vs cs'] {f : Act} {Lf : List HP} (k : OL P W0 (Lf) ops Q rest (f)) (h1 : (vs.all fun v => v.oneCell') = true := by rfl) (hw : Region.wanted (⟨d, .store t x y, ty, pos, aft, gd⟩ : Oper) (yielded ops a.tmps) = true := by rfl) (hp : a.put d (undef) = f := by exact Put.pf) (hL : L.set ix (cel b cs' T) = Lf := by first | exact SAt.pf | exact rfl) : OL P W0 L ops Q (⟨d, .store t x y, ty, pos, aft, gd⟩ :: rest) a := by
  refine O_dy hw (dy_storeG hx.pf hy.pf h1 hs hm.pf hsp) ?_
  rintro _ _ ⟨rfl, rfl⟩
  rw [hp, hL]
  exact k
theorem Ol {e : TypeId} {zv v' : Value} {sz by_ ix N : Nat} [ut : UL P t (.slice e)] [ti : TI P e zv sz by_] {α : Type} {R : Enc α} {l l2 : List α} {Le : List HP} [hx : Ev a x v] [hy : Ev a y v'] [hm : InO L v ix e R l] [he : EAt L ix Le] [hsrc : Sc Le v' R l2] [hR : Sz R sz] [hs0 : PosN sz] {f : Option Addr → Nat → Act} {Lf : Option Addr → Nat → List HP} (k : ∀ A c, OL P W0 (Lf A c) ops Q rest (f A c)) (hN : l.length + l2.length = N := by (try simp only [List.length_append, List.length_cons, List.length_nil, Nat.zero_add, Nat.add_zero, Nat.reduceAdd]) <;> exact rfl) (hb : N * by_ ≤ 140737488355328 := by omega) (h63 : N ≤ 9223372036854775807 := by omega) (hzs : zv.cells.size = sz := by rfl) (hw : Region.wanted (⟨d, .call ⟨.builtin .append, #[x, y], #[t, t]⟩, ty, pos, aft, gd⟩ : Oper) (yielded ops a.tmps) = true := by rfl) (hp : ∀ A c, a.put d (.slice A N c) = f A c := by intro _ _; exact Put.pf) (hL : ∀ A c, L.set ix (own e R (.slice A N c) (l ++ l2)) = Lf A c := by intro _ _; first | exact SAt.pf | exact rfl) : OL P W0 L ops Q (⟨d, .call ⟨.builtin .append, #[x, y], #[t, t]⟩, ty, pos, aft, gd⟩ :: rest) a := by
  refine O_dy hw (dy_append hx.pf hy.pf hm.pf he.pf hsrc.pf hzs hs0.pf hR.pf hN hb h63) ?_
  rintro _ _ ⟨A, c, rfl, rfl⟩
  rw [hp A c, hL A c]
  exact k A c
theorem Og {e : TypeId} [ut : UL P t (.slice e)] [us : UL P u .string] [ti : TI P e (.int .u8 0) 1 1] {l : List UInt8} {sv : ByteArray} {ix N : Nat} [hx : Ev a x v] [hy : Ev a y (.string sv)] [hm : InO L v ix e eB l] {f : Option Addr → Nat → Act} {Lf : Option Addr → Nat → List HP} (k : ∀ A c, OL P W0 (Lf A c) ops Q rest (f A c)) (hN : l.length + sv.size = N := by (try simp only [List.length_append, List.length_cons, List.length_nil, Nat.zero_add, Nat.add_zero, Nat.reduceAdd]) <;> exact rfl) (hb : N ≤ 140737488355328 := by omega) (hw : Region.wanted (⟨d, .call ⟨.builtin .append, #[x, y], #[t, u]⟩, ty, pos, aft, gd⟩ : Oper) (yielded ops a.tmps) = true := by rfl) (hp : ∀ A c, a.put d (.slice A N c) = f A c := by intro _ _; exact Put.pf) (hL : ∀ A c, L.set ix (own e eB (.slice A N c) (l ++ sv.data.toList)) = Lf A c := by intro _ _; first | exact SAt.pf | exact rfl) : OL P W0 L ops Q (⟨d, .call ⟨.builtin .append, #[x, y], #[t, u]⟩, ty, pos, aft, gd⟩ :: rest) a := by
  refine O_dy hw (dy_appstr hx.pf hy.pf hm.pf hN hb) ?_
  rintro _ _ ⟨A, c, rfl, rfl⟩
  rw [hp A c, hL A c]
  exact k A c
theorem Oh {e : TypeId} {sv : ByteArray} [hx : Ev a x (.string sv)] [us : UL P u .string] [ut : UL P t (.slice e)] [ub : UL P e (.int .u8)] {f : Option Addr → Nat → Act} {Lf : Option Addr → Nat → List HP} (k : ∀ A c, OL P W0 (Lf A c) ops Q rest (f A c)) (hw : Region.wanted (⟨d, .convert u t x, ty, pos, aft, gd⟩ : Oper) (yielded ops a.tmps) = true := by rfl) (hp : ∀ A c, a.put d (.slice A sv.size c) = f A c := by intro _ _; exact Put.pf) (hL : ∀ A c, rd eB (.slice A sv.size c) sv.data.toList :: L = Lf A c := by intro _ _; first | exact SAt.pf | exact rfl) : OL P W0 L ops Q (⟨d, .convert u t x, ty, pos, aft, gd⟩ :: rest) a := by
  refine O_dy hw (dy_bytes hx.pf) ?_
  rintro _ _ ⟨A, c, rfl, rfl⟩
  rw [hp A c, hL A c]
  exact k A c
theorem Oj {j n c : Nat} {A₀ : Option Addr} {α : Type} {R : Enc α} {l : List (List α)} {el : List α} [AG P t false] [hx : Ev a x (elp A₀ j 1 0)] [hs : ScA A₀ L n c (eSl R) l] [hl : At l j el] {f : Option Addr → Nat → Act} {Lf : Option Addr → Nat → List HP} (k : ∀ A c', OL P W0 (Lf A c') ops Q rest (f A c')) (hw : Region.wanted (⟨d, .load t x, ty, pos, aft, gd⟩ : Oper) (yielded ops a.tmps) = true := by rfl) (hp : ∀ A c', a.put d (.slice A el.length c') = f A c' := by intro _ _; exact Put.pf) (hL : ∀ A c', rd R (.slice A el.length c') el :: L = Lf A c' := by intro _ _; first | exact SAt.pf | exact rfl) : OL P W0 L ops Q (⟨d, .load t x, ty, pos, aft, gd⟩ :: rest) a := by
  refine O_dy hw (dy_loadS hx.pf hs.pf hl.pf) ?_
  rintro _ _ ⟨A, c', rfl, rfl⟩
  rw [hp A c', hL A c']
  exact k A c'
theorem Ok {lo hi : Option Operand} {e : TypeId} {zv : Value} {s by_ n c l' h' : Nat} {A₀ : Option Addr} {lz hz : Int} {α : Type} {R : Enc α} {l : List α} [ut : UL P t (.slice e)] [ti : TI P e zv s by_] [hx : Ev a x (.slice A₀ n c)] [hm : InR (.slice A₀ n c) L R l] [hR : Sz R s] {f : Option Addr → Nat → Act} {Lf : Option Addr → Nat → List HP} (k : ∀ A c', OL P W0 (Lf A c') ops Q rest (f A c')) (hl : (lo.map a.eval = none ∧ lz = 0) ∨ ∃ k, lo.map a.eval = some (.int k lz) := by first | exact .inl ⟨rfl, rfl⟩ | exact .inr ⟨_, congrArg some Ev.pf⟩) (hh : (hi.map a.eval = none ∧ hz = n) ∨ ∃ k, hi.map a.eval = some (.int k hz) := by first | exact .inl ⟨rfl, rfl⟩ | exact .inr ⟨_, congrArg some Ev.pf⟩) (h0 : 0 ≤ lz := by omega) (h1 : lz ≤ hz := by omega) (h2 : hz ≤ n := by omega) (e1 : lz.toNat = l' := by first | exact Int.toNat_natCast _ | exact rfl) (e2 : hz.toNat - l' = h' := by first | (rw [Int.toNat_natCast, Nat.sub_zero]) | rw [Int.toNat_natCast] | rfl) (hw : Region.wanted (⟨d, .slice t x lo hi none, ty, pos, aft, gd⟩ : Oper) (yielded ops a.tmps) = true := by rfl) (hp : ∀ A c', a.put d (.slice A h' c') = f A c' := by intro _ _; exact Put.pf) (hL : ∀ A c', rd R (.slice A h' c') ((l.drop l').take h') :: L = Lf A c' := by intro _ _; first | exact SAt.pf | exact rfl) : OL P W0 L ops Q (⟨d, .slice t x lo hi none, ty, pos, aft, gd⟩ :: rest) a := by
  refine O_dy hw (dy_rslice hx.pf hm.pf hR.pf hl hh h0 h1 h2 e1 e2) ?_
  rintro _ _ ⟨A, c', rfl, rfl⟩
  rw [hp A c', hL A c']
  exact k A c'
/-! ### drawn regions -/
section
variable {n i m : Nat} {l₀ : List Oper} {br br' : Bool} {r₀ : List (Nat × Nat)}
theorem Dn {br : Bool} (k : EL W0 L Q .normal a) : DL P W0 S n l₀ Q br [] L a := D_nil k
theorem Do (k : DX P W0 S n l₀ Q br i m o r₀ L a) (ho : l₀[i]? = some o := by rfl) : DL P W0 S n l₀ Q br ((i, m) :: r₀) L a := k.run ho
theorem Xs {v : Value} [h : SVc P W0 S o a v] (k₀ : DL P W0 S n l₀ Q br r₀ L a') (hw : Region.wanted o (yielded l₀.toArray a.tmps) = true := by rfl) (hp : a.put o.dst v = a' := by exact Put.pf) : DX P W0 S n l₀ Q br i 1 o r₀ L a := X_s h.pf k₀ hw hp
theorem Xw {v : Value} [h : ∀ W0, SVc P W0 [] o a v] (k₀ : DL P W0 S n l₀ Q br r₀ L a') (hw : Region.wanted o (yielded l₀.toArray a.tmps) = true := by rfl) (hp : a.put o.dst v = a' := by exact Put.pf) : DX P W0 S n l₀ Q br i (m + 2) o r₀ L a := X_p (fun W0 => (h W0).pf) k₀ hw hp
theorem Xo (k₀ : DL P W0 S n l₀ Q br r₀ L a') (hw : Region.wanted o (yielded l₀.toArray a.tmps) = false := by rfl) (hp : a.put o.dst undef = a' := by exact Put.pf) : DX P W0 S n l₀ Q br i (m + 1) o r₀ L a := by
  cases m
  · exact X_o1 k₀ hw hp
  · exact X_o2 k₀ hw hp
theorem X_w {v : Value} (h : ∀ W0 S, SV P W0 S o a v) (k₀ : DL P W0 S n l₀ Q br r₀ L a') (hw : Region.wanted o (yielded l₀.toArray a.tmps) = true) (hp : a.put o.dst v = a') : DX P W0 S n l₀ Q br i (m + 1) o r₀ L a := by
  cases m
  · exact X_s (h _ _) k₀ hw hp
  · exact X_p (fun W0 => h _ _) k₀ hw hp
theorem Xt {p : Prop} {n' r' : Int} [hx : Ev a x (.int k n')] [hy : Ev a y (.int k r')] [c : CmpP op n' r' p] (k₀ : DL P W0 S n l₀ Q br r₀ L a') (h : p := by omega) (hw : Region.wanted (⟨d, .binOp op t x y u, ty, pos, aft, gd⟩ : Oper) (yielded l₀.toArray a.tmps) = true := by rfl) (hp : a.put d (.bool true) = a' := by exact Put.pf) : DX P W0 S n l₀ Q br i (m + 1) ⟨d, .binOp op t x y u, ty, pos, aft, gd⟩ r₀ L a := X_w (fun _ _ => c.tr h hx.pf hy.pf) k₀ hw hp
theorem Xf {p : Prop} {n' r' : Int} [hx : Ev a x (.int k n')] [hy : Ev a y (.int k r')] [c : CmpP op n' r' p] (k₀ : DL P W0 S n l₀ Q br r₀ L a') (h : ¬ p := by omega) (hw : Region.wanted (⟨d, .binOp op t x y u, ty, pos, aft, gd⟩ : Oper) (yielded l₀.toArray a.tmps) = true := by rfl) (hp : a.put d (.bool false) = a' := by exact Put.pf) : DX P W0 S n l₀ Q br i (m + 1) ⟨d, .binOp op t x y u, ty, pos, aft, gd⟩ r₀ L a := X_w (fun _ _ => c.fl h hx.pf hy.pf) k₀ hw hp
theorem Xy {p : Prop} {n' r' : Int} [hx : Ev a x (.int k n')] [hy : Ev a y (.int k r')] [c : CmpP op n' r' p] (kT : p → DL P W0 S n l₀ Q br r₀ L aT) (kF : ¬ p → DL P W0 S n l₀ Q br r₀ L aF) (hw : Region.wanted (⟨d, .binOp op t x y u, ty, pos, aft, gd⟩ : Oper) (yielded l₀.toArray a.tmps) = true := by rfl) (hpT : a.put d (.bool true) = aT := by exact Put.pf) (hpF : a.put d (.bool false) = aF := by exact Put.pf) : DX P W0 S n l₀ Q br i (m + 1) ⟨d, .binOp op t x y u, ty, pos, aft, gd⟩ r₀ L a := by
  by_cases h : p
  · exact X_w (fun _ _ => c.tr h hx.pf hy.pf) (kT h) hw hpT
  · exact X_w (fun _ _ => c.fl h hx.pf hy.pf) (kF h) hw hpF
theorem Xp {n' r' : Int} {r'' : Int} [hx : Ev a x (.int k n')] [hy : Ev a y (.int k r')] (k₀ : DL P W0 S n l₀ Q br r₀ L a') (hr : k.wrap (n' + r') = r'' := by first | exact wr_i64 (by omega) (by omega) | exact wr_u64 (by omega) (by omega) | exact wr_u8 (by omega) (by omega) | exact rfl) (hw : Region.wanted (⟨d, .binOp .add t x y u, ty, pos, aft, gd⟩ : Oper) (yielded l₀.toArray a.tmps) = true := by rfl) (hp : a.put d (.int k r'') = a' := by exact Put.pf) : DX P W0 S n l₀ Q br i (m + 1) ⟨d, .binOp .add t x y u, ty, pos, aft, gd⟩ r₀ L a := X_w (fun _ _ => sv_add hx.pf hy.pf hr) k₀ hw hp
theorem Xm {n' r' : Int} {r'' : Int} [hx : Ev a x (.int k n')] [hy : Ev a y (.int k r')] (k₀ : DL P W0 S n l₀ Q br r₀ L a') (hr : k.wrap (n' - r') = r'' := by first | exact wr_i64 (by omega) (by omega) | exact wr_u64 (by omega) (by omega) | exact wr_u8 (by omega) (by omega) | exact rfl) (hw : Region.wanted (⟨d, .binOp .sub t x y u, ty, pos, aft, gd⟩ : Oper) (yielded l₀.toArray a.tmps) = true := by rfl) (hp : a.put d (.int k r'') = a' := by exact Put.pf) : DX P W0 S n l₀ Q br i (m + 1) ⟨d, .binOp .sub t x y u, ty, pos, aft, gd⟩ r₀ L a := X_w (fun _ _ => sv_sub hx.pf hy.pf hr) k₀ hw hp
theorem Xu {n' r' : Int} {r'' : Int} [hx : Ev a x (.int k n')] [hy : Ev a y (.int k r')] (k₀ : DL P W0 S n l₀ Q br r₀ L a') (hr : k.wrap (n' * r') = r'' := by first | exact wr_i64 (by omega) (by omega) | exact wr_u64 (by omega) (by omega) | exact wr_u8 (by omega) (by omega) | exact rfl) (hw : Region.wanted (⟨d, .binOp .mul t x y u, ty, pos, aft, gd⟩ : Oper) (yielded l₀.toArray a.tmps) = true := by rfl) (hp : a.put d (.int k r'') = a' := by exact Put.pf) : DX P W0 S n l₀ Q br i (m + 1) ⟨d, .binOp .mul t x y u, ty, pos, aft, gd⟩ r₀ L a := X_w (fun _ _ => sv_mul hx.pf hy.pf hr) k₀ hw hp
theorem Xq {n' r' : Int} {r'' : Int} [hx : Ev a x (.int k n')] [hy : Ev a y (.int k r')] (k₀ : DL P W0 S n l₀ Q br r₀ L a') (h0 : r' ≠ 0 := by first | omega | decide) (hr : k.wrap (n'.tdiv r') = r'' := by first | exact wq_i64 (by omega) (by omega) (by omega) | exact wq_u64 (by omega) (by omega) (by omega) | exact rfl) (hw : Region.wanted (⟨d, .binOp .quo t x y u, ty, pos, aft, gd⟩ : Oper) (yielded l₀.toArray a.tmps) = true := by rfl) (hp : a.put d (.int k r'') = a' := by exact Put.pf) : DX P W0 S n l₀ Q br i (m + 1) ⟨d, .binOp .quo t x y u, ty, pos, aft, gd⟩ r₀ L a := X_w (fun _ _ => sv_quo hx.pf hy.pf h0 hr) k₀ hw hp
theorem Xr {n' r' : Int} {r'' : Int} [hx : Ev a x (.int k n')] [hy : Ev a y (.int k r')] (k₀ : DL P W0 S n l₀ Q br r₀ L a') (h0 : r' ≠ 0 := by first | omega | decide) (hr : n'.tmod r' = r'' := by first | exact wm_nn (by omega) | exact rfl) (hw : Region.wanted (⟨d, .binOp .rem t x y u, ty, pos, aft, gd⟩ : Oper) (yielded l₀.toArray a.tmps) = true := by rfl) (hp : a.put d (.int k r'') = a' := by exact Put.pf) : DX P W0 S n l₀ Q br i (m + 1) ⟨d, .binOp .rem t x y u, ty, pos, aft, gd⟩ r₀ L a := X_w (fun _ _ => sv_rem hx.pf hy.pf h0 hr) k₀ hw hp
theorem Xv {ds : TypeDesc} {n' r'' : Int} [us : UL P u ds] [ut : UL P t (.int k')] [hx : Ev a x (.int k n')] (k₀ : DL P W0 S n l₀ Q br r₀ L a') (hr : k'.wrap n' = r'' := by first | exact wr_i64 (by omega) (by omega) | exact wr_u64 (by omega) (by omega) | exact wr_u8 (by omega) (by omega) | exact rfl) (hw : Region.wanted (⟨d, .convert u t x, ty, pos, aft, gd⟩ : Oper) (yielded l₀.toArray a.tmps) = true := by rfl) (hp : a.put d (.int k' r'') = a' := by exact Put.pf) : DX P W0 S n l₀ Q br i (m + 1) ⟨d, .convert u t x, ty, pos, aft, gd⟩ r₀ L a := X_w (fun _ _ => sv_conv hx.pf hr) k₀ hw hp
theorem Xi {e : TypeId} {zv : Value} {s by_ j n' c : Nat} {A : Option Addr} {α : Type} {R : Enc α} {l : List α} {i' : Int} [ut : UL P t (.slice e)] [ti : TI P e zv s by_] [hx : Ev a x (.slice A n' c)] [hi : Ev a y (.int k i')] [hs : Sc S (.slice A n' c) R l] (k₀ : DL P W0 S n l₀ Q br r₀ L a') (h0 : 0 ≤ i' := by first | omega | decide) (h1 : i' < n' := by first | omega | decide) (hj : i'.toNat = j := by first | exact Int.toNat_natCast _ | exact rfl) (hw : Region.wanted (⟨d, .indexAddr t x y, ty, pos, aft, gd⟩ : Oper) (yielded l₀.toArray a.tmps) = true := by rfl) (hp : a.put d (elp A j s 0) = a' := by exact Put.pf) : DX P W0 S n l₀ Q br i 1 ⟨d, .indexAddr t x y, ty, pos, aft, gd⟩ r₀ L a := X_s (sv_idx hx.pf hi.pf (hs.pf).all h0 h1 hj) k₀ hw hp
theorem Xe {j n' c : Nat} {A : Option Addr} {α : Type} {f : α → Value} {hf : ∀ a, (f a).oneCell' = true} {l : List α} {el : α} [AG P t false] [hx : Ev a x (elp A j 1 0)] [hs : ScA A S n' c (e1 f hf) l] (k₀ : DL P W0 S n l₀ Q br r₀ L a') (hl : l[j]? = some el := by assumption) (hw : Region.wanted (⟨d, .load t x, ty, pos, aft, gd⟩ : Oper) (yielded l₀.toArray a.tmps) = true := by rfl) (hp : a.put d (f el) = a' := by exact Put.pf) : DX P W0 S n l₀ Q br i 1 ⟨d, .load t x, ty, pos, aft, gd⟩ r₀ L a := X_s (sv_loadE hx.pf (hs.pf).all hl) k₀ hw hp
theorem Xa {zv : Value} {s by_ : Nat} {cs : List Value} [TI P t zv s by_] [hz : CellsI zv cs] {f : Nat → Act} {Lf : Nat → List HP} (k : ∀ b, DL P W0 S n l₀ Q br' r₀ (Lf b) (f b)) (hw : Region.wanted (⟨d, .alloc t, ty, pos, aft, gd⟩ : Oper) (yielded l₀.toArray a.tmps) = true := by rfl) (hp : ∀ b, a.put d (.pointer (some ⟨b, 0, none⟩)) = f b := by intro _; exact Put.pf) (hL : ∀ b, cel b cs t :: L = Lf b := by intro _; first | exact SAt.pf | exact rfl) (hbr : (br || i == n) = br' := by rfl) (hS : ∀ b, br' = true ∨ Sub (Lf b) S := by intro _; first | exact .inl rfl | exact .inr Sb) : DX P W0 S n l₀ Q br i 0 ⟨d, .alloc t, ty, pos, aft, gd⟩ r₀ L a := by
  refine X_d (dy_alloc hz.pf) ?_ hw hbr
  rintro _ _ ⟨b, rfl, rfl⟩
  rw [hp b, hL b]
  exact ⟨hS b, k b⟩
theorem Xb {cs : List Value} [hx : Ev a x v] [hz : CellsI v cs] {f : Nat → Act} {Lf : Nat → List HP} (k : ∀ b, DL P W0 S n l₀ Q br' r₀ (Lf b) (f b)) (hw : Region.wanted (⟨d, .box t x, ty, pos, aft, gd⟩ : Oper) (yielded l₀.toArray a.tmps) = true := by rfl) (hp : ∀ b, a.put d (.pointer (some ⟨b, 0, none⟩)) = f b := by intro _; exact Put.pf) (hL : ∀ b, cel b cs t :: L = Lf b := by intro _; first | exact SAt.pf | exact rfl) (hbr : (br || i == n) = br' := by rfl) (hS : ∀ b, br' = true ∨ Sub (Lf b) S := by intro _; first | exact .inl rfl | exact .inr Sb) : DX P W0 S n l₀ Q br i 0 ⟨d, .box t x, ty, pos, aft, gd⟩ r₀ L a := by
  refine X_d (dy_box hx.pf hz.pf) ?_ hw hbr
  rintro _ _ ⟨b, rfl, rfl⟩
  rw [hp b, hL b]
  exact ⟨hS b, k b⟩
theorem Xc {zv : Value} {by_ : Nat} [TI P t zv 1 by_] {T : TypeId} {off ix : Nat} {cs cs' : List Value} [hx : Ev a x (.pointer (some ⟨b, off, none⟩))] [hy : Ev a y v] [hm : IxC b L ix cs T] [hcs : SAt cs off v cs'] {vv : Value} [hg : GA cs off vv] {f : Act} {Lf : List HP} (k : DL P W0 S n l₀ Q br' r₀ (Lf) (f)) (h1 : v.oneCell' = true := by first | rfl | assumption) (hw : Region.wanted (⟨d, .store t x y, ty, pos, aft, gd⟩ : Oper) (yielded l₀.toArray a.tmps) = true := by rfl) (hp : a.put d (undef) = f := by exact Put.pf) (hL : L.set ix (cel b cs' T) = Lf := by first | exact SAt.pf | exact rfl) (hbr : (br || i == n) = br' := by rfl) (hS : br' = true ∨ Sub (Lf) S := by first | exact .inl rfl | exact .inr Sb) : DX P W0 S n l₀ Q br i 0 ⟨d, .store t x y, ty, pos, aft, gd⟩ r₀ L a := by
  refine X_d (dy_store hx.pf hy.pf h1 hm.pf hg.lt hcs.pf) ?_ hw hbr
  rintro _ _ ⟨rfl, rfl⟩
  rw [hp, hL]
  exact ⟨hS, k⟩
theorem Xd {zv : Value} {sz by_ : Nat} [TI P t zv sz by_] {T : TypeId} {off ix : Nat} {cs cs' vs : List Value} [hx : Ev a x (.pointer (some ⟨b, off, none⟩))] [hy : Ev a y (.agg vs.toArray)] [hm : IxC b L ix cs T] [hs : LenI vs sz] [hsp : SpL cs off vs cs'] {f : Act} {Lf : List HP} (k : DL P W0 S n l₀ Q br' r₀ (Lf) (f)) (h1 : (vs.all fun v => v.oneCell') = true := by rfl) (hw : Region.wanted (⟨d, .store t x y, ty, pos, aft, gd⟩ : Oper) (yielded l₀.toArray a.tmps) = true := by rfl) (hp : a.put d (undef) = f := by exact Put.pf) (hL : L.set ix (cel b cs' T) = Lf := by first | exact SAt.pf | exact rfl) (hbr : (br || i == n) = br' := by rfl) (hS : br' = true ∨ Sub (Lf) S := by first | exact .inl rfl | exact .inr Sb) : DX P W0 S n l₀ Q br i 0 ⟨d, .store t x y, ty, pos, aft, gd⟩ r₀ L a := by
  refine X_d (dy_storeG hx.pf hy.pf h1 hs hm.pf hsp) ?_ hw hbr
  rintro _ _ ⟨rfl, rfl⟩
  rw [hp, hL]
  exact ⟨hS, k⟩
theorem Xl {e : TypeId} {zv v' : Value} {sz by_ ix N : Nat} [ut : UL P t (.slice e)] [ti : TI P e zv sz by_] {α : Type} {R : Enc α} {l l2 : List α} {Le : List HP} [hx : Ev a x v] [hy : Ev a y v'] [hm : InO L v ix e R l] [he : EAt L ix Le] [hsrc : Sc Le v' R l2] [hR : Sz R sz] [hs0 : PosN sz] {f : Option Addr → Nat → Act} {Lf : Option Addr → Nat → List HP} (k : ∀ A c, DL P W0 S n l₀ Q br' r₀ (Lf A c) (f A c)) (hN : l.length + l2.length = N := by (try simp only [List.length_append, List.length_cons, List.length_nil, Nat.zero_add, Nat.add_zero, Nat.reduceAdd]) <;> exact rfl) (hb : N * by_ ≤ 140737488355328 := by omega) (h63 : N ≤ 9223372036854775807 := by omega) (hzs : zv.cells.size = sz := by rfl) (hw : Region.wanted (⟨d, .call ⟨.builtin .append, #[x, y], #[t, t]⟩, ty, pos, aft, gd⟩ : Oper) (yielded l₀.toArray a.tmps) = true := by rfl) (hp : ∀ A c, a.put d (.slice A N c) = f A c := by intro _ _; exact Put.pf) (hL : ∀ A c, L.set ix (own e R (.slice A N c) (l ++ l2)) = Lf A c := by intro _ _; first | exact SAt.pf | exact rfl) (hbr : (br || i == n) = br' := by rfl) (hS : ∀ A c, br' = true ∨ Sub (Lf A c) S := by intro _ _; first | exact .inl rfl | exact .inr Sb) : DX P W0 S n l₀ Q br i 0 ⟨d, .call ⟨.builtin .append, #[x, y], #[t, t]⟩, ty, pos, aft, gd⟩ r₀ L a := by
  refine X_d (dy_append hx.pf hy.pf hm.pf he.pf hsrc.pf hzs hs0.pf hR.pf hN hb h63) ?_ hw hbr
  rintro _ _ ⟨A, c, rfl, rfl⟩
  rw [hp A c, hL A c]
  exact ⟨hS A c, k A c⟩
theorem Xg {e : TypeId} [ut : UL P t (.slice e)] [us : UL P u .string] [ti : TI P e (.int .u8 0) 1 1] {l : List UInt8} {sv : ByteArray} {ix N : Nat} [hx : Ev a x v] [hy : Ev a y (.string sv)] [hm : InO L v ix e eB l] {f : Option Addr → Nat → Act} {Lf : Option Addr → Nat → List HP} (k : ∀ A c, DL P W0 S n l₀ Q br' r₀ (Lf A c) (f A c)) (hN : l.length + sv.size = N := by (try simp only [List.length_append, List.length_cons, List.length_nil, Nat.zero_add, Nat.add_zero, Nat.reduceAdd]) <;> exact rfl) (hb : N ≤ 140737488355328 := by omega) (hw : Region.wanted (⟨d, .call ⟨.builtin .append, #[x, y], #[t, u]⟩, ty, pos, aft, gd⟩ : Oper) (yielded l₀.toArray a.tmps) = true := by rfl) (hp : ∀ A c, a.put d (.slice A N c) = f A c := by intro _ _; exact Put.pf) (hL : ∀ A c, L.set ix (own e eB (.slice A N c) (l ++ sv.data.toList)) = Lf A c := by intro _ _; first | exact SAt.pf | exact rfl) (hbr : (br || i == n) = br' := by rfl) (hS : ∀ A c, br' = true ∨ Sub (Lf A c) S := by intro _ _; first | exact .inl rfl | exact .inr Sb) : DX P W0 S n l₀ Q br i 0 ⟨d, .call ⟨.builtin .append, #[x, y], #[t, u]⟩, ty, pos, aft, gd⟩ r₀ L a := by
  refine X_d (dy_appstr hx.pf hy.pf hm.pf hN hb) ?_ hw hbr
  rintro _ _ ⟨A, c, rfl, rfl⟩
  rw [hp A c, hL A c]
  exact ⟨hS A c, k A c⟩
theorem Xh {e : TypeId} {sv : ByteArray} [hx : Ev a x (.string sv)] [us : UL P u .string] [ut : UL P t (.slice e)] [ub : UL P e (.int .u8)] {f : Option Addr → Nat → Act} {Lf : Option Addr → Nat → List HP} (k : ∀ A c, DL P W0 S n l₀ Q br' r₀ (Lf A c) (f A c)) (hw : Region.wanted (⟨d, .convert u t x, ty, pos, aft, gd⟩ : Oper) (yielded l₀.toArray a.tmps) = true := by rfl) (hp : ∀ A c, a.put d (.slice A sv.size c) = f A c := by intro _ _; exact Put.pf) (hL : ∀ A c, rd eB (.slice A sv.size c) sv.data.toList :: L = Lf A c := by intro _ _; first | exact SAt.pf | exact rfl) (hbr : (br || i == n) = br' := by rfl) (hS : ∀ A c, br' = true ∨ Sub (Lf A c) S := by intro _ _; first | exact .inl rfl | exact .inr Sb) : DX P W0 S n l₀ Q br i 0 ⟨d, .convert u t x, ty, pos, aft, gd⟩ r₀ L a := by
  refine X_d (dy_bytes hx.pf) ?_ hw hbr
  rintro _ _ ⟨A, c, rfl, rfl⟩
  rw [hp A c, hL A c]
  exact ⟨hS A c, k A c⟩
theorem Xj {j n c : Nat} {A₀ : Option Addr} {α : Type} {R : Enc α} {l : List (List α)} {el : List α} [AG P t false] [hx : Ev a x (elp A₀ j 1 0)] [hs : ScA A₀ L n c (eSl R) l] [hl : At l j el] {f : Option Addr → Nat → Act} {Lf : Option Addr → Nat → List HP} (k : ∀ A c', DL P W0 S n l₀ Q br' r₀ (Lf A c') (f A c')) (hw : Region.wanted (⟨d, .load t x, ty, pos, aft, gd⟩ : Oper) (yielded l₀.toArray a.tmps) = true := by rfl) (hp : ∀ A c', a.put d (.slice A el.length c') = f A c' := by intro _ _; exact Put.pf) (hL : ∀ A c', rd R (.slice A el.length c') el :: L = Lf A c' := by intro _ _; first | exact SAt.pf | exact rfl) (hbr : (br || i == n) = br' := by rfl) (hS : ∀ A c', br' = true ∨ Sub (Lf A c') S := by intro _ _; first | exact .inl rfl | exact .inr Sb) : DX P W0 S n l₀ Q br i 0 ⟨d, .load t x, ty, pos, aft, gd⟩ r₀ L a := by
  refine X_d (dy_loadS hx.pf hs.pf hl.pf) ?_ hw hbr
  rintro _ _ ⟨A, c', rfl, rfl⟩
  rw [hp A c', hL A c']
  exact ⟨hS A c', k A c'⟩
theorem Xk {lo hi : Option Operand} {e : TypeId} {zv : Value} {s by_ n c l' h' : Nat} {A₀ : Option Addr} {lz hz : Int} {α : Type} {R : Enc α} {l : List α} [ut : UL P t (.slice e)] [ti : TI P e zv s by_] [hx : Ev a x (.slice A₀ n c)] [hm : InR (.slice A₀ n c) L R l] [hR : Sz R s] {f : Option Addr → Nat → Act} {Lf : Option Addr → Nat → List HP} (k : ∀ A c', DL P W0 S n l₀ Q br' r₀ (Lf A c') (f A c')) (hl : (lo.map a.eval = none ∧ lz = 0) ∨ ∃ k, lo.map a.eval = some (.int k lz) := by first | exact .inl ⟨rfl, rfl⟩ | exact .inr ⟨_, congrArg some Ev.pf⟩) (hh : (hi.map a.eval = none ∧ hz = n) ∨ ∃ k, hi.map a.eval = some (.int k hz) := by first | exact .inl ⟨rfl, rfl⟩ | exact .inr ⟨_, congrArg some Ev.pf⟩) (h0 : 0 ≤ lz := by omega) (h1 : lz ≤ hz := by omega) (h2 : hz ≤ n := by omega) (e1 : lz.toNat = l' := by first | exact Int.toNat_natCast _ | exact rfl) (e2 : hz.toNat - l' = h' := by first | (rw [Int.toNat_natCast, Nat.sub_zero]) | rw [Int.toNat_natCast] | rfl) (hw : Region.wanted (⟨d, .slice t x lo hi none, ty, pos, aft, gd⟩ : Oper) (yielded l₀.toArray a.tmps) = true := by rfl) (hp : ∀ A c', a.put d (.slice A h' c') = f A c' := by intro _ _; exact Put.pf) (hL : ∀ A c', rd R (.slice A h' c') ((l.drop l').take h') :: L = Lf A c' := by intro _ _; first | exact SAt.pf | exact rfl) (hbr : (br || i == n) = br' := by rfl) (hS : ∀ A c', br' = true ∨ Sub (Lf A c') S := by intro _ _; first | exact .inl rfl | exact .inr Sb) : DX P W0 S n l₀ Q br i 0 ⟨d, .slice t x lo hi none, ty, pos, aft, gd⟩ r₀ L a := by
  refine X_d (dy_rslice hx.pf hm.pf hR.pf hl hh h0 h1 h2 e1 e2) ?_ hw hbr
  rintro _ _ ⟨A, c', rfl, rfl⟩
  rw [hp A c', hL A c']
  exact ⟨hS A c', k A c'⟩
end
end
end Go.Proofs.Ytjaopndlcghkcaa
