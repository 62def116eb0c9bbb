/-
  My own engine: one rule an operation that reads.
-/
import Derived.Test.YtnjjifikogblpaaMD
namespace Go.Proofs.Ytnjjifikogblpaa
open Go Go.RowKit
set_option linter.unusedVariables false
set_option linter.unusedSimpArgs false
/-- a field of a struct type: its offset, its type -/
class FD (P : Program) (t : TypeId) (i : Nat) (off ft : outParam Nat) : Prop where
  pf : ∃ fs f, P.underlying t = some (.struct fs) ∧ fs[i]? = some f ∧ f.offset = off ∧ f.type = ft
theorem fd_of {P : Program} {t i off ft : Nat} (h : ((P.underlying t).bind fun d => match d with | .struct fs => (fs[i]?).map fun f => (f.offset, f.type) | _ => none) = some (off, ft)) : FD P t i off ft := by
  cases hu : P.underlying t with
  | none => rw [hu] at h; cases h
  | some d =>
    rw [hu] at h
    cases d with
    | struct fs =>
      simp only [Option.bind_some] at h
      cases hf : fs[i]? with
      | none => rw [hf] at h; cases h
      | some f =>
        rw [hf] at h
        simp only [Option.map_some, Option.some.injEq, Prod.mk.injEq] at h
        exact ⟨fs, f, hu, hf, h.1, h.2⟩
    | _ => cases h
/-! ### what the walk looks up -/
class GA (l : List Value) (i : Nat) (v : outParam Value) : Prop where
  pf : l[i]? = some v
instance ga0 {l : List Value} {v : Value} : GA (v :: l) 0 v := ⟨rfl⟩
instance gaS {l : List Value} {x v : Value} {i : Nat} [h : GA l i v] : GA (x :: l) (i + 1) v := ⟨by simpa using h.pf⟩
class SAt {α : Type _} (l : List α) (i : Nat) (v : α) (l' : outParam (List α)) : Prop where
  pf : l.set i v = l'
instance sa0 {α : Type _} {l : List α} {x v : α} : SAt (x :: l) 0 v (v :: l) := ⟨rfl⟩
instance saS {α : Type _} {l l' : List α} {x v : α} {i : Nat} [h : SAt l i v l'] : SAt (x :: l) (i + 1) v (x :: l') := ⟨by simpa using h.pf⟩
instance ga8 {l : List Value} {a b c d e f g h v : Value} {i : Nat} [k : GA l i v] : GA (a :: b :: c :: d :: e :: f :: g :: h :: l) (i + 8) v := ⟨by simpa using k.pf⟩
instance sa8 {α : Type _} {l l' : List α} {a b c d e f g h v : α} {i : Nat} [k : SAt l i v l'] : SAt (a :: b :: c :: d :: e :: f :: g :: h :: l) (i + 8) v (a :: b :: c :: d :: e :: f :: g :: h :: l') := ⟨by simpa using k.pf⟩
class EAt {α : Type _} (l : List α) (i : Nat) (l' : outParam (List α)) : Prop where
  pf : l.eraseIdx i = l'
instance ea0 {α : Type _} {l : List α} {x : α} : EAt (x :: l) 0 l := ⟨rfl⟩
instance eaS {α : Type _} {l l' : List α} {x : α} {i : Nat} [h : EAt l i l'] : EAt (x :: l) (i + 1) (x :: l') := ⟨by simpa using h.pf⟩
class Ev (a : Act) (x : Operand) (v : outParam Value) : Prop where
  pf : a.eval x = v
instance ev_c {a : Act} {v : Value} : Ev a (.const v) v := ⟨rfl⟩
instance ev_t {l : List Value} {ds : List Deferred} {i : Nat} {v : Value} [h : GA l i v] : Ev ⟨l.toArray, ds⟩ (.tmp i) v := ⟨by have := h.pf; simp [Act.eval, this]⟩
class Put (a : Act) (d : Option Tmp) (v : Value) (a' : outParam Act) : Prop where
  pf : a.put d v = a'
instance put_n {a : Act} {v : Value} : Put a none v a := ⟨rfl⟩
instance put_s {l l' : List Value} {ds : List Deferred} {i : Nat} {v : Value} [h : SAt l i v l'] : Put ⟨l.toArray, ds⟩ (some i) v ⟨l'.toArray, ds⟩ := ⟨by have := h.pf; simp [Act.put, this]⟩
class SetsI (l : List Value) (ps : List (Nat × Value)) (l' : outParam (List Value)) : Prop where
  pf : setAll l.toArray ps = l'.toArray
instance sets0 {l : List Value} : SetsI l [] l := ⟨rfl⟩
instance setsS {l l1 l2 : List Value} {s : Nat} {v : Value} {r : List (Nat × Value)} [h : SAt l s v l1] [k : SetsI l1 r l2] : SetsI l ((s, v) :: r) l2 := ⟨by
  have := h.pf
  show setAll (l.toArray.setIfInBounds s v) r = _
  rw [List.setIfInBounds_toArray, this]
  exact k.pf⟩
class FrmI (a : Act) (ms : List Bool) (u : Nat → Value) (ps : List (Nat × Value)) (a' : outParam Act) : Prop where
  pf : frm a ms u ps = a'
instance frmI {l l1 l2 : List Value} {ds : List Deferred} {ms : List Bool} {u : Nat → Value} {ps : List (Nat × Value)} [h : MixI l ms u 0 l1] [k : SetsI l1 ps l2] : FrmI ⟨l.toArray, ds⟩ ms u ps ⟨l2.toArray, ds⟩ := ⟨by
  have h1 := h.pf
  unfold frm
  simp only [h1]
  rw [k.pf]⟩
theorem C_n {P : Program} {W0 : World} {L : List HP} {c : Code} {a a' : Act} {Q : Exit → Act → World → Prop} (k : CL P W0 L c Q a') (h : a = a' := by exact FrmI.pf) : CL P W0 L c Q a := h ▸ k
class ArgsI (a : Act) (xs : Array Operand) (vs : outParam (Array Value)) : Prop where
  pf : xs.map a.eval = vs
instance args0 {a : Act} : ArgsI a #[] #[] := ⟨by simp⟩
instance args1 {a : Act} {x1 : Operand} {v1 : Value} [h1 : Ev a x1 v1] : ArgsI a #[x1] #[v1] := ⟨by simp [h1.pf]⟩
instance args2 {a : Act} {x1 x2 : Operand} {v1 v2 : Value} [h1 : Ev a x1 v1] [h2 : Ev a x2 v2] : ArgsI a #[x1, x2] #[v1, v2] := ⟨by simp [h1.pf, h2.pf]⟩
instance args3 {a : Act} {x1 x2 x3 : Operand} {v1 v2 v3 : Value} [h1 : Ev a x1 v1] [h2 : Ev a x2 v2] [h3 : Ev a x3 v3] : ArgsI a #[x1, x2, x3] #[v1, v2, v3] := ⟨by simp [h1.pf, h2.pf, h3.pf]⟩
instance args4 {a : Act} {x1 x2 x3 x4 : Operand} {v1 v2 v3 v4 : Value} [h1 : Ev a x1 v1] [h2 : Ev a x2 v2] [h3 : Ev a x3 v3] [h4 : Ev a x4 v4] : ArgsI a #[x1, x2, x3, x4] #[v1, v2, v3, v4] := ⟨by simp [h1.pf, h2.pf, h3.pf, h4.pf]⟩
instance args5 {a : Act} {x1 x2 x3 x4 x5 : Operand} {v1 v2 v3 v4 v5 : Value} [h1 : Ev a x1 v1] [h2 : Ev a x2 v2] [h3 : Ev a x3 v3] [h4 : Ev a x4 v4] [h5 : Ev a x5 v5] : ArgsI a #[x1, x2, x3, x4, x5] #[v1, v2, v3, v4, v5] := ⟨by simp [h1.pf, h2.pf, h3.pf, h4.pf, h5.pf]⟩
class InC (b : Nat) (L : List HP) (cs : outParam (List Value)) (T : outParam TypeId) : Prop where
  pf : cel b cs T ∈ L
instance inc_s {b : Nat} {L : List HP} {A : HP} {cs : List Value} {T : TypeId} [h : InC b L cs T] : InC b (A :: L) cs T := ⟨.tail _ h.pf⟩
instance inc_0 {b : Nat} {L : List HP} {cs : List Value} {T : TypeId} : InC b (cel b cs T :: L) cs T := ⟨.head _⟩
class Sc (L : List HP) (v : Value) {α : outParam Type} (R : outParam (Enc α)) (l : outParam (List α)) : Prop where
  pf : Src L R v l
instance sc_s {L : List HP} {A : HP} {v : Value} {α : Type} {R : Enc α} {l : List α} [h : Sc L v R l] : Sc (A :: L) v R l := ⟨h.pf.c⟩
instance sc_r {L : List HP} {v : Value} {α : Type} {R : Enc α} {l : List α} : Sc (rd R v l :: L) v R l := ⟨.inl (.head _)⟩
instance sc_o {L : List HP} {v : Value} {E : TypeId} {α : Type} {R : Enc α} {l : List α} : Sc (own E R v l :: L) v R l := ⟨.inr ⟨E, .head _⟩⟩
class ScA (A : Option Addr) (L : List HP) (n c : outParam Nat) {α : outParam Type} (R : outParam (Enc α)) (l : outParam (List α)) : Prop where
  pf : Src L R (.slice A n c) l
instance sca_s {A : Option Addr} {B : HP} {L : List HP} {n c : Nat} {α : Type} {R : Enc α} {l : List α} [h : ScA A L n c R l] : ScA A (B :: L) n c R l := ⟨h.pf.c⟩
instance sca_r {A : Option Addr} {L : List HP} {n c : Nat} {α : Type} {R : Enc α} {l : List α} : ScA A (rd R (.slice A n c) l :: L) n c R l := ⟨.inl (.head _)⟩
instance sca_o {A : Option Addr} {L : List HP} {n c : Nat} {E : TypeId} {α : Type} {R : Enc α} {l : List α} : ScA A (own E R (.slice A n c) l :: L) n c R l := ⟨.inr ⟨E, .head _⟩⟩
instance (priority := low) sc_a {A : Option Addr} {L : List HP} {n c : Nat} {α : Type} {R : Enc α} {l : List α} [h : ScA A L n c R l] : Sc L (.slice A n c) R l := ⟨h.pf⟩
/-- an owned row's place -/
class InO (L : List HP) (v : Value) (i : outParam Nat) {α : outParam Type} (E : outParam TypeId) (R : outParam (Enc α)) (l : outParam (List α)) : Prop where
  pf : L[i]? = some (own E R v l)
instance ino_s {L : List HP} {A : HP} {v : Value} {i : Nat} {α : Type} {E : TypeId} {R : Enc α} {l : List α} [h : InO L v i E R l] : InO (A :: L) v (i + 1) E R l := ⟨by simpa using h.pf⟩
instance ino_0 {L : List HP} {v : Value} {E : TypeId} {α : Type} {R : Enc α} {l : List α} : InO (own E R v l :: L) v 0 E R l := ⟨rfl⟩
class IxC (b : Nat) (L : List HP) (i : outParam Nat) (cs : outParam (List Value)) (T : outParam TypeId) : Prop where
  pf : L[i]? = some (cel b cs T)
instance ixc_s {b i : Nat} {L : List HP} {A : HP} {cs : List Value} {T : TypeId} [h : IxC b L i cs T] : IxC b (A :: L) (i + 1) cs T := ⟨by simpa using h.pf⟩
instance ixc_0 {b : Nat} {L : List HP} {cs : List Value} {T : TypeId} : IxC b (cel b cs T :: L) 0 cs T := ⟨rfl⟩
theorem Src.all {W0 : World} {S : List HP} {α : Type} {R : Enc α} {vv : Value} {l : List α} (h : Src S R vv l) : ∀ w, St W0 w S → Sl (Hp.of w) R vv l := fun w s => h.sl s
/-! ### integers -/
section
variable {m n : Int}
theorem wr_i64 (h : -9223372036854775808 ≤ m) (h2 : m ≤ 9223372036854775807) : IntKind.i64.wrap m = m := IntWalk.i64_in _ ⟨h, h2⟩
theorem wr_u64 (h : 0 ≤ m) (h2 : m < 18446744073709551616) : IntKind.u64.wrap m = m := by rw [IntKind.wrap_u64]; omega
theorem wr_u8 (h : 0 ≤ m) (h2 : m < 256) : IntKind.u8.wrap m = m := by simp [IntKind.wrap, IntKind.bits, IntKind.signed]; omega
theorem wq_i64 (h : 0 ≤ m) (h2 : 0 < n) (h3 : m ≤ 9223372036854775807) : IntKind.i64.wrap (m.tdiv n) = m / n := by
  rw [Int.tdiv_eq_ediv_of_nonneg h]
  have h4 : m / n ≤ m := Int.ediv_le_self n h
  have h5 : 0 ≤ m / n := Int.ediv_nonneg h (by omega)
  exact wr_i64 (by omega) (by omega)
theorem wq_u64 (h : 0 ≤ m) (h2 : 0 < n) (h3 : m ≤ 18446744073709551615) : IntKind.u64.wrap (m.tdiv n) = m / n := by
  rw [Int.tdiv_eq_ediv_of_nonneg h]
  have h4 : m / n ≤ m := Int.ediv_le_self n h
  have h5 : 0 ≤ m / n := Int.ediv_nonneg h (by omega)
  exact wr_u64 (by omega) (by omega)
theorem wm_nn (h : 0 ≤ m) : m.tmod n = m % n := Int.tmod_eq_emod_of_nonneg h
theorem minR (h : n < m) : (if n < m then n else m) = n := if_pos h
theorem minL (h : m ≤ n) : (if n < m then n else m) = m := if_neg (by omega)
theorem maxR (h : m < n) : (if n > m then n else m) = n := if_pos h
theorem maxL (h : n ≤ m) : (if n > m then n else m) = m := if_neg (by omega)
end
section
variable {P : Program} {W0 w : World} {L L' S : List HP} {a : Act} {d : Option Tmp} {ty : TypeId} {pos : String} {aft : Array Edge} {gd : Option (Nat × Bool)} {x y z : Operand} {v : Value} {t u : TypeId} {k k' : IntKind} {m n r : Int} {b : Nat}

theorem sv_move (hx : a.eval x = v := by exact Ev.pf) : SV P W0 S ⟨d, .move x, ty, pos, aft, gd⟩ a v := ⟨fun w _ => by unfold execOp; simp [hx]⟩
theorem sv_assign (hx : a.eval x = v := by exact Ev.pf) : SV P W0 S ⟨d, .assign x, ty, pos, aft, gd⟩ a v := ⟨fun w _ => by unfold execOp; simp [hx]⟩
theorem sv_pickT (hc : a.eval x = .bool true := by exact Ev.pf) (hx : a.eval y = v := by exact Ev.pf) : SV P W0 S ⟨d, .pick x y z, ty, pos, aft, gd⟩ a v := ⟨fun w _ => by unfold execOp; simp [hc, hx, asBool]⟩
theorem sv_pickF (hc : a.eval x = .bool false := by exact Ev.pf) (hx : a.eval z = v := by exact Ev.pf) : SV P W0 S ⟨d, .pick x y z, ty, pos, aft, gd⟩ a v := ⟨fun w _ => by unfold execOp; simp [hc, hx, asBool]⟩
theorem sv_nilP {p : Addr} (hx : a.eval x = .pointer (some p) := by exact Ev.pf) : SV P W0 S ⟨d, .nilCheck x, ty, pos, aft, gd⟩ a (.pointer (some p)) := ⟨fun w _ => by unfold execOp; simp [hx]⟩
theorem sv_nilF {f : FuncId} {A B : Array Value} (hx : a.eval x = .func (.func f) A B := by exact Ev.pf) : SV P W0 S ⟨d, .nilCheck x, ty, pos, aft, gd⟩ a (.func (.func f) A B) := ⟨fun w _ => by unfold execOp; simp [hx]⟩
theorem sv_len {e : TypeId} [us : UL P t (.slice e)] {A : Option Addr} {n c : Nat} (hx : a.eval x = .slice A n c := by exact Ev.pf) : SV P W0 S ⟨d, .call { callee := .builtin .len, args := #[x], argTypes := #[t] }, ty, pos, aft, gd⟩ a (.int .i64 (n : Int)) := ⟨fun w _ => by
  unfold execOp
  simp [resolve, invoke, builtin, hx, Builtin.len_, run_underlying us.pf, goInt]⟩
theorem sv_lenS [us : UL P t .string] {s : ByteArray} (hx : a.eval x = .string s := by exact Ev.pf) : SV P W0 S ⟨d, .call { callee := .builtin .len, args := #[x], argTypes := #[t] }, ty, pos, aft, gd⟩ a (.int .i64 (s.size : Int)) := ⟨fun w _ => by
  unfold execOp
  simp [resolve, invoke, builtin, hx, Builtin.len_, run_underlying us.pf, goInt]⟩
theorem sv_min {ats : Array TypeId} (hx : a.eval x = .int k m := by exact Ev.pf) (hy : a.eval y = .int k' n := by exact Ev.pf) (hr : (if n < m then n else m) = r := by first | exact minL (by omega) | exact minR (by omega) | exact rfl) : SV P W0 S ⟨d, .call { callee := .builtin .min, args := #[x, y], argTypes := ats }, ty, pos, aft, gd⟩ a (.int k r) := ⟨fun w _ => by
  unfold execOp
  subst hr
  simp [resolve, invoke, builtin, hx, hy, Builtin.min_, Builtin.min2]⟩
theorem sv_max {ats : Array TypeId} (hx : a.eval x = .int k m := by exact Ev.pf) (hy : a.eval y = .int k' n := by exact Ev.pf) (hr : (if n > m then n else m) = r := by first | exact maxL (by omega) | exact maxR (by omega) | exact rfl) : SV P W0 S ⟨d, .call { callee := .builtin .max, args := #[x, y], argTypes := ats }, ty, pos, aft, gd⟩ a (.int k r) := ⟨fun w _ => by
  unfold execOp
  subst hr
  simp [resolve, invoke, builtin, hx, hy, Builtin.max_, Builtin.max2]⟩

/-! ### integers -/
section
theorem sv_add (hx : a.eval x = .int k m := by exact Ev.pf) (hy : a.eval y = .int k n := by exact Ev.pf) (hr : k.wrap (m + n) = r := by first | exact wr_i64 (by omega) (by omega) | exact wr_u64 (by omega) (by omega) | exact wr_u8 (by omega) (by omega) | exact rfl) : SV P W0 S ⟨d, .binOp .add t x y u, ty, pos, aft, gd⟩ a (.int k r) := ⟨fun w _ => by
  subst hr; unfold execOp; simp [hx, hy, eqGuard, binOp, Op.intArith]⟩
theorem sv_sub (hx : a.eval x = .int k m := by exact Ev.pf) (hy : a.eval y = .int k n := by exact Ev.pf) (hr : k.wrap (m - n) = r := by first | exact wr_i64 (by omega) (by omega) | exact wr_u64 (by omega) (by omega) | exact wr_u8 (by omega) (by omega) | exact rfl) : SV P W0 S ⟨d, .binOp .sub t x y u, ty, pos, aft, gd⟩ a (.int k r) := ⟨fun w _ => by
  subst hr; unfold execOp; simp [hx, hy, eqGuard, binOp, Op.intArith]⟩
theorem sv_mul (hx : a.eval x = .int k m := by exact Ev.pf) (hy : a.eval y = .int k n := by exact Ev.pf) (hr : k.wrap (m * n) = r := by first | exact wr_i64 (by omega) (by omega) | exact wr_u64 (by omega) (by omega) | exact wr_u8 (by omega) (by omega) | exact rfl) : SV P W0 S ⟨d, .binOp .mul t x y u, ty, pos, aft, gd⟩ a (.int k r) := ⟨fun w _ => by
  subst hr; unfold execOp; simp [hx, hy, eqGuard, binOp, Op.intArith]⟩
theorem sv_quo (hx : a.eval x = .int k m := by exact Ev.pf) (hy : a.eval y = .int k n := by exact Ev.pf) (h0 : n ≠ 0 := by first | omega | decide) (hr : k.wrap (m.tdiv n) = r := by first | exact wq_i64 (by omega) (by omega) (by omega) | exact wq_u64 (by omega) (by omega) (by omega) | exact rfl) : SV P W0 S ⟨d, .binOp .quo t x y u, ty, pos, aft, gd⟩ a (.int k r) := ⟨fun w _ => by
  subst hr; unfold execOp; simp [hx, hy, eqGuard, binOp, Op.intDiv, h0]⟩
theorem sv_rem (hx : a.eval x = .int k m := by exact Ev.pf) (hy : a.eval y = .int k n := by exact Ev.pf) (h0 : n ≠ 0 := by first | omega | decide) (hr : m.tmod n = r := by first | exact wm_nn (by omega) | exact rfl) : SV P W0 S ⟨d, .binOp .rem t x y u, ty, pos, aft, gd⟩ a (.int k r) := ⟨fun w _ => by
  subst hr; unfold execOp; simp [hx, hy, eqGuard, binOp, Op.intDiv, h0]⟩
theorem sv_shl (hx : a.eval x = .int k m := by exact Ev.pf) (hy : a.eval y = .int k' n := by exact Ev.pf) (h0 : 0 ≤ n := by first | omega | decide) (h1 : n ≤ k.bits := by first | (change _ ≤ ((64 : Nat) : Int); omega) | (change _ ≤ ((8 : Nat) : Int); omega) | (change _ ≤ ((32 : Nat) : Int); omega)) (hr : k.wrap (m * 2 ^ n.toNat) = r := by exact rfl) : SV P W0 S ⟨d, .binOp .shl t x y u, ty, pos, aft, gd⟩ a (.int k r) := ⟨fun w _ => by
  subst hr; unfold execOp; simp [hx, hy, eqGuard, binOp, shift_shl k k' m n h0 h1]⟩
theorem sv_shr (hx : a.eval x = .int k m := by exact Ev.pf) (hy : a.eval y = .int k' n := by exact Ev.pf) (h0 : 0 ≤ n := by first | omega | decide) (h1 : n ≤ k.bits := by first | (change _ ≤ ((64 : Nat) : Int); omega) | (change _ ≤ ((8 : Nat) : Int); omega) | (change _ ≤ ((32 : Nat) : Int); omega)) (hr : m / 2 ^ n.toNat = r := by exact rfl) : SV P W0 S ⟨d, .binOp .shr t x y u, ty, pos, aft, gd⟩ a (.int k r) := ⟨fun w _ => by
  subst hr; unfold execOp; simp [hx, hy, eqGuard, binOp, shift_shr k k' m n h0 h1]⟩
theorem sv_and (hx : a.eval x = .int k m := by exact Ev.pf) (hy : a.eval y = .int k n := by exact Ev.pf) (hr : bits .and k m n = r := by exact rfl) : SV P W0 S ⟨d, .binOp .and t x y u, ty, pos, aft, gd⟩ a (.int k r) := ⟨fun w _ => by
  subst hr; unfold execOp; simp [hx, hy, eqGuard, binOp, intBits_and]⟩
theorem sv_or (hx : a.eval x = .int k m := by exact Ev.pf) (hy : a.eval y = .int k n := by exact Ev.pf) (hr : bits .or k m n = r := by exact rfl) : SV P W0 S ⟨d, .binOp .or t x y u, ty, pos, aft, gd⟩ a (.int k r) := ⟨fun w _ => by
  subst hr; unfold execOp; simp [hx, hy, eqGuard, binOp, intBits_or]⟩
theorem sv_xor (hx : a.eval x = .int k m := by exact Ev.pf) (hy : a.eval y = .int k n := by exact Ev.pf) (hr : bits .xor k m n = r := by exact rfl) : SV P W0 S ⟨d, .binOp .xor t x y u, ty, pos, aft, gd⟩ a (.int k r) := ⟨fun w _ => by
  subst hr; unfold execOp; simp [hx, hy, eqGuard, binOp, intBits_xor]⟩
theorem sv_andNot (hx : a.eval x = .int k m := by exact Ev.pf) (hy : a.eval y = .int k n := by exact Ev.pf) (hr : bits .andNot k m n = r := by exact rfl) : SV P W0 S ⟨d, .binOp .andNot t x y u, ty, pos, aft, gd⟩ a (.int k r) := ⟨fun w _ => by
  subst hr; unfold execOp; simp [hx, hy, eqGuard, binOp, intBits_andNot]⟩
theorem sv_neg (hx : a.eval x = .int k m := by exact Ev.pf) (hr : k.wrap (-m) = r := by first | exact wr_i64 (by omega) (by omega) | exact wr_u64 (by omega) (by omega) | exact wr_u8 (by omega) (by omega) | exact rfl) : SV P W0 S ⟨d, .unOp .neg t x, ty, pos, aft, gd⟩ a (.int k r) := ⟨fun w _ => by
  subst hr; unfold execOp; simp [hx, Op.unary, Op.intArith]⟩
theorem sv_conv {ds : TypeDesc} [us : UL P u ds] [ut : UL P t (.int k')] (hx : a.eval x = .int k m := by exact Ev.pf) (hr : k'.wrap m = r := by first | exact wr_i64 (by omega) (by omega) | exact wr_u64 (by omega) (by omega) | exact wr_u8 (by omega) (by omega) | exact rfl) : SV P W0 S ⟨d, .convert u t x, ty, pos, aft, gd⟩ a (.int k' r) := ⟨fun w _ => by
  subst hr; unfold execOp
  simp only [hx, convert, Sem.run_bind, run_underlying us.pf, run_underlying ut.pf, Result.andThen_ok]
  rfl⟩
/-! ### tests -/
theorem sv_ltT (hx : a.eval x = .int k m := by exact Ev.pf) (hy : a.eval y = .int k n := by exact Ev.pf) (h : m < n := by omega) : SV P W0 S ⟨d, .binOp .lss t x y u, ty, pos, aft, gd⟩ a (.bool true) := ⟨fun w _ => by
  unfold execOp; simp [hx, hy, eqGuard, binOp, Op.intCmp, h]⟩
theorem sv_ltF (hx : a.eval x = .int k m := by exact Ev.pf) (hy : a.eval y = .int k n := by exact Ev.pf) (h : ¬ m < n := by omega) : SV P W0 S ⟨d, .binOp .lss t x y u, ty, pos, aft, gd⟩ a (.bool false) := ⟨fun w _ => by
  unfold execOp; simp [hx, hy, eqGuard, binOp, Op.intCmp]; omega⟩
theorem sv_leT (hx : a.eval x = .int k m := by exact Ev.pf) (hy : a.eval y = .int k n := by exact Ev.pf) (h : m ≤ n := by omega) : SV P W0 S ⟨d, .binOp .leq t x y u, ty, pos, aft, gd⟩ a (.bool true) := ⟨fun w _ => by
  unfold execOp; simp [hx, hy, eqGuard, binOp, Op.intCmp, h]⟩
theorem sv_leF (hx : a.eval x = .int k m := by exact Ev.pf) (hy : a.eval y = .int k n := by exact Ev.pf) (h : ¬ m ≤ n := by omega) : SV P W0 S ⟨d, .binOp .leq t x y u, ty, pos, aft, gd⟩ a (.bool false) := ⟨fun w _ => by
  unfold execOp; simp [hx, hy, eqGuard, binOp, Op.intCmp]; omega⟩
theorem sv_gtT (hx : a.eval x = .int k m := by exact Ev.pf) (hy : a.eval y = .int k n := by exact Ev.pf) (h : n < m := by omega) : SV P W0 S ⟨d, .binOp .gtr t x y u, ty, pos, aft, gd⟩ a (.bool true) := ⟨fun w _ => by
  unfold execOp; simp [hx, hy, eqGuard, binOp, Op.intCmp, h]⟩
theorem sv_gtF (hx : a.eval x = .int k m := by exact Ev.pf) (hy : a.eval y = .int k n := by exact Ev.pf) (h : ¬ n < m := by omega) : SV P W0 S ⟨d, .binOp .gtr t x y u, ty, pos, aft, gd⟩ a (.bool false) := ⟨fun w _ => by
  unfold execOp; simp [hx, hy, eqGuard, binOp, Op.intCmp]; omega⟩
theorem sv_geT (hx : a.eval x = .int k m := by exact Ev.pf) (hy : a.eval y = .int k n := by exact Ev.pf) (h : n ≤ m := by omega) : SV P W0 S ⟨d, .binOp .geq t x y u, ty, pos, aft, gd⟩ a (.bool true) := ⟨fun w _ => by
  unfold execOp; simp [hx, hy, eqGuard, binOp, Op.intCmp, h]⟩
theorem sv_geF (hx : a.eval x = .int k m := by exact Ev.pf) (hy : a.eval y = .int k n := by exact Ev.pf) (h : ¬ n ≤ m := by omega) : SV P W0 S ⟨d, .binOp .geq t x y u, ty, pos, aft, gd⟩ a (.bool false) := ⟨fun w _ => by
  unfold execOp; simp [hx, hy, eqGuard, binOp, Op.intCmp]; omega⟩
theorem sv_eqT (hx : a.eval x = .int k m := by exact Ev.pf) (hy : a.eval y = .int k n := by exact Ev.pf) (h : m = n := by omega) : SV P W0 S ⟨d, .binOp .eql t x y u, ty, pos, aft, gd⟩ a (.bool true) := ⟨fun w _ => by
  unfold execOp; simp [hx, hy, eqGuard, binOp, Op.intCmp, h]⟩
theorem sv_eqF (hx : a.eval x = .int k m := by exact Ev.pf) (hy : a.eval y = .int k n := by exact Ev.pf) (h : ¬ m = n := by omega) : SV P W0 S ⟨d, .binOp .eql t x y u, ty, pos, aft, gd⟩ a (.bool false) := ⟨fun w _ => by
  unfold execOp; simp [hx, hy, eqGuard, binOp, Op.intCmp, h]⟩
theorem sv_neT (hx : a.eval x = .int k m := by exact Ev.pf) (hy : a.eval y = .int k n := by exact Ev.pf) (h : ¬ m = n := by omega) : SV P W0 S ⟨d, .binOp .neq t x y u, ty, pos, aft, gd⟩ a (.bool true) := ⟨fun w _ => by
  unfold execOp; simp [hx, hy, eqGuard, binOp, Op.intCmp, h]⟩
theorem sv_neF (hx : a.eval x = .int k m := by exact Ev.pf) (hy : a.eval y = .int k n := by exact Ev.pf) (h : m = n := by omega) : SV P W0 S ⟨d, .binOp .neq t x y u, ty, pos, aft, gd⟩ a (.bool false) := ⟨fun w _ => by
  unfold execOp; simp [hx, hy, eqGuard, binOp, Op.intCmp, h]⟩
theorem sv_eqB {q : Bool} (hx : a.eval x = .int k m := by exact Ev.pf) (hy : a.eval y = .int k n := by exact Ev.pf) (h : (m == n) = q) : SV P W0 S ⟨d, .binOp .eql t x y u, ty, pos, aft, gd⟩ a (.bool q) := ⟨fun w _ => by
  subst h; unfold execOp; simp [hx, hy, eqGuard, binOp, Op.intCmp]⟩
theorem sv_neB {q : Bool} (hx : a.eval x = .int k m := by exact Ev.pf) (hy : a.eval y = .int k n := by exact Ev.pf) (h : (m != n) = q) : SV P W0 S ⟨d, .binOp .neq t x y u, ty, pos, aft, gd⟩ a (.bool q) := ⟨fun w _ => by
  subst h; unfold execOp; simp [hx, hy, eqGuard, binOp, Op.intCmp]⟩
end
theorem equalIn_bool (N : Nat) [ut : UL P t .bool] (p q : Bool) : (Op.equalIn (N + 1) t (.bool p) (.bool q)).run P w = .ok (p == q) w := by
  unfold Op.equalIn; simp only [Sem.run_bind, run_underlying ut.pf, Result.andThen_ok, Sem.run_pure]
theorem equalIn_ptr (N : Nat) {e : TypeId} [ut : UL P t (.pointer e)] (p q : Option Addr) (hn : q = none ∨ p = none) : (Op.equalIn (N + 1) t (.pointer p) (.pointer q)).run P w = .ok (p.isNone && q.isNone) w := by
  unfold Op.equalIn; simp only [Sem.run_bind, run_underlying ut.pf, Result.andThen_ok, Sem.run_pure]
  rcases hn with rfl | rfl
  · cases p <;> simp
  · cases q <;> simp
theorem equalIn_sl (N : Nat) {e : TypeId} [ut : UL P t (.slice e)] (p : Option Addr) (n c n' c' : Nat) : (Op.equalIn (N + 1) t (.slice p n c) (.slice none n' c')).run P w = .ok p.isNone w := by
  unfold Op.equalIn; simp only [Sem.run_bind, run_underlying ut.pf, Result.andThen_ok, Sem.run_pure]
  cases p <;> simp
theorem eql_run {A B : Value} {q : Bool} (h : (Op.equal t A B).run P w = .ok q w) (hb : binOp .eql t A B = (do pure (.bool (← Op.equal t A B)))) : (binOp .eql t A B).run P w = .ok (.bool q) w := by
  rw [hb]; simp only [Sem.run_bind, h, Result.andThen_ok, Sem.run_pure]
theorem neq_run {A B : Value} {q : Bool} (h : (Op.equal t A B).run P w = .ok q w) (hb : binOp .neq t A B = (do pure (.bool (!(← Op.equal t A B))))) : (binOp .neq t A B).run P w = .ok (.bool !q) w := by
  rw [hb]; simp only [Sem.run_bind, h, Result.andThen_ok, Sem.run_pure]
theorem sv_cmp {op : BinOp} {A B : Value} (hx : a.eval x = A := by exact Ev.pf) (hy : a.eval y = B := by exact Ev.pf) (hg : ∀ w, (eqGuard op t x y A B).run P w = .ok () w) (h : ∀ w, (binOp op t A B).run P w = .ok v w) : SV P W0 S ⟨d, .binOp op t x y u, ty, pos, aft, gd⟩ a v := ⟨fun w _ => by
  unfold execOp; simp only [hx, hy, Sem.run_bind, hg w, h w, Result.andThen_ok, Sem.run_pure]⟩
theorem sv_eqb {p q c : Bool} [ut : UL P t .bool] (hx : a.eval x = .bool p := by exact Ev.pf) (hy : a.eval y = .bool q := by exact Ev.pf) (h : (p == q) = c := by (try simp only [Bool.not_true, Bool.not_false, beq_self_eq_true, Bool.true_beq, Bool.false_beq, Bool.beq_true, Bool.beq_false, Option.isNone_some, Option.isNone_none, Bool.and_true, Bool.and_false, Bool.true_and, Bool.false_and]) <;> exact rfl) : SV P W0 S ⟨d, .binOp .eql t x y u, ty, pos, aft, gd⟩ a (.bool c) :=
  sv_cmp hx hy (fun _ => rfl) fun w => by subst h; exact eql_run (equalIn_bool 9999 p q) rfl
theorem sv_neb {p q c : Bool} [ut : UL P t .bool] (hx : a.eval x = .bool p := by exact Ev.pf) (hy : a.eval y = .bool q := by exact Ev.pf) (h : (!(p == q)) = c := by (try simp only [Bool.not_true, Bool.not_false, beq_self_eq_true, Bool.true_beq, Bool.false_beq, Bool.beq_true, Bool.beq_false, Option.isNone_some, Option.isNone_none, Bool.and_true, Bool.and_false, Bool.true_and, Bool.false_and]) <;> exact rfl) : SV P W0 S ⟨d, .binOp .neq t x y u, ty, pos, aft, gd⟩ a (.bool c) :=
  sv_cmp hx hy (fun _ => rfl) fun w => by subst h; exact neq_run (equalIn_bool 9999 p q) rfl
theorem sv_eqs {p q : ByteArray} {c : Bool} (hx : a.eval x = .string p := by exact Ev.pf) (hy : a.eval y = .string q := by exact Ev.pf) (h : (p.toList == q.toList) = c) : SV P W0 S ⟨d, .binOp .eql t x y u, ty, pos, aft, gd⟩ a (.bool c) := ⟨fun w _ => by
  subst h; unfold execOp; simp [hx, hy, eqGuard, binOp, Op.stringOp]⟩
theorem sv_nes {p q : ByteArray} {c : Bool} (hx : a.eval x = .string p := by exact Ev.pf) (hy : a.eval y = .string q := by exact Ev.pf) (h : (!(p.toList == q.toList)) = c) : SV P W0 S ⟨d, .binOp .neq t x y u, ty, pos, aft, gd⟩ a (.bool c) := ⟨fun w _ => by
  subst h; unfold execOp; simp [hx, hy, eqGuard, binOp, Op.stringOp]⟩
theorem sv_cat {p q : ByteArray} (hx : a.eval x = .string p := by exact Ev.pf) (hy : a.eval y = .string q := by exact Ev.pf) (h : p.size + q.size ≤ 9223372036854775807 := by omega) : SV P W0 S ⟨d, .binOp .add t x y u, ty, pos, aft, gd⟩ a (.string (p ++ q)) := ⟨fun w _ => by
  unfold execOp
  have : ¬ (((p.size + q.size : Nat) : Int) > IntKind.i64.max) := by simp [IntKind.max, IntKind.bits, IntKind.signed]; omega
  simp only [hx, hy, eqGuard, binOp, Op.stringOp, if_neg this]
  rfl⟩
theorem sv_pnE {e : TypeId} [ut : UL P t (.pointer e)] {p q : Option Addr} {c : Bool} (hx : a.eval x = .pointer p := by exact Ev.pf) (hy : a.eval y = .pointer q := by exact Ev.pf) (hn : q = none ∨ p = none := by first | exact .inl rfl | exact .inr rfl) (h : (p.isNone && q.isNone) = c := by (try simp only [Bool.not_true, Bool.not_false, beq_self_eq_true, Bool.true_beq, Bool.false_beq, Bool.beq_true, Bool.beq_false, Option.isNone_some, Option.isNone_none, Bool.and_true, Bool.and_false, Bool.true_and, Bool.false_and]) <;> exact rfl) : SV P W0 S ⟨d, .binOp .eql t x y u, ty, pos, aft, gd⟩ a (.bool c) :=
  sv_cmp hx hy (fun _ => rfl) fun w => by subst h; exact eql_run (equalIn_ptr 9999 p q hn) rfl
theorem sv_pnN {e : TypeId} [ut : UL P t (.pointer e)] {p q : Option Addr} {c : Bool} (hx : a.eval x = .pointer p := by exact Ev.pf) (hy : a.eval y = .pointer q := by exact Ev.pf) (hn : q = none ∨ p = none := by first | exact .inl rfl | exact .inr rfl) (h : (!(p.isNone && q.isNone)) = c := by (try simp only [Bool.not_true, Bool.not_false, beq_self_eq_true, Bool.true_beq, Bool.false_beq, Bool.beq_true, Bool.beq_false, Option.isNone_some, Option.isNone_none, Bool.and_true, Bool.and_false, Bool.true_and, Bool.false_and]) <;> exact rfl) : SV P W0 S ⟨d, .binOp .neq t x y u, ty, pos, aft, gd⟩ a (.bool c) :=
  sv_cmp hx hy (fun _ => rfl) fun w => by subst h; exact neq_run (equalIn_ptr 9999 p q hn) rfl
theorem sv_slE {e : TypeId} [ut : UL P t (.slice e)] {p : Option Addr} {n c n' c' : Nat} {q : Bool} (hx : a.eval x = .slice p n c := by exact Ev.pf) (hy : a.eval y = .slice none n' c' := by exact Ev.pf) (h : p.isNone = q := by (try simp only [Bool.not_true, Bool.not_false, beq_self_eq_true, Bool.true_beq, Bool.false_beq, Bool.beq_true, Bool.beq_false, Option.isNone_some, Option.isNone_none, Bool.and_true, Bool.and_false, Bool.true_and, Bool.false_and]) <;> exact rfl) : SV P W0 S ⟨d, .binOp .eql t x y u, ty, pos, aft, gd⟩ a (.bool q) :=
  sv_cmp hx hy (fun _ => rfl) fun w => by subst h; exact eql_run (equalIn_sl 9999 p n c n' c') rfl
theorem sv_not {p q : Bool} (hx : a.eval x = .bool p := by exact Ev.pf) (h : (!p) = q := by (try simp only [Bool.not_true, Bool.not_false, beq_self_eq_true, Bool.true_beq, Bool.false_beq, Bool.beq_true, Bool.beq_false, Option.isNone_some, Option.isNone_none, Bool.and_true, Bool.and_false, Bool.true_and, Bool.false_and]) <;> exact rfl) : SV P W0 S ⟨d, .unOp .not t x, ty, pos, aft, gd⟩ a (.bool q) := ⟨fun w _ => by
  subst h; unfold execOp; simp [hx, Op.unary]⟩
theorem sv_ext {vs : Array Value} {i : Nat} (hx : a.eval x = .tuple vs := by exact Ev.pf) (hv : vs[i]? = some v := by exact rfl) : SV P W0 S ⟨d, .extract x i, ty, pos, aft, gd⟩ a v := ⟨fun w _ => by
  unfold execOp; simp [hx, Instr.extract, hv]⟩
/-! ### memory -/
theorem sv_fa {i off ft sz by_ o : Nat} {zv : Value} [fd : FD P t i off ft] [ti : TI P ft zv sz by_] (hx : a.eval x = .pointer (some ⟨b, o, none⟩) := by exact Ev.pf) (h0 : 0 < sz := by decide) {o' : Nat} (ho : o + off = o' := by (try simp only [Nat.zero_add, Nat.add_zero, Nat.reduceAdd]) <;> exact rfl) : SV P W0 S ⟨d, .fieldAddr t x i, ty, pos, aft, gd⟩ a (.pointer (some ⟨b, o', none⟩)) := ⟨fun w _ => by
  subst ho
  obtain ⟨fs, f, hu, hf, rfl, rfl⟩ := fd.pf
  have hne : ¬ sz = 0 := by omega
  unfold execOp
  simp [hx, Instr.fieldAt, run_underlying hu, hf, Instr.sureAddr, fieldPlace, sizeOf_run (P := P) (t := f.type), hne, add0]⟩
theorem sv_load {T : TypeId} [AG P t false] {o : Nat} {cs : List Value} (hx : a.eval x = .pointer (some ⟨b, o, none⟩) := by exact Ev.pf) (hm : cel b cs T ∈ S := by exact InC.pf) (hv : cs[o]? = some v := by exact GA.pf) : SV P W0 S ⟨d, .load t x, ty, pos, aft, gd⟩ a v := ⟨fun w hS => by
  unfold execOp; simp [hx, load_run (P := P) (t := t) (hS.cellAt hm hv)]⟩
theorem sv_loadA {T : TypeId} {zv : Value} {s by_ : Nat} [AG P t true] [TI P t zv s by_] {o : Nat} {cs vs : List Value} (hx : a.eval x = .pointer (some ⟨b, o, none⟩) := by exact Ev.pf) (hm : cel b cs T ∈ S := by exact InC.pf) (hl : o + s ≤ cs.length) (hv : (cs.drop o).take s = vs) : SV P W0 S ⟨d, .load t x, ty, pos, aft, gd⟩ a (.agg vs.toArray) := ⟨fun w hS => by
  subst hv
  have := loadAgg_run (P := P) (w := w) (t := t) (p := ⟨b, o, none⟩) (cs := (cs.drop o).take s) (by simp; omega) (fun j v hj => by
    rw [add0]
    refine hS.cellAt hm ?_
    rw [List.getElem?_take] at hj
    split at hj
    · simpa using hj
    · cases hj)
  unfold execOp
  simp [hx, this]⟩
/-- the address of an element (its index, its size, an offset within it) -/
def elp (A : Option Addr) (j s o : Nat) : Value := .pointer (A.map fun p => (p.add (j * s)).add o)
theorem sv_idx {e : TypeId} {zv : Value} {s by_ j n c : Nat} {A : Option Addr} {α : Type} {R : Enc α} {l : List α} {i : Int} [ut : UL P t (.slice e)] [ti : TI P e zv s by_] (hx : a.eval x = .slice A n c := by exact Ev.pf) (hi : a.eval y = .int k i := by exact Ev.pf)
    (hs : ∀ w, St W0 w S → Sl (Hp.of w) R (.slice A n c) l := by exact (Sc.pf).all) (h0 : 0 ≤ i := by first | omega | decide) (h1 : i < n := by first | omega | decide) (hj : i.toNat = j := by first | exact Int.toNat_natCast _ | exact rfl) : SV P W0 S ⟨d, .indexAddr t x y, ty, pos, aft, gd⟩ a (elp A j s 0) := ⟨fun w hS => by
  subst hj
  have hr := hs w hS
  have hlen := hr.len_
  obtain ⟨b, off, cs, T, fr, cc, hA, hb, hc, hcell⟩ := hr.at_ (List.getElem?_eq_getElem (show i.toNat < l.length by omega))
  subst hA
  unfold execOp
  simp [hx, hi, indexAt_run (P := P) (t := t) (e := e) (s := s) h0 (by omega : i < n), elp, Addr.add]⟩
theorem sv_loadE {j n c : Nat} {A : Option Addr} {α : Type} {f : α → Value} {hf : ∀ a, (f a).oneCell' = true} {l : List α} {el : α} [AG P t false] (hx : a.eval x = elp A j 1 0 := by exact Ev.pf)
    (hs : ∀ w, St W0 w S → Sl (Hp.of w) (e1 f hf) (.slice A n c) l := by exact (ScA.pf).all) (hl : l[j]? = some el := by assumption) : SV P W0 S ⟨d, .load t x, ty, pos, aft, gd⟩ a (f el) := ⟨fun w hS => by
  obtain ⟨b, off, el', hx', hc, hA⟩ := (hs w hS).cell1 (List.getElem?_eq_some_iff.1 hl).1
  rw [hl] at hx'
  injection hx' with hx'
  subst hx'; subst hA
  have e : a.eval x = .pointer (some ⟨b, off + j, none⟩) := by rw [hx]; simp [elp, add0, Addr.add]
  unfold execOp; simp [e, load_run (P := P) (t := t) hc]⟩
/-- a field of an element of several cells -/
theorem sv_loadF {s j o n c : Nat} {A : Option Addr} {α : Type} {R : Enc α} {l : List α} {el : α} [AG P t false] (hx : a.eval x = elp A j s o := by exact Ev.pf)
    (hs : ∀ w, St W0 w S → Sl (Hp.of w) R (.slice A n c) l := by exact (ScA.pf).all) (hR : R.sz = s) (hl : l[j]? = some el := by assumption) (hv : ∀ w, St W0 w S → ∀ cs, R.r (Hp.of w) el cs → cs[o]? = some v) : SV P W0 S ⟨d, .load t x, ty, pos, aft, gd⟩ a v := ⟨fun w hS => by
  obtain ⟨b, off, cs, T, fr, cc, hA, hb, hc, hcell⟩ := (hs w hS).at_ hl
  subst hA; subst hR
  have h1 := hcell o v (hv w hS cc hc)
  have hb' : w.heap[b]? = some (.cells cs T fr) := hb
  have e : a.eval x = .pointer (some ⟨b, off + j * R.sz + o, none⟩) := by rw [hx]; simp [elp, add0]
  have hc' : w.cell? ⟨b, off + j * R.sz + o, none⟩ = some v := by simp [World.cell?, hb', h1]
  unfold execOp; simp [e, load_run (P := P) (t := t) hc']⟩
/-- a whole element of several cells -/
theorem sv_loadEA {zv : Value} {s by_ j n c : Nat} {A : Option Addr} {α : Type} {R : Enc α} {l : List α} {el : α} {vs : List Value} [AG P t true] [TI P t zv s by_] (hx : a.eval x = elp A j s 0 := by exact Ev.pf)
    (hs : ∀ w, St W0 w S → Sl (Hp.of w) R (.slice A n c) l := by exact (ScA.pf).all) (hR : R.sz = s) (hl : l[j]? = some el := by assumption) (hv : ∀ w, St W0 w S → ∀ cs, R.r (Hp.of w) el cs → cs = vs) : SV P W0 S ⟨d, .load t x, ty, pos, aft, gd⟩ a (.agg vs.toArray) := ⟨fun w hS => by
  obtain ⟨b, off, cs, T, fr, cc, hA, hb, hc, hcell⟩ := (hs w hS).at_ hl
  subst hA; subst hR
  have hcv := hv w hS cc hc
  subst hcv
  have hb' : w.heap[b]? = some (.cells cs T fr) := hb
  have e : a.eval x = .pointer (some ⟨b, off + j * R.sz, none⟩) := by rw [hx]; simp [elp, add0]
  have := loadAgg_run (P := P) (w := w) (t := t) (p := ⟨b, off + j * R.sz, none⟩) (cs := cc) (R.len hc) (fun i v hi => by
    rw [add0]
    have := hcell i v hi
    simp [World.cell?, hb', this])
  unfold execOp; simp [e, this]⟩
theorem sv_faE {i off ft sz by_ j s o : Nat} {A : Option Addr} {zv : Value} [fd : FD P t i off ft] [ti : TI P ft zv sz by_] (hx : a.eval x = elp (some (⟨b, o, none⟩ : Addr)) j s 0 := by exact Ev.pf) (h0 : 0 < sz := by decide) : SV P W0 S ⟨d, .fieldAddr t x i, ty, pos, aft, gd⟩ a (elp (some (⟨b, o, none⟩ : Addr)) j s off) := ⟨fun w _ => by
  obtain ⟨fs, f, hu, hf, rfl, rfl⟩ := fd.pf
  have hne : ¬ sz = 0 := by omega
  unfold execOp
  simp [hx, elp, Instr.fieldAt, run_underlying hu, hf, Instr.sureAddr, fieldPlace, sizeOf_run (P := P) (t := f.type), hne, add0]⟩
theorem sv_faE' {i off ft sz by_ j s n c : Nat} {A : Option Addr} {zv : Value} {α : Type} {R : Enc α} {l : List α} [fd : FD P t i off ft] [ti : TI P ft zv sz by_] (hx : a.eval x = elp A j s 0 := by exact Ev.pf) (h0 : 0 < sz := by decide)
    (hs : ∀ w, St W0 w S → Sl (Hp.of w) R (.slice A n c) l := by exact (ScA.pf).all) (hj : j < l.length) : SV P W0 S ⟨d, .fieldAddr t x i, ty, pos, aft, gd⟩ a (elp A j s off) := ⟨fun w hS => by
  obtain ⟨b, o, cs, T, fr, cc, hA, hb, hc, hcell⟩ := (hs w hS).at_ (List.getElem?_eq_getElem hj)
  subst hA
  exact (sv_faE (W0 := w) (S := []) (A := none) hx h0).run w (St.init w).nil_⟩
theorem sv_field {i off ft : Nat} {cs : Array Value} [fd : FD P t i off ft] [ag : AG P ft false] (hx : a.eval x = .agg cs := by exact Ev.pf) (hv : cs[off]? = some v := by exact rfl) : SV P W0 S ⟨d, .field t x i, ty, pos, aft, gd⟩ a v := ⟨fun w _ => by
  obtain ⟨fs, f, hu, hf, rfl, rfl⟩ := fd.pf
  obtain ⟨ds, hd, hdd⟩ := ag.pf
  unfold execOp
  simp [hx, Instr.field, run_underlying hu, hf, asAgg, part, isAgg_run hd, hdd, hv]⟩
theorem sv_fieldA {i off ft sz by_ : Nat} {zv : Value} {cs vs : Array Value} [fd : FD P t i off ft] [ag : AG P ft true] [ti : TI P ft zv sz by_] (hx : a.eval x = .agg cs := by exact Ev.pf) (hv : cs.extract off (off + sz) = vs) : SV P W0 S ⟨d, .field t x i, ty, pos, aft, gd⟩ a (.agg vs) := ⟨fun w _ => by
  subst hv
  obtain ⟨fs, f, hu, hf, rfl, rfl⟩ := fd.pf
  obtain ⟨ds, hd, hdd⟩ := ag.pf
  unfold execOp
  simp [hx, Instr.field, run_underlying hu, hf, asAgg, part, isAgg_run hd, hdd, sizeOf_run (P := P) (t := f.type)]⟩
theorem sv_sidx {s : ByteArray} {i : Int} {c : UInt8} [ut : UL P t .string] (hx : a.eval x = .string s := by exact Ev.pf) (hi : a.eval y = .int k i := by exact Ev.pf) (h0 : 0 ≤ i := by first | omega | decide) (hc : s.data.toList[i.toNat]? = some c) : SV P W0 S ⟨d, .index t x y, ty, pos, aft, gd⟩ a (bv c) := ⟨fun w _ => by
  have hc2 : s[i.toNat]? = some c := by
    rw [← hc]
    simp only [Array.getElem?_toList]
    rfl
  unfold execOp
  simp [hx, hi, Instr.index, asIntOf, run_underlying ut.pf, h0, hc2]⟩
theorem sv_str {e : TypeId} {vv : Value} {l : List UInt8} [us : UL P t .string] [u' : UL P u (.slice e)] [ub : UL P e (.int .u8)] (hx : a.eval x = vv := by exact Ev.pf) (hs : ∀ w, St W0 w S → Sl (Hp.of w) eB vv l := by exact (Sc.pf).all) : SV P W0 S ⟨d, .convert u t x, ty, pos, aft, gd⟩ a (.string ⟨l.toArray⟩) := ⟨fun w hS => by
  obtain ⟨A, c, css, rfl, hc, ha, hr⟩ := hs w hS
  unfold execOp
  simp only [hx, Sem.run_bind]
  rcases hr with h | ⟨b, off, cs, T, fr, hA, hb, hcs⟩
  · subst h
    have hz : (convert u t (.slice A 0 c)).run P w = .ok (.string ⟨#[]⟩) w := by
      rcases A with _ | ad
      · rw [run_convert_bytes_string w u t e none 0 c u'.pf ub.pf us.pf]; rfl
      · exact run_convert_bytes_back (P := P) w u t e ad c [] u'.pf ub.pf us.pf (fun j hj => by simp at hj)
    simp [hz]
  · subst hA
    rw [run_convert_bytes_back (P := P) w u t e ⟨b, off, none⟩ c l u'.pf ub.pf us.pf (fun j hj => ?_)]
    · rfl
    · have ha := all2_e1.1 ha
      subst ha
      rw [flat_one] at hcs
      have := hcs j (bv l[j]) (by simp [List.getElem?_eq_getElem hj])
      have hb' : w.heap[b]? = some (.cells cs T fr) := hb
      rw [add0]
      simp [World.cell?, hb', this]⟩
/-- s[lo:hi]: the value alone; what it reads as: Sl.cut -/
def cutA (A : Option Addr) (c lo s : Nat) : Option Addr := if c = lo then A else A.map (·.add (lo * s))
theorem sv_slice {e : TypeId} {zv : Value} {s by_ n c l' h' : Nat} {A : Option Addr} {lo hi : Option Operand} {l h : Int} [ut : UL P t (.slice e)] [ti : TI P e zv s by_] (hx : a.eval x = .slice A n c := by exact Ev.pf)
    (hl : (lo.map a.eval = none ∧ l = 0) ∨ ∃ k, lo.map a.eval = some (.int k l) := by first | exact .inl ⟨rfl, rfl⟩ | exact .inr ⟨_, congrArg some Ev.pf⟩) (hh : (hi.map a.eval = none ∧ h = n) ∨ ∃ k, hi.map a.eval = some (.int k h) := by first | exact .inl ⟨rfl, rfl⟩ | exact .inr ⟨_, congrArg some Ev.pf⟩) (h0 : 0 ≤ l := by first | omega | decide) (h1 : l ≤ h := by first | omega | decide) (h2 : h ≤ c := by first | omega | decide) (e1 : l.toNat = l' := by first | exact Int.toNat_natCast _ | exact rfl) (e2 : h.toNat - l.toNat = h' := by first | exact Int.toNat_natCast _ | exact rfl) : SV P W0 S ⟨d, .slice t x lo hi none, ty, pos, aft, gd⟩ a (.slice (cutA A c l' s) h' (c - l')) := ⟨fun w _ => by
  subst e1; subst e2
  unfold execOp
  simp [hx, sliceAt_run (P := P) (t := t) (e := e) hl hh h0 h1 h2, cutA]⟩
theorem Sl.cutA {α : Type} {m : Hp} {R : Enc α} {A : Option Addr} {n c lo k : Nat} {l : List α} (h : Sl m R (.slice A n c) l) (hlo : lo + k ≤ n) {s : Nat} (hs : R.sz = s) : Sl m R (.slice (cutA A c lo s) k (c - lo)) ((l.drop lo).take k) := by
  subst hs
  have hc := h.cap_
  have := h.cut (lo := lo) (hi := lo + k) (mx := c) (by omega) (by omega) (by omega)
  have e : lo + k - lo = k := by omega
  rw [e] at this
  have e2 : (l.take (lo + k)).drop lo = (l.drop lo).take k := by rw [List.drop_take]; congr 1
  rw [e2] at this
  exact this
/-! ### one value, looked up -/
class PosN (n : Nat) : Prop where
  pf : 0 < n
instance posS {n : Nat} : PosN (n + 1) := ⟨Nat.succ_pos n⟩
theorem GA.lt {l : List Value} {i : Nat} {v : Value} [h : GA l i v] : i < l.length := (List.getElem?_eq_some_iff.1 h.pf).1
class SVc (P : Program) (W0 : World) (S : List HP) (o : Oper) (a : Act) (v : outParam Value) : Prop where
  pf : SV P W0 S o a v
theorem svc {o : Oper} [h : SVc P W0 S o a v] : SV P W0 S o a v := h.pf
instance svc_move [h : Ev a x v] : SVc P W0 S ⟨d, .move x, ty, pos, aft, gd⟩ a v := ⟨sv_move h.pf⟩
instance svc_assign [h : Ev a x v] : SVc P W0 S ⟨d, .assign x, ty, pos, aft, gd⟩ a v := ⟨sv_assign h.pf⟩
instance svc_pickT [h : Ev a x (.bool true)] [h2 : Ev a y v] : SVc P W0 S ⟨d, .pick x y z, ty, pos, aft, gd⟩ a v := ⟨sv_pickT h.pf h2.pf⟩
instance svc_pickF [h : Ev a x (.bool false)] [h2 : Ev a z v] : SVc P W0 S ⟨d, .pick x y z, ty, pos, aft, gd⟩ a v := ⟨sv_pickF h.pf h2.pf⟩
instance svc_nilP {p : Addr} [h : Ev a x (.pointer (some p))] : SVc P W0 S ⟨d, .nilCheck x, ty, pos, aft, gd⟩ a (.pointer (some p)) := ⟨sv_nilP h.pf⟩
instance svc_nilF {f : FuncId} {A B : Array Value} [h : Ev a x (.func (.func f) A B)] : SVc P W0 S ⟨d, .nilCheck x, ty, pos, aft, gd⟩ a (.func (.func f) A B) := ⟨sv_nilF h.pf⟩
instance svc_len {e : TypeId} [us : UL P t (.slice e)] {A : Option Addr} {n c : Nat} [h : Ev a x (.slice A n c)] : SVc P W0 S ⟨d, .call { callee := .builtin .len, args := #[x], argTypes := #[t] }, ty, pos, aft, gd⟩ a (.int .i64 (n : Int)) := ⟨sv_len h.pf⟩
instance svc_lenS [us : UL P t .string] {s : ByteArray} [h : Ev a x (.string s)] : SVc P W0 S ⟨d, .call { callee := .builtin .len, args := #[x], argTypes := #[t] }, ty, pos, aft, gd⟩ a (.int .i64 (s.size : Int)) := ⟨sv_lenS h.pf⟩
instance svc_load {T : TypeId} [AG P t false] {o : Nat} {cs : List Value} [h : Ev a x (.pointer (some ⟨b, o, none⟩))] [h2 : InC b S cs T] [h3 : GA cs o v] : SVc P W0 S ⟨d, .load t x, ty, pos, aft, gd⟩ a v := ⟨sv_load h.pf h2.pf h3.pf⟩
class AddN (m n : Nat) (r : outParam Nat) : Prop where
  pf : m + n = r
instance (priority := low) addn {m n : Nat} : AddN m n (m + n) := ⟨rfl⟩
instance addn_r {m : Nat} : AddN m 0 m := ⟨rfl⟩
instance addn_l {n : Nat} : AddN 0 n n := ⟨Nat.zero_add n⟩
instance svc_fa {i off ft sz by_ o o' : Nat} {zv : Value} [fd : FD P t i off ft] [ti : TI P ft zv sz by_] [p0 : PosN sz] [h : Ev a x (.pointer (some ⟨b, o, none⟩))] [ha : AddN o off o'] : SVc P W0 S ⟨d, .fieldAddr t x i, ty, pos, aft, gd⟩ a (.pointer (some ⟨b, o', none⟩)) := ⟨sv_fa h.pf p0.pf ha.pf⟩
instance svc_ext {i : Nat} {l : List Value} [h : Ev a x (.tuple l.toArray)] [h2 : GA l i v] : SVc P W0 S ⟨d, .extract x i, ty, pos, aft, gd⟩ a v := ⟨sv_ext h.pf (by have := h2.pf; simpa using this)⟩
instance svc_field {i off ft : Nat} {l : List Value} [fd : FD P t i off ft] [ag : AG P ft false] [h : Ev a x (.agg l.toArray)] [h2 : GA l off v] : SVc P W0 S ⟨d, .field t x i, ty, pos, aft, gd⟩ a v := ⟨sv_field h.pf (by have := h2.pf; simpa using this)⟩
instance svc_peql_sn {e : TypeId} [ut : UL P t (.pointer e)] {p : Addr} [h : Ev a x (.pointer (some p))] [h2 : Ev a y (.pointer none)] : SVc P W0 S ⟨d, .binOp .eql t x y u, ty, pos, aft, gd⟩ a (.bool false) := ⟨sv_pnE h.pf h2.pf (.inl rfl) rfl⟩
instance svc_peql_nn {e : TypeId} [ut : UL P t (.pointer e)] [h : Ev a x (.pointer none)] [h2 : Ev a y (.pointer none)] : SVc P W0 S ⟨d, .binOp .eql t x y u, ty, pos, aft, gd⟩ a (.bool true) := ⟨sv_pnE h.pf h2.pf (.inl rfl) rfl⟩
instance svc_peql_ns {e : TypeId} [ut : UL P t (.pointer e)] {p : Addr} [h : Ev a x (.pointer none)] [h2 : Ev a y (.pointer (some p))] : SVc P W0 S ⟨d, .binOp .eql t x y u, ty, pos, aft, gd⟩ a (.bool false) := ⟨sv_pnE h.pf h2.pf (.inr rfl) rfl⟩
instance svc_pneq_sn {e : TypeId} [ut : UL P t (.pointer e)] {p : Addr} [h : Ev a x (.pointer (some p))] [h2 : Ev a y (.pointer none)] : SVc P W0 S ⟨d, .binOp .neq t x y u, ty, pos, aft, gd⟩ a (.bool true) := ⟨sv_pnN h.pf h2.pf (.inl rfl) rfl⟩
instance svc_pneq_nn {e : TypeId} [ut : UL P t (.pointer e)] [h : Ev a x (.pointer none)] [h2 : Ev a y (.pointer none)] : SVc P W0 S ⟨d, .binOp .neq t x y u, ty, pos, aft, gd⟩ a (.bool false) := ⟨sv_pnN h.pf h2.pf (.inl rfl) rfl⟩
instance svc_pneq_ns {e : TypeId} [ut : UL P t (.pointer e)] {p : Addr} [h : Ev a x (.pointer none)] [h2 : Ev a y (.pointer (some p))] : SVc P W0 S ⟨d, .binOp .neq t x y u, ty, pos, aft, gd⟩ a (.bool true) := ⟨sv_pnN h.pf h2.pf (.inr rfl) rfl⟩
instance svc_sl_s {e : TypeId} [ut : UL P t (.slice e)] {p : Addr} {n c n' c' : Nat} [h : Ev a x (.slice (some p) n c)] [h2 : Ev a y (.slice none n' c')] : SVc P W0 S ⟨d, .binOp .eql t x y u, ty, pos, aft, gd⟩ a (.bool false) := ⟨sv_slE h.pf h2.pf rfl⟩
instance svc_sl_n {e : TypeId} [ut : UL P t (.slice e)] {n c n' c' : Nat} [h : Ev a x (.slice none n c)] [h2 : Ev a y (.slice none n' c')] : SVc P W0 S ⟨d, .binOp .eql t x y u, ty, pos, aft, gd⟩ a (.bool true) := ⟨sv_slE h.pf h2.pf rfl⟩
instance svc_beql_tt [ut : UL P t .bool] [h : Ev a x (.bool true)] [h2 : Ev a y (.bool true)] : SVc P W0 S ⟨d, .binOp .eql t x y u, ty, pos, aft, gd⟩ a (.bool true) := ⟨sv_eqb h.pf h2.pf rfl⟩
instance svc_beql_tf [ut : UL P t .bool] [h : Ev a x (.bool true)] [h2 : Ev a y (.bool false)] : SVc P W0 S ⟨d, .binOp .eql t x y u, ty, pos, aft, gd⟩ a (.bool false) := ⟨sv_eqb h.pf h2.pf rfl⟩
instance svc_beql_ft [ut : UL P t .bool] [h : Ev a x (.bool false)] [h2 : Ev a y (.bool true)] : SVc P W0 S ⟨d, .binOp .eql t x y u, ty, pos, aft, gd⟩ a (.bool false) := ⟨sv_eqb h.pf h2.pf rfl⟩
instance svc_beql_ff [ut : UL P t .bool] [h : Ev a x (.bool false)] [h2 : Ev a y (.bool false)] : SVc P W0 S ⟨d, .binOp .eql t x y u, ty, pos, aft, gd⟩ a (.bool true) := ⟨sv_eqb h.pf h2.pf rfl⟩
instance svc_bneq_tt [ut : UL P t .bool] [h : Ev a x (.bool true)] [h2 : Ev a y (.bool true)] : SVc P W0 S ⟨d, .binOp .neq t x y u, ty, pos, aft, gd⟩ a (.bool false) := ⟨sv_neb h.pf h2.pf rfl⟩
instance svc_bneq_tf [ut : UL P t .bool] [h : Ev a x (.bool true)] [h2 : Ev a y (.bool false)] : SVc P W0 S ⟨d, .binOp .neq t x y u, ty, pos, aft, gd⟩ a (.bool true) := ⟨sv_neb h.pf h2.pf rfl⟩
instance svc_bneq_ft [ut : UL P t .bool] [h : Ev a x (.bool false)] [h2 : Ev a y (.bool true)] : SVc P W0 S ⟨d, .binOp .neq t x y u, ty, pos, aft, gd⟩ a (.bool true) := ⟨sv_neb h.pf h2.pf rfl⟩
instance svc_bneq_ff [ut : UL P t .bool] [h : Ev a x (.bool false)] [h2 : Ev a y (.bool false)] : SVc P W0 S ⟨d, .binOp .neq t x y u, ty, pos, aft, gd⟩ a (.bool false) := ⟨sv_neb h.pf h2.pf rfl⟩
instance svc_notT [h : Ev a x (.bool true)] : SVc P W0 S ⟨d, .unOp .not t x, ty, pos, aft, gd⟩ a (.bool false) := ⟨sv_not h.pf rfl⟩
instance svc_notF [h : Ev a x (.bool false)] : SVc P W0 S ⟨d, .unOp .not t x, ty, pos, aft, gd⟩ a (.bool true) := ⟨sv_not h.pf rfl⟩
section
variable {ops : Array Oper} {rest : List Oper} {o : Oper} {a' : Act} {Q : Exit → Act → World → Prop}
theorem O_s (h : SV P W0 L o a v) (k : OL P W0 L ops Q rest a') (hw : Region.wanted o (yielded ops a.tmps) = true := by rfl) (hp : a.put o.dst v = a' := by exact Put.pf) : OL P W0 L ops Q (o :: rest) a := O_sv hw h hp k
theorem O_o (k : OL P W0 L ops Q rest a') (hw : Region.wanted o (yielded ops a.tmps) = false := by rfl) (hp : a.put o.dst undef = a' := by exact Put.pf) : OL P W0 L ops Q (o :: rest) a := O_off hw hp k
theorem O_d {R : Act → List HP → Prop} (h : DY P W0 L o a R) (k : ∀ a' L', R a' L' → OL P W0 L' ops Q rest a') (hw : Region.wanted o (yielded ops a.tmps) = true := by rfl) : OL P W0 L ops Q (o :: rest) a := O_dy hw h k
theorem O_n (k : OL P W0 L' ops Q rest a') (h : a = a' := by exact Put.pf) (hL : L = L' := by first | exact SAt.pf | exact rfl) : OL P W0 L ops Q rest a := by subst h; subst hL; exact k
theorem D_s {n i : Nat} {l : List Oper} {br : Bool} {r : List (Nat × Nat)} (ho : l[i]? = some o) (h : SV P W0 S o a v) (k : DL P W0 S n l Q br r L a') (hw : Region.wanted o (yielded l.toArray a.tmps) = true := by rfl) (hp : a.put o.dst v = a' := by exact Put.pf) : DL P W0 S n l Q br ((i, 1) :: r) L a := D_sv ho hw h hp k
theorem D_p {n i m : Nat} {l : List Oper} {br : Bool} {r : List (Nat × Nat)} (ho : l[i]? = some o) (h : ∀ W0, SV P W0 [] o a v) (k : DL P W0 S n l Q br r L a') (hw : Region.wanted o (yielded l.toArray a.tmps) = true := by rfl) (hp : a.put o.dst v = a' := by exact Put.pf) : DL P W0 S n l Q br ((i, m + 2) :: r) L a := D_pu ho hw h hp k
theorem D_o1 {n i : Nat} {l : List Oper} {br : Bool} {r : List (Nat × Nat)} (ho : l[i]? = some o) (k : DL P W0 S n l Q br r L a') (hw : Region.wanted o (yielded l.toArray a.tmps) = false := by rfl) (hp : a.put o.dst undef = a' := by exact Put.pf) : DL P W0 S n l Q br ((i, 1) :: r) L a := D_off1 ho hw hp k
theorem D_o2 {n i m : Nat} {l : List Oper} {br : Bool} {r : List (Nat × Nat)} (ho : l[i]? = some o) (k : DL P W0 S n l Q br r L a') (hw : Region.wanted o (yielded l.toArray a.tmps) = false := by rfl) (hp : a.put o.dst undef = a' := by exact Put.pf) : DL P W0 S n l Q br ((i, m + 2) :: r) L a := D_off2 ho hw hp k
theorem D_o0 {n i : Nat} {l : List Oper} {br : Bool} {r : List (Nat × Nat)} (ho : l[i]? = some o) (hS : Sub L S) (k : DL P W0 S n l Q (br || i == n) r L a') (hw : Region.wanted o (yielded l.toArray a.tmps) = false := by rfl) (hp : a.put o.dst undef = a' := by exact Put.pf) : DL P W0 S n l Q br ((i, 0) :: r) L a := D_off0 ho hw hS hp k
theorem D_d {n i : Nat} {l : List Oper} {br br' : Bool} {r : List (Nat × Nat)} {R : Act → List HP → Prop} (ho : l[i]? = some o) (h : DY P W0 L o a R) (k : ∀ a' L', R a' L' → (br' = true ∨ Sub L' S) ∧ DL P W0 S n l Q br' r L' a') (hw : Region.wanted o (yielded l.toArray a.tmps) = true := by rfl) (hb : (br || i == n) = br' := by rfl) : DL P W0 S n l Q br ((i, 0) :: r) L a := D_dy ho hw h hb k
theorem D_n {n : Nat} {l : List Oper} {br : Bool} {r : List (Nat × Nat)} (k : DL P W0 S n l Q br r L' a') (h : a = a' := by exact Put.pf) (hL : L = L' := by first | exact SAt.pf | exact rfl) : DL P W0 S n l Q br r L a := by subst h; subst hL; exact ⟨k.run⟩
end
theorem sub_rdcut {α : Type} {R : Enc α} {A : Option Addr} {n c lo k s : Nat} {l : List α} (hm : rd R (.slice A n c) l ∈ L) (hlo : lo + k ≤ n) (hs : R.sz = s) : Sub L (rd R (.slice (cutA A c lo s) k (c - lo)) ((l.drop lo).take k) :: L) := fun m hp hs' => by
  obtain ⟨y, hy, hA⟩ := hs'.mem hm
  exact ⟨Hp.none, hp, Hp.none_dj _, Hp.none_le _, Hp.le_refl _, Sl.cutA hA hlo hs, hs'⟩
end
end Go.Proofs.Ytnjjifikogblpaa
