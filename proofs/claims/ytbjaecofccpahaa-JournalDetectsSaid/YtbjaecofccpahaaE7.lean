/-
  My own engine: tests of integers; exits that differ; drawn operations that read nothing.
-/
import Derived.Test.YtbjaecofccpahaaE6
namespace Go.Proofs.Ytbjaecofccpahaa
open Go Go.RowKit
set_option linter.unusedVariables false
set_option linter.unusedSimpArgs false
section
variable {P : Program} {W0 w : World} {L L' S : List HP} {ops : Array Oper} {rest : List Oper} {o : Oper} {a a' aT aF : Act} {Q : Exit → Act → World → Prop}
  {d : Option Tmp} {ty : TypeId} {pos : String} {aft : Array Edge} {gd : Option (Nat × Bool)} {x y z : Operand} {v : Value} {t u : TypeId} {k k' : IntKind} {m n r : Int} {b : Nat} {op : BinOp}
/-- a test of two integers -/
class CmpP (op : BinOp) (m n : Int) (p : outParam Prop) : Prop where
  tr : p → ∀ {P : Program} {W0 : World} {S : List HP} {a : Act} {d : Option Tmp} {ty : TypeId} {pos : String} {aft : Array Edge} {gd : Option (Nat × Bool)} {x y : Operand} {t u : TypeId} {k : IntKind}, a.eval x = .int k m → a.eval y = .int k n → SV P W0 S ⟨d, .binOp op t x y u, ty, pos, aft, gd⟩ a (.bool true)
  fl : ¬ p → ∀ {P : Program} {W0 : World} {S : List HP} {a : Act} {d : Option Tmp} {ty : TypeId} {pos : String} {aft : Array Edge} {gd : Option (Nat × Bool)} {x y : Operand} {t u : TypeId} {k : IntKind}, a.eval x = .int k m → a.eval y = .int k n → SV P W0 S ⟨d, .binOp op t x y u, ty, pos, aft, gd⟩ a (.bool false)
instance : CmpP .lss m n (m < n) := ⟨fun h _ _ _ _ _ _ _ _ _ _ _ _ _ _ hx hy => sv_ltT hx hy h, fun h _ _ _ _ _ _ _ _ _ _ _ _ _ _ hx hy => sv_ltF hx hy h⟩
instance : CmpP .leq m n (m ≤ n) := ⟨fun h _ _ _ _ _ _ _ _ _ _ _ _ _ _ hx hy => sv_leT hx hy h, fun h _ _ _ _ _ _ _ _ _ _ _ _ _ _ hx hy => sv_leF hx hy h⟩
instance : CmpP .gtr m n (n < m) := ⟨fun h _ _ _ _ _ _ _ _ _ _ _ _ _ _ hx hy => sv_gtT hx hy h, fun h _ _ _ _ _ _ _ _ _ _ _ _ _ _ hx hy => sv_gtF hx hy h⟩
instance : CmpP .geq m n (n ≤ m) := ⟨fun h _ _ _ _ _ _ _ _ _ _ _ _ _ _ hx hy => sv_geT hx hy h, fun h _ _ _ _ _ _ _ _ _ _ _ _ _ _ hx hy => sv_geF hx hy h⟩
instance : CmpP .eql m n (m = n) := ⟨fun h _ _ _ _ _ _ _ _ _ _ _ _ _ _ hx hy => sv_eqT hx hy h, fun h _ _ _ _ _ _ _ _ _ _ _ _ _ _ hx hy => sv_eqF hx hy h⟩
instance : CmpP .neq m n (¬ m = n) := ⟨fun h _ _ _ _ _ _ _ _ _ _ _ _ _ _ hx hy => sv_neT hx hy h, fun h _ _ _ _ _ _ _ _ _ _ _ _ _ _ hx hy => sv_neF hx hy (Decidable.not_not.1 h)⟩
class NeN (a b : Nat) : Prop where
  pf : a ≠ b
instance {n : Nat} : NeN (n + 1) 0 := ⟨by omega⟩
instance {n : Nat} : NeN 0 (n + 1) := ⟨by omega⟩
instance {n m : Nat} [h : NeN n m] : NeN (n + 1) (m + 1) := ⟨fun e => h.pf (by omega)⟩
theorem At1 {id : Nat} {ops : Array Oper} {b : Bool} {x y : Code} (k : CL P W0 L (.seq (.seq (.region id ops b) x) y) Q a) : CL P W0 L (.seq (.seq (.region id ops b) x) y) Q a := k
theorem At2 {id : Nat} {ops : Array Oper} {b : Bool} {y : Code} (k : CL P W0 L (.seq (.region id ops b) y) Q a) : CL P W0 L (.seq (.region id ops b) y) Q a := k
section
variable {n i m : Nat} {l₀ : List Oper} {br br' : Bool} {r₀ : List (Nat × Nat)}
theorem Xo (k₀ : DL P W0 S n l₀ Q br r₀ L a') (hw : Region.wanted o (yielded l₀.toArray a.tmps) = false := by rfl) (hp : a.put o.dst undef = a' := by exact Put.pf) : DX P W0 S n l₀ Q br i (m + 1) o r₀ L a := by
  cases m
  · exact X_o1 k₀ hw hp
  · exact X_o2 k₀ hw hp
theorem X_w {v : Value} (h : ∀ W0 S, SV P W0 S o a v) (k₀ : DL P W0 S n l₀ Q br r₀ L a') (hw : Region.wanted o (yielded l₀.toArray a.tmps) = true) (hp : a.put o.dst v = a') : DX P W0 S n l₀ Q br i (m + 1) o r₀ L a := by
  cases m
  · exact X_s (h _ _) k₀ hw hp
  · exact X_p (fun W0 => h _ _) k₀ hw hp
end
end
end Go.Proofs.Ytbjaecofccpahaa
