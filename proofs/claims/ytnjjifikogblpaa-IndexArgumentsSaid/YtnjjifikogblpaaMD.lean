/-
  My own engine over the kit's walk: goals without a world; regions that draw, walked along a plan.
-/
import Derived.Scope
import Derived.OrdersHeld
import Derived.IntWalk
import Derived.Test.YtnjjifikogblpaaMC
namespace Go.Proofs.Ytnjjifikogblpaa
open Go Go.RowKit
set_option linter.unusedVariables false
set_option linter.unusedSimpArgs false
section
variable {P : Program} {W0 w : World} {L L' S : List HP} {ops : Array Oper} {rest : List Oper} {o : Oper} {a a' : Act} {Q : Exit → Act → World → Prop}

/-! ### goals without a world -/
structure CL (P : Program) (W0 : World) (L : List HP) (c : Code) (Q : Exit → Act → World → Prop) (a : Act) : Prop where
  run : ∀ w, St W0 w L → c.wp P Q a w
structure OL (P : Program) (W0 : World) (L : List HP) (ops : Array Oper) (Q : Exit → Act → World → Prop) (l : List Oper) (a : Act) : Prop where
  run : ∀ w, St W0 w L → wpList P ops Q l a w
structure EL (W0 : World) (L : List HP) (Q : Exit → Act → World → Prop) (e : Exit) (a : Act) : Prop where
  run : ∀ w, St W0 w L → Q e a w
/-- a call: what it returns, and what holds then -/
structure CT (P : Program) (f : FuncId) (args : Array Value) (W0 : World) (L : List HP) (R : Value → List HP → Prop) : Prop where
  run : ∀ w, St W0 w L → Calls P f args w fun e w' => ∃ v L', e = .returned v ∧ R v L' ∧ St W0 w' L'
/-- an operation that reads: its value, wherever S holds -/
structure SV (P : Program) (W0 : World) (S : List HP) (o : Oper) (a : Act) (v : Value) : Prop where
  run : ∀ w, St W0 w S → (execOp a.eval o).run P w = .ok (.value v) w
/-- an operation that acts -/
structure DY (P : Program) (W0 : World) (L : List HP) (o : Oper) (a : Act) (R : Act → List HP → Prop) : Prop where
  run : ∀ w, St W0 w L → o.wp P a w (fun a' w' => ∃ L', R a' L' ∧ St W0 w' L') fun _ _ _ => False

def Sub (L S : List HP) : Prop := ∀ (m h : Hp), SepL m L h → SepL m S h
theorem Sub.refl (L : List HP) : Sub L L := fun _ _ h => h
theorem Sub.trans {A B C : List HP} (h : Sub A B) (k : Sub B C) : Sub A C := fun m x s => k m x (h m x s)
theorem Sub.st (h : Sub L S) (s : St W0 w L) : St W0 w S := s.weak h
theorem sub_nil : Sub L [] := fun _ _ _ => trivial
theorem sub_cons {A : HP} {i : Nat} (h : L[i]? = some A) (k : Sub (L.eraseIdx i) S) : Sub L (A :: S) := fun m x s => (s.perm (perm_at h)).skip fun b hb => k m b hb
theorem sub_drop {A : HP} (k : Sub L S) : Sub (A :: L) S := fun m x s => k m x s.tail
theorem sub_skip {A : HP} (k : Sub L S) : Sub (A :: L) (A :: S) := fun m x s => s.skip fun b hb => k m b hb
theorem sub_ex {α : Sort _} {F : α → HP} (x : α) : Sub (F x :: L) (ex F :: L) := fun m h ⟨a, b, d, ha, hb, hA, hL⟩ => ⟨a, b, d, ha, hb, ⟨x, hA⟩, hL⟩
theorem sub_close {Ls : List HP} : Sub (Ls ++ L) (sp Ls :: L) := fun m h k => let ⟨a, b, d, ha, hb, s, t⟩ := k.part; ⟨a, b, d, ha, hb, s, t⟩
theorem sub_open {Ls : List HP} : Sub (sp Ls :: L) (Ls ++ L) := fun m h ⟨a, b, d, ha, hb, hA, hL⟩ => SepL.append hA hL d ha hb
theorem SV.mono {v : Value} (h : SV P W0 S o a v) (k : Sub L S) : SV P W0 L o a v := ⟨fun w s => h.run w (k.st s)⟩

theorem Oper.wp_conv {K K' : Act → World → Prop} {Q Q' : Exit → Act → World → Prop} (hK : ∀ a w, K a w → K' a w) (hQ : ∀ e a w, Q e a w → Q' e a w) (h : o.wp P a w K Q) : o.wp P a w K' Q' := by
  unfold Oper.wp at *
  generalize (execOp a.eval o).run P w = r at *
  cases r with
  | ok n w' =>
    cases n <;> simp only [Oper.upon] at h ⊢
    case value v => exact hK _ _ h
    case skip => exact hK _ _ h
    case defer d => exact hK _ _ h
    case enter f args =>
      exact Calls.mono h fun e w'' he => by
        cases e with
        | returned v => exact hK _ _ he
        | panicked c => exact hQ _ _ _ he
        | outgrown => exact let ⟨a, w, hq⟩ := he; ⟨a, w, hQ _ _ _ hq⟩
    case row r args => exact Rows.mono h fun v w'' he => hK _ _ he
  | halt x w' => cases x <;> simp only [Oper.upon] at h ⊢; exact hQ _ _ _ h

/-! ### plain regions -/
theorem O_sv {v : Value} (hw : Region.wanted o (yielded ops a.tmps) = true) (h : SV P W0 L o a v) (hp : a.put o.dst v = a') (k : OL P W0 L ops Q rest a') : OL P W0 L ops Q (o :: rest) a := by
  subst hp
  exact ⟨fun w hS => step_val hw (h.run w hS) (k.run w hS)⟩
theorem O_off (hw : Region.wanted o (yielded ops a.tmps) = false) (hp : a.put o.dst undef = a') (k : OL P W0 L ops Q rest a') : OL P W0 L ops Q (o :: rest) a := by
  subst hp
  refine ⟨fun w hS => ?_⟩
  unfold wpList
  rw [if_neg (by rw [hw]; simp)]
  exact k.run w hS
theorem O_dy {R : Act → List HP → Prop} (hw : Region.wanted o (yielded ops a.tmps) = true) (h : DY P W0 L o a R) (k : ∀ a' L', R a' L' → OL P W0 L' ops Q rest a') : OL P W0 L ops Q (o :: rest) a :=
  ⟨fun w hS => want_step hw (Oper.wp_conv (fun a' w' ⟨L', hr, hS'⟩ => (k a' L' hr).run w' hS') (fun _ _ _ h => h.elim) (h.run w hS))⟩
theorem O_nil (k : EL W0 L Q .normal a) : OL P W0 L ops Q [] a := ⟨k.run⟩
theorem O_norm (h : a = a') (k : OL P W0 L ops Q rest a') : OL P W0 L ops Q rest a := h ▸ k
theorem O_sub (h : Sub L S) (k : OL P W0 S ops Q rest a) : OL P W0 L ops Q rest a := ⟨fun w s => k.run w (h.st s)⟩

/-! ### code -/
theorem C_seq {x y : Code} (h : CL P W0 L x (Exit.then (y.wp P Q) Q) a) : CL P W0 L (.seq x y) Q a := ⟨fun w s => wp_seq (h.run w s)⟩
theorem C_skip (h : EL W0 L Q .normal a) : CL P W0 L .skip Q a := ⟨fun w s => wp_skip (h.run w s)⟩
theorem C_block {id : Nat} {c : Code} (h : CL P W0 L c (Exit.inBlock id Q) a) : CL P W0 L (.block id c) Q a := ⟨fun w s => wp_block (h.run w s)⟩
theorem C_exit {id : Nat} (h : EL W0 L Q (.exit id) a) : CL P W0 L (.exit id) Q a := ⟨fun w s => wp_exit (h.run w s)⟩
theorem C_ret (h : EL W0 L Q .ret a) : CL P W0 L .ret Q a := ⟨fun w s => wp_ret (h.run w s)⟩
theorem C_label {l : Nat} (h : EL W0 L Q .normal a) : CL P W0 L (.label l) Q a := ⟨fun w s => wp_label (h.run w s)⟩
theorem C_scope {c : Code} (h : CL P W0 L c (Exit.noGoto Q) a) : CL P W0 L (.scope c) Q a := ⟨fun w s => wp_scope_straight (h.run w s)⟩
theorem C_region {id : Nat} {l : List Oper} (h : OL P W0 L l.toArray Q l a) : CL P W0 L (.region id l.toArray false) Q a := ⟨fun w s => wp_region_lit (h.run w s)⟩
theorem C_condT {c : Operand} {x y : Code} (hc : a.eval c = .bool true) (h : CL P W0 L x Q a) : CL P W0 L (.cond c x y) Q a := ⟨fun w s => wp_cond_true hc (h.run w s)⟩
theorem C_condF {c : Operand} {x y : Code} (hc : a.eval c = .bool false) (h : CL P W0 L y Q a) : CL P W0 L (.cond c x y) Q a := ⟨fun w s => wp_cond_false hc (h.run w s)⟩
theorem C_norm {c : Code} (h : a = a') (k : CL P W0 L c Q a') : CL P W0 L c Q a := h ▸ k
theorem C_sub {c : Code} (h : Sub L S) (k : CL P W0 S c Q a) : CL P W0 L c Q a := ⟨fun w s => k.run w (h.st s)⟩
theorem E_sub {e : Exit} (h : Sub L S) (k : EL W0 S Q e a) : EL W0 L Q e a := ⟨fun w s => k.run w (h.st s)⟩

theorem E_thenN {y : Code} {Q' : Exit → Act → World → Prop} (h : CL P W0 L y Q a) : EL W0 L (Exit.then (y.wp P Q) Q') .normal a := ⟨h.run⟩
theorem E_thenE {K : Act → World → Prop} {id : Nat} (h : EL W0 L Q (.exit id) a) : EL W0 L (Exit.then K Q) (.exit id) a := ⟨h.run⟩
theorem E_thenR {K : Act → World → Prop} (h : EL W0 L Q .ret a) : EL W0 L (Exit.then K Q) .ret a := ⟨h.run⟩
theorem E_blkN {id : Nat} (h : EL W0 L Q .normal a) : EL W0 L (Exit.inBlock id Q) .normal a := ⟨h.run⟩
theorem E_blkR {id : Nat} (h : EL W0 L Q .ret a) : EL W0 L (Exit.inBlock id Q) .ret a := ⟨h.run⟩
theorem E_blkE {id : Nat} (h : EL W0 L Q .normal a) : EL W0 L (Exit.inBlock id Q) (.exit id) a := ⟨fun w s => by
  show (if id = id then _ else _)
  rw [if_pos rfl]; exact h.run w s⟩
theorem E_blkX {id id' : Nat} (hne : id' ≠ id) (h : EL W0 L Q (.exit id') a) : EL W0 L (Exit.inBlock id Q) (.exit id') a := ⟨fun w s => by
  show (if id' = id then _ else _)
  rw [if_neg hne]; exact h.run w s⟩
theorem E_gotoN (h : EL W0 L Q .normal a) : EL W0 L (Exit.noGoto Q) .normal a := ⟨h.run⟩
theorem E_gotoR (h : EL W0 L Q .ret a) : EL W0 L (Exit.noGoto Q) .ret a := ⟨h.run⟩
theorem E_gotoE {id : Nat} (h : EL W0 L Q (.exit id) a) : EL W0 L (Exit.noGoto Q) (.exit id) a := ⟨h.run⟩

/-! ### calls -/
def RR (W0 : World) (R : Value → List HP → Prop) : Ending → World → Prop := fun e w' => ∃ v L', e = .returned v ∧ R v L' ∧ St W0 w' L'
theorem CT_enter {f : FuncId} {fn : Func} {c : Code} {args : Array Value} {R : Value → List HP → Prop} (hf : P.funcs[f]? = some fn) (hb : fn.body = some c)
    (h : CL P W0 L c (bodyPost P fn (RR W0 R)) { tmps := args ++ Array.replicate (fn.ntmps - args.size) undef, defers := [] }) : CT P f args W0 L R :=
  ⟨fun w s => calls_of_wp hf hb (h.run w s)⟩
theorem E_end0 {fn : Func} {R : Value → List HP → Prop} {e : Exit} (he : e = .normal ∨ e = .ret) (hr : fn.results = #[]) (hd : a.defers = []) (hR : R (.tuple #[]) L) : EL W0 L (bodyPost P fn (RR W0 R)) e a := by
  refine ⟨fun w s => ?_⟩
  rcases he with rfl | rfl
  · exact bodyPost_end (results_none hr _ _ _) hd ⟨_, _, rfl, hR, s⟩
  · exact bodyPost_ret (results_none hr _ _ _) hd ⟨_, _, rfl, hR, s⟩
theorem E_end1 {fn : Func} {R : Value → List HP → Prop} {t : Tmp} {v : Value} (hr : fn.results = #[.tmp t]) (hd : a.defers = []) (hv : a.eval (.tmp t) = v) (hR : R v L) : EL W0 L (bodyPost P fn (RR W0 R)) .ret a := by
  refine ⟨fun w s => ?_⟩
  refine bodyPost_ret (v := v) ?_ hd ⟨_, _, rfl, hR, s⟩
  simp only [Act.eval] at hv
  simp [results, hr, hv]
  simpa using hv
theorem E_end2 {fn : Func} {R : Value → List HP → Prop} {t u : Tmp} {v v' : Value} (hr : fn.results = #[.tmp t, .tmp u]) (hd : a.defers = []) (hv : a.eval (.tmp t) = v) (hv' : a.eval (.tmp u) = v') (hR : R (.tuple #[v, v']) L) : EL W0 L (bodyPost P fn (RR W0 R)) .ret a := by
  refine ⟨fun w s => ?_⟩
  refine bodyPost_ret (v := .tuple #[v, v']) ?_ hd ⟨_, _, rfl, hR, s⟩
  subst hv; subst hv'
  exact results_tmp2 hr _ _ _
theorem E_end3 {fn : Func} {R : Value → List HP → Prop} {t u x : Tmp} {v v' v'' : Value} (hr : fn.results = #[.tmp t, .tmp u, .tmp x]) (hd : a.defers = []) (hv : a.eval (.tmp t) = v) (hv' : a.eval (.tmp u) = v') (hv'' : a.eval (.tmp x) = v'') (hR : R (.tuple #[v, v', v'']) L) : EL W0 L (bodyPost P fn (RR W0 R)) .ret a := by
  refine ⟨fun w s => ?_⟩
  refine bodyPost_ret (v := .tuple #[v, v', v'']) ?_ hd ⟨_, _, rfl, hR, s⟩
  subst hv; subst hv'; subst hv''
  simp [results, hr, Act.eval]
theorem dy_call {d : Option Tmp} {xs : Array Operand} {ats : Array TypeId} {ty : TypeId} {pos : String} {aft : Array Edge} {gd : Option (Nat × Bool)} {f : FuncId} {args : Array Value} {R : Value → List HP → Prop}
    (ha : xs.map a.eval = args) (eg : Enters P f) (hc : CT P f args W0 L R) :
    DY P W0 L ⟨d, .call { callee := .value (.func f), args := xs, argTypes := ats }, ty, pos, aft, gd⟩ a fun a' L' => ∃ v, R v L' ∧ a.put d v = a' := by
  refine ⟨fun w s => ?_⟩
  have hr : (execOp a.eval (⟨d, .call { callee := .value (.func f), args := xs, argTypes := ats }, ty, pos, aft, gd⟩ : Oper)).run P w = .ok (.enter f args) w := by
    subst ha
    unfold execOp
    simp [resolve, Act.eval, Deferred.ofValue, invoke]
    exact eg _ _
  unfold Oper.wp
  rw [hr]
  refine Calls.mono (hc.run w s) ?_
  rintro e w' ⟨v, L', rfl, hR, hS⟩
  exact ⟨L', ⟨v, hR, rfl⟩, hS⟩
theorem CT.mono {f : FuncId} {args : Array Value} {R R' : Value → List HP → Prop} (h : CT P f args W0 L R) (k : ∀ v L', R v L' → R' v L') : CT P f args W0 L R' :=
  ⟨fun w s => Calls.mono (h.run w s) fun e w' ⟨v, L', h1, h2, h3⟩ => ⟨v, L', h1, k v L' h2, h3⟩⟩
theorem CT.sub {f : FuncId} {args : Array Value} {R : Value → List HP → Prop} (h : CT P f args W0 S R) (k : Sub L S) : CT P f args W0 L R := ⟨fun w s => h.run w (k.st s)⟩
/-- a contract that speaks of the item at place i -/
theorem CT.at_ {f : FuncId} {args : Array Value} {A : HP} {i : Nat} {R : Value → List HP → Prop} (hi : L[i]? = some A) (h : CT P f args W0 (A :: L.eraseIdx i) R) : CT P f args W0 L R := ⟨fun w s => h.run w (s.at_ hi)⟩
theorem O_at {A : HP} {i : Nat} (hi : L[i]? = some A) (k : OL P W0 (A :: L.eraseIdx i) ops Q rest a) : OL P W0 L ops Q rest a := ⟨fun w s => k.run w (s.at_ hi)⟩

/-! ### loops -/
def setAll (t : Array Value) (ps : List (Nat × Value)) : Array Value := ps.foldl (fun t p => t.setIfInBounds p.1 p.2) t
def Agr (a : Act) : List (Nat × Value) → Prop
  | [] => True
  | (s, v) :: r => a.eval (.tmp s) = v ∧ Agr a r
theorem set_self (t : Array Value) (s : Nat) : t.setIfInBounds s (t.getD s undef) = t := by
  apply Array.ext_getElem?
  intro i
  rw [Array.getElem?_setIfInBounds]
  split
  · rename_i h
    subst h
    split
    · rename_i h; simp [h]
    · rename_i h; simp [h]
  · rfl
theorem setAll_agr : ∀ {ps : List (Nat × Value)} {a : Act}, Agr a ps → setAll a.tmps ps = a.tmps
  | [], _, _ => rfl
  | (s, v) :: r, a, ⟨h, k⟩ => by
    show setAll (a.tmps.setIfInBounds s v) r = a.tmps
    have h : a.tmps.getD s undef = v := h
    rw [← h, set_self]
    exact setAll_agr k
/-- l, with the places that ms marks anything -/
def mixF : List Value → List Bool → (Nat → Value) → Nat → List Value
  | v :: l, b :: ms, u, k => (if b then u k else v) :: mixF l ms u (k + 1)
  | l, _, _, _ => l
theorem mixF_self : ∀ (l : List Value) (ms : List Bool) (p : List Value), mixF l ms (fun i => (p ++ l).getD i undef) p.length = l
  | [], _, _ => by simp [mixF]
  | v :: l, [], _ => by simp [mixF]
  | v :: l, b :: ms, p => by
    have ih := mixF_self l ms (p ++ [v])
    simp only [List.append_assoc, List.singleton_append, List.length_append, List.length_singleton] at ih
    simp only [mixF]
    rw [ih]
    congr 1
    split
    · simp
    · rfl
/-- alike but at the places that ms marks -/
class Mxd (ms : List Bool) (l l' : List Value) : Prop where
  pf : ∀ (u : Nat → Value) (k : Nat), (∀ i v, l'[i]? = some v → u (k + i) = v) → mixF l ms u k = l'
instance mxd0 {ms : List Bool} : Mxd ms [] [] := ⟨fun u k _ => by simp [mixF]⟩
instance mxdN {l : List Value} : Mxd [] l l := ⟨fun u k _ => by cases l <;> simp [mixF]⟩
instance mxdF {ms : List Bool} {l l' : List Value} {v : Value} [h : Mxd ms l l'] : Mxd (false :: ms) (v :: l) (v :: l') := ⟨fun u k hu => by
  simp only [mixF, Bool.false_eq_true, if_false]
  rw [h.pf u (k + 1) fun i v hi => by have := hu (i + 1) v (by simpa using hi); rw [← this]; congr 1; omega]⟩
instance mxdT {ms : List Bool} {l l' : List Value} {v v' : Value} [h : Mxd ms l l'] : Mxd (true :: ms) (v :: l) (v' :: l') := ⟨fun u k hu => by
  simp only [mixF, if_true]
  rw [h.pf u (k + 1) fun i v hi => by have := hu (i + 1) v (by simpa using hi); rw [← this]; congr 1; omega]
  have := hu 0 v' rfl
  simp only [Nat.add_zero] at this
  rw [this]⟩
/-- the frame of a round: a, with the slots that ms marks anything (u), and then those of ps -/
def frm (a : Act) (ms : List Bool) (u : Nat → Value) (ps : List (Nat × Value)) : Act := ⟨setAll (mixF a.tmps.toList ms u 0).toArray ps, a.defers⟩
class MixI (l : List Value) (ms : List Bool) (u : Nat → Value) (k : Nat) (l' : outParam (List Value)) : Prop where
  pf : mixF l ms u k = l'
instance mixi0 {ms : List Bool} {u : Nat → Value} {k : Nat} : MixI [] ms u k [] := ⟨by simp [mixF]⟩
instance mixiF {v : Value} {l l' : List Value} {ms : List Bool} {u : Nat → Value} {k : Nat} [h : MixI l ms u (k + 1) l'] : MixI (v :: l) (false :: ms) u k (v :: l') := ⟨by simp [mixF, h.pf]⟩
instance mixiT {v : Value} {l l' : List Value} {ms : List Bool} {u : Nat → Value} {k : Nat} [h : MixI l ms u (k + 1) l'] : MixI (v :: l) (true :: ms) u k (u k :: l') := ⟨by simp [mixF, h.pf]⟩
def RE {κ : Type} (W0 : World) (a0 : Act) (ms : List Bool) (ps : κ → List (Nat × Value)) (LI : κ → List HP) (φ : κ → Prop) (μ : κ → Nat) (m : Nat) : Act → World → Prop :=
  fun a' w' => ∃ k u, φ k ∧ μ k < m ∧ a' = frm a0 ms u (ps k) ∧ St W0 w' (LI k)
theorem wp_loopG {c : Code} {I : Nat → Act → World → Prop} (round : ∀ n a w, I n a w → c.wp P (Exit.then (fun a' w' => ∃ m, m < n ∧ I m a' w') Q) a w) {n : Nat} (h : I n a w) : (Code.loop c).wp P Q a w := by
  intro b k cs
  have key : ∀ n a w, I n a w → ∃ e a' w', Q e a' w' ∧ Arrives P (lone (b.at a (.code c :: .inLoop c :: k)) cs w) b k cs e a' w' := by
    intro n
    induction n using Nat.strongRecOn with
    | _ n ih =>
      intro a w hI
      obtain ⟨e, a₁, w₁, hq, harr⟩ := round n a w hI b (.inLoop c :: k) cs
      cases e with
      | normal =>
        obtain ⟨m, hlt, hI₁⟩ := hq
        obtain ⟨e₂, a₂, w₂, hq₂, harr₂⟩ := ih m hlt a₁ w₁ hI₁
        exact ⟨e₂, a₂, w₂, hq₂, .of_steps (Steps.trans harr (.one step_inLoop)) harr₂⟩
      | exit id => exact ⟨_, a₁, w₁, hq, .pass (x := .inLoop c) rfl (fun _ _ => .inl (by simp)) harr⟩
      | goto l => exact ⟨_, a₁, w₁, hq, .pass (x := .inLoop c) rfl (fun _ _ => .inl (by simp)) harr⟩
      | ret => exact ⟨_, a₁, w₁, hq, .pass (x := .inLoop c) rfl (fun _ _ => .inl (by simp)) harr⟩
      | panic ch => exact ⟨_, a₁, w₁, hq, .pass (x := .inLoop c) rfl (fun _ _ => .inl (by simp)) harr⟩
      | outgrown => exact ⟨_, a₁, w₁, hq, .pass (x := .inLoop c) rfl (fun _ _ => .inl (by simp)) harr⟩
  obtain ⟨e, a', w', hq, harr⟩ := key n a w h
  exact ⟨e, a', w', hq, .of_steps (.one step_loop) harr⟩
theorem C_loop {κ : Type} {c : Code} (ms : List Bool) (ps : κ → List (Nat × Value)) (LI : κ → List HP) (φ : κ → Prop) (μ : κ → Nat) (k0 : κ) (h0 : φ k0) (ha : Agr a (ps k0)) (hL : Sub L (LI k0))
    (round : ∀ k u, φ k → CL P W0 (LI k) c (Exit.then (RE W0 a ms ps LI φ μ (μ k)) Q) (frm a ms u (ps k))) : CL P W0 L (.loop c) Q a := by
  refine ⟨fun w s => ?_⟩
  refine wp_loopG (I := fun n a' w' => ∃ k u, φ k ∧ μ k = n ∧ a' = frm a ms u (ps k) ∧ St W0 w' (LI k)) ?_ (n := μ k0) ⟨k0, fun i => a.tmps.toList.getD i undef, h0, rfl, ?_, hL.st s⟩
  · rintro n a' w' ⟨k, u, hφ, rfl, rfl, hs⟩
    refine Code.wp_mono ?_ ((round k u hφ).run w' hs)
    intro e a'' w'' he
    cases e <;> try exact he
    obtain ⟨k', u', h1, h2, h3, h4⟩ := he
    exact ⟨μ k', h2, k', u', h1, rfl, h3, h4⟩
  · unfold frm
    have := mixF_self a.tmps.toList ms []
    simp only [List.nil_append, List.length_nil] at this
    rw [this]
    have h2 := setAll_agr ha
    simp only [Array.toArray_toList]
    rw [h2]
theorem E_round {κ : Type} {l0 l : List Value} {ds : List Deferred} {ms : List Bool} {ps : κ → List (Nat × Value)} {LI : κ → List HP} {φ : κ → Prop} {μ : κ → Nat} {m : Nat} (k : κ) (h : φ k) (hm : μ k < m)
    [hk : Mxd ms l0 l] (ha : Agr ⟨l.toArray, ds⟩ (ps k)) (hL : Sub L (LI k)) : EL W0 L (Exit.then (RE W0 ⟨l0.toArray, ds⟩ ms ps LI φ μ m) Q) .normal ⟨l.toArray, ds⟩ := by
  refine ⟨fun w s => ?_⟩
  refine ⟨k, fun i => l.getD i undef, h, hm, ?_, hL.st s⟩
  unfold frm
  have := hk.pf (fun i => l.getD i undef) 0 (fun i v hi => by simp [hi])
  simp only [this]
  have h2 := setAll_agr ha
  simp only at h2
  rw [h2]

/-! ### regions that draw -/
/-- m waits for i, by a chain of edges -/
def waitsT (md : Region.Mode) (ops : Array Oper) : Nat → Nat → Nat → Bool
  | 0, _, _ => false
  | f + 1, m, i => match ops[m]? with
    | none => false
    | some o => o.after.any fun e => Region.binds md e && (e.on == i || waitsT md ops f e.on i)
structure Inv (md : Region.Mode) (ops : Array Oper) (listed : Array Bool) : Prop where
  size : listed.size = ops.size
  closed : ∀ j oj, ops[j]? = some oj → listed.getD j false = true → ∀ e ∈ oj.after, Region.binds md e = true → listed.getD e.on false = true
theorem Inv.set {md : Region.Mode} {ops : Array Oper} {listed : Array Bool} {i : Nat} (inv : Inv md ops listed) (hi : i ∈ Region.ready md ops listed) : Inv md ops (listed.setIfInBounds i true) := by
  obtain ⟨_, oi, hoi, hall⟩ := mem_ready.1 hi
  refine ⟨by simp [inv.size], fun j oj hj hl e he hb => ?_⟩
  by_cases hij : i = j
  · subst hij
    have : oj = oi := Option.some.inj (hj.symm.trans hoi)
    subst this
    exact getD_set_true (hall e he hb)
  · rw [getD_set_ne false hij] at hl
    exact getD_set_true (inv.closed j oj hj hl e he hb)
theorem waitsT_listed {md : Region.Mode} {ops : Array Oper} {listed : Array Bool} {i : Nat} (inv : Inv md ops listed) : ∀ (f m : Nat), waitsT md ops f m i = true →
    (∀ om, ops[m]? = some om → ∀ e ∈ om.after, Region.binds md e = true → listed.getD e.on false = true) → listed.getD i false = true
  | 0, _, h, _ => by cases h
  | f + 1, m, h, hall => by
    unfold waitsT at h
    split at h
    · cases h
    · rename_i o ho
      obtain ⟨e, he, hb⟩ := Array.any_eq_true'.1 h
      simp only [Bool.and_eq_true, Bool.or_eq_true, beq_iff_eq] at hb
      have hl := hall o ho e he hb.1
      rcases hb.2 with h1 | h1
      · rw [← h1]; exact hl
      · exact waitsT_listed inv f e.on h1 fun om hom e' he' hb' => inv.closed _ om hom hl e' he' hb'
theorem getD_tf {listed : Array Bool} {i : Nat} (h : listed.getD i true = false) : listed.getD i false = false := by
  rcases Nat.lt_or_ge i listed.size with h' | h'
  · simp [h'] at h ⊢; exact h
  · simp [Array.getElem?_eq_none h'] at h
theorem waitsT_off {md : Region.Mode} {ops : Array Oper} {listed : Array Bool} {i n f : Nat} (inv : Inv md ops listed) (hw : waitsT md ops f n i = true) (hi : i ∈ Region.ready md ops listed) : listed.getD n false = false := by
  cases hn : listed.getD n false with
  | false => rfl
  | true =>
    have := waitsT_listed inv f n hw fun om hom e he hb => inv.closed n om hom hn e he hb
    rw [getD_tf (mem_ready.1 hi).1] at this
    cases this
def SS (n : Nat) (S : World → Prop) (listed : Array Bool) (w : World) : Prop := listed.getD n false = false → S w
def wpAnyB (P : Program) (md : Region.Mode) (ops : Array Oper) (Q : Exit → Act → World → Prop) (S : World → Prop) (n : Nat) : Nat → Array Bool → Act → World → Prop
  | 0, listed, a, w => Region.ready md ops listed = [] ∧ Q .normal a w
  | fuel + 1, listed, a, w =>
    (Region.ready md ops listed = [] → Q .normal a w) ∧
    ∀ i ∈ Region.ready md ops listed, wpOp P ops Q i (fun a' w' => SS n S (listed.setIfInBounds i true) w' ∧ wpAnyB P md ops Q S n fuel (listed.setIfInBounds i true) a' w') a w
theorem wpAny_of_B {md : Region.Mode} {S : World → Prop} {n : Nat} : ∀ (fuel : Nat) (listed : Array Bool) (a : Act) (w : World), wpAnyB P md ops Q S n fuel listed a w → wpAny P md ops Q fuel listed a w
  | 0, _, _, _, h => h
  | fuel + 1, _, _, _, h => ⟨h.1, fun i hi => wpOp_mono (fun a' w' h' => wpAny_of_B fuel _ a' w' h'.2) (h.2 i hi)⟩
theorem wpAnyB_first {md : Region.Mode} {S T : World → Prop} {n i : Nat} {oi : Oper} {v : Value} (hi : ops[i]? = some oi) (hsel : ∀ (j : Nat) (o : Oper) cs b, ops[j]? = some o → o.op ≠ .select cs b)
    (hQ : ∀ c a w, Q (.panic c) (a.put oi.dst v) w → Q (.panic c) a w) (hne : i ≠ n) (hT : (T = S ∧ ((∃ f, waitsT md ops f n i = true) ∨ ops.size ≤ n)) ∨ T = fun _ => True) :
    ∀ (fuel : Nat) (listed : Array Bool) (a : Act) (w : World), Inv md ops listed →
      (∀ j oj, ops[j]? = some oj → j ≠ i → listed.getD j true = false → (∀ e ∈ oj.after, Region.binds md e = true → e.on ≠ i) → oi.apart ops oj = true) →
      i ∈ Region.ready md ops listed → YieldsIf P ops T oi v a → SS n S listed w →
      wpAnyB P md ops Q S n fuel (listed.setIfInBounds i true) (a.put oi.dst v) w → wpAnyB P md ops Q S n (fuel + 1) listed a w := by
  have toT : ∀ (listed : Array Bool) (w : World), Inv md ops listed → i ∈ Region.ready md ops listed → SS n S listed w → T w := by
    intro listed w inv hr hs
    rcases hT with ⟨rfl, ⟨f, hf⟩ | hn⟩ | rfl
    · exact hs (waitsT_off inv hf hr)
    · refine hs ?_
      have : ¬ n < listed.size := by rw [inv.size]; omega
      simp [this]
    · trivial
  have keepS : ∀ (listed : Array Bool) (w : World), SS n S (listed.setIfInBounds i true) w → SS n S listed w := fun listed w h h0 => h (by rw [getD_set_ne false hne]; exact h0)
  have addS : ∀ (listed : Array Bool) (w : World), SS n S listed w → SS n S (listed.setIfInBounds i true) w := fun listed w h h0 => h (by rw [getD_set_ne false hne] at h0; exact h0)
  intro fuel
  induction fuel with
  | zero =>
    intro listed a w inv _ hr hy hs H
    refine ⟨fun h => (by rw [h] at hr; cases hr), fun j hj => ?_⟩
    by_cases hji : j = i
    · subst hji; exact hy.wpOp hi (toT _ _ inv hr hs) ⟨addS _ _ hs, H⟩
    · have := ready_mono hj hji
      rw [H.1] at this
      cases this
  | succ fuel ih =>
    intro listed a w inv hfree hr hy hs H
    refine ⟨fun h => (by rw [h] at hr; cases hr), fun j hj => ?_⟩
    by_cases hji : j = i
    · subst hji; exact hy.wpOp hi (toT _ _ inv hr hs) ⟨addS _ _ hs, H⟩
    · have h1 := H.2 j (ready_mono hj hji)
      obtain ⟨hjun, oj, hoj, hall⟩ := mem_ready.1 hj
      have hnot : ∀ e ∈ oj.after, Region.binds md e = true → e.on ≠ i := fun e he hb heq => by
        have h1 := hall e he hb
        rw [heq, getD_tf (mem_ready.1 hr).1] at h1
        cases h1
      have h2 := wpOp_putIf hoj (hfree j oj hoj hji hjun hnot) (fun cs b => hsel i oi cs b hi) (fun cs b => hsel j oj cs b hoj) hQ hy h1
      have hfree' : ∀ k ok, ops[k]? = some ok → k ≠ i → (listed.setIfInBounds j true).getD k true = false →
          (∀ e ∈ ok.after, Region.binds md e = true → e.on ≠ i) → oi.apart ops ok = true := fun k ok hk hki hun hno => by
        refine hfree k ok hk hki ?_ hno
        by_cases hjk : j = k
        · subst hjk; exact hjun
        · rw [getD_set_ne true hjk] at hun; exact hun
      refine wpOp_mono (fun a' w' h3 => ?_) h2
      have e := Array.setIfInBounds_comm (xs := listed) true true hji
      have hs' : SS n S (listed.setIfInBounds j true) w' := keepS _ _ (by rw [e]; exact h3.2.1)
      exact ⟨hs', ih (listed.setIfInBounds j true) a' w' (inv.set hj) hfree' (ready_mono hr (Ne.symm hji)) h3.1 hs' (by rw [e]; exact h3.2.2)⟩
def QN (K : Act → World → Prop) : Exit → Act → World → Prop := fun e a w => match e with | .normal => K a w | _ => False
/-- the plan: 0 acts, 1 reads under S, 2 reads nothing -/
def planB (md : Region.Mode) (ops : Array Oper) (n : Nat) : List (Nat × Nat) → Array Bool → Bool
  | [], listed => (Region.ready md ops listed).isEmpty
  | (i, 0) :: r, listed => decide (Region.ready md ops listed = [i]) && planB md ops n r (listed.setIfInBounds i true)
  | (i, m + 1) :: r, listed => (Region.ready md ops listed).contains i && Region.free md ops listed i && decide (i ≠ n) && (decide (0 < m) || waitsT md ops ops.size n i || decide (ops.size ≤ n)) && planB md ops n r (listed.setIfInBounds i true)
def wpPl (P : Program) (ops : Array Oper) (K : Act → World → Prop) (S : World → Prop) (n : Nat) : Bool → List (Nat × Nat) → Act → World → Prop
  | _, [], a, w => K a w
  | br, (i, 0) :: r, a, w => wpOp P ops (QN K) i (fun a' w' => ((br || i == n) = false → S w') ∧ wpPl P ops K S n (br || i == n) r a' w') a w
  | br, (i, 1) :: r, a, w => ∃ o v, ops[i]? = some o ∧ YieldsIf P ops S o v a ∧ wpPl P ops K S n br r (a.put o.dst v) w
  | br, (i, _ + 2) :: r, a, w => ∃ o v, ops[i]? = some o ∧ YieldsIf P ops (fun _ => True) o v a ∧ wpPl P ops K S n br r (a.put o.dst v) w
theorem wpAnyB_plan {md : Region.Mode} {K : Act → World → Prop} {S : World → Prop} {n : Nat} (hsel : Region.noSelect ops = true) : ∀ (pl : List (Nat × Nat)) (listed : Array Bool) (a : Act) (w : World) (br : Bool), Inv md ops listed →
    planB md ops n pl listed = true → listed.getD n false = br → (br = false → S w) → wpPl P ops K S n br pl a w → wpAnyB P md ops (QN K) S n pl.length listed a w
  | [], listed, a, w, br, inv, hB, hbr, hS, h => ⟨by simpa [planB] using hB, h⟩
  | (i, 0) :: r, listed, a, w, br, inv, hB, hbr, hS, h => by
    simp only [planB, Bool.and_eq_true, decide_eq_true_eq] at hB
    refine ⟨fun h0 => (by rw [h0] at hB; cases hB.1), fun j hj => ?_⟩
    have hji : j = i := by rw [hB.1] at hj; simpa using hj
    subst hji
    have hin : j < listed.size := by rw [inv.size]; exact let ⟨_, o, ho, _⟩ := mem_ready.1 hj; (Array.getElem?_eq_some_iff.1 ho).1
    have hbr' : (listed.setIfInBounds j true).getD n false = (br || j == n) := by
      by_cases hjn : j = n
      · subst hjn; simp [hin]
      · rw [getD_set_ne false hjn, hbr]; simp [hjn]
    refine wpOp_mono (fun a' w' h' => ?_) h
    exact ⟨fun h0 => h'.1 (by rw [← hbr']; exact h0), wpAnyB_plan hsel r _ a' w' _ (inv.set hj) hB.2 hbr' h'.1 h'.2⟩
  | (i, 1) :: r, listed, a, w, br, inv, hB, hbr, hS, h => by
    simp only [planB, Bool.and_eq_true, Bool.or_eq_true, decide_eq_true_eq] at hB
    obtain ⟨⟨⟨⟨hr, hf⟩, hne⟩, hT⟩, hB'⟩ := hB
    obtain ⟨o, v, hi, hy, h'⟩ := h
    have hr' : i ∈ Region.ready md ops listed := by simpa using hr
    have hbr' : (listed.setIfInBounds i true).getD n false = br := by rw [getD_set_ne false hne, hbr]
    refine wpAnyB_first (T := S) hi (Region.noSelect_spec hsel) (fun _ _ _ h => h.elim) hne (.inl ⟨rfl, ?_⟩) r.length listed a w inv (Region.free_spec hi hf) hr' hy (fun h0 => hS (hbr ▸ h0)) (wpAnyB_plan hsel r _ _ w br (inv.set hr') hB' hbr' hS h')
    rcases hT with (h0 | h1) | h2
    · omega
    · exact .inl ⟨_, h1⟩
    · exact .inr h2
  | (i, m + 2) :: r, listed, a, w, br, inv, hB, hbr, hS, h => by
    simp only [planB, Bool.and_eq_true, Bool.or_eq_true, decide_eq_true_eq] at hB
    obtain ⟨⟨⟨⟨hr, hf⟩, hne⟩, hT⟩, hB'⟩ := hB
    obtain ⟨o, v, hi, hy, h'⟩ := h
    have hr' : i ∈ Region.ready md ops listed := by simpa using hr
    have hbr' : (listed.setIfInBounds i true).getD n false = br := by rw [getD_set_ne false hne, hbr]
    exact wpAnyB_first (T := fun _ => True) hi (Region.noSelect_spec hsel) (fun _ _ _ h => h.elim) hne (.inr rfl) r.length listed a w inv (Region.free_spec hi hf) hr' hy (fun h0 => hS (hbr ▸ h0)) (wpAnyB_plan hsel r _ _ w br (inv.set hr') hB' hbr' hS h')

/-- the walk along a plan -/
structure DL (P : Program) (W0 : World) (S : List HP) (n : Nat) (ops : List Oper) (Q : Exit → Act → World → Prop) (br : Bool) (pl : List (Nat × Nat)) (L : List HP) (a : Act) : Prop where
  run : ∀ w, St W0 w L → wpPl P ops.toArray (fun a w => Q .normal a w) (fun w => St W0 w S) n br pl a w
theorem C_draw {id n : Nat} {l : List Oper} (S : List HP) (pl : List (Nat × Nat)) (hm : P.follows .mixedOrders = true)
    (hB : (Region.noSelect l.toArray && decide (pl.length = l.length) && planB .any l.toArray n pl (Array.replicate l.toArray.size false)) = true) (hS : Sub L S) (h : DL P W0 S n l Q false pl L a) : CL P W0 L (.region id l.toArray true) Q a := by
  refine ⟨fun w s => ?_⟩
  simp only [Bool.and_eq_true, decide_eq_true_eq] at hB
  obtain ⟨⟨h1, h2⟩, h3⟩ := hB
  refine Code.wp_mono (Q := QN fun a w => Q .normal a w) (fun e a w he => ?_) (wp_region_any hm ?_)
  · cases e <;> first | exact he | exact he.elim
  · have inv : Inv .any l.toArray (Array.replicate l.toArray.size false) := ⟨by simp, fun j oj _ hl => by
      exfalso
      by_cases hj : j < l.toArray.size
      · simp at hl; rename_i x; simp at hj; simp [hj] at hl
      · simp at hl; simp at hj; have : ¬ j < l.length := by omega
        simp [this] at hl⟩
    have hn : (Array.replicate l.toArray.size false).getD n false = false := by
      by_cases hj : n < l.toArray.size
      · simp at hj; simp [hj]
      · simp at hj; have : ¬ n < l.length := by omega
        simp [this]
    have s' : St W0 w.drew L := s.drew
    have := wpAnyB_plan (P := P) (K := fun a w => Q .normal a w) (S := fun w => St W0 w S) h1 pl _ a w.drew false inv h3 hn (fun _ => hS.st s') (h.run _ s')
    rw [h2] at this
    exact wpAny_of_B _ _ _ _ (by simpa using this)
theorem D_nil {n : Nat} {l : List Oper} {br : Bool} (k : EL W0 L Q .normal a) : DL P W0 S n l Q br [] L a := ⟨k.run⟩
theorem D_sv {n i : Nat} {l : List Oper} {br : Bool} {r : List (Nat × Nat)} {v : Value} (ho : l[i]? = some o) (hw : Region.wanted o (yielded l.toArray a.tmps) = true) (h : SV P W0 S o a v) (hp : a.put o.dst v = a') (k : DL P W0 S n l Q br r L a') : DL P W0 S n l Q br ((i, 1) :: r) L a := by
  subst hp
  exact ⟨fun w s => ⟨o, v, by simpa using ho, .inl ⟨hw, h.run⟩, k.run w s⟩⟩
theorem D_pu {n i m : Nat} {l : List Oper} {br : Bool} {r : List (Nat × Nat)} {v : Value} (ho : l[i]? = some o) (hw : Region.wanted o (yielded l.toArray a.tmps) = true) (h : ∀ W0, SV P W0 [] o a v) (hp : a.put o.dst v = a') (k : DL P W0 S n l Q br r L a') : DL P W0 S n l Q br ((i, m + 2) :: r) L a := by
  subst hp
  exact ⟨fun w s => ⟨o, v, by simpa using ho, .inl ⟨hw, fun w _ => (h w).run w (St.init w).nil_⟩, k.run w s⟩⟩
theorem D_off1 {n i : Nat} {l : List Oper} {br : Bool} {r : List (Nat × Nat)} (ho : l[i]? = some o) (hw : Region.wanted o (yielded l.toArray a.tmps) = false) (hp : a.put o.dst undef = a') (k : DL P W0 S n l Q br r L a') : DL P W0 S n l Q br ((i, 1) :: r) L a := by
  subst hp
  exact ⟨fun w s => ⟨o, undef, by simpa using ho, .inr ⟨hw, rfl⟩, k.run w s⟩⟩
theorem D_off2 {n i m : Nat} {l : List Oper} {br : Bool} {r : List (Nat × Nat)} (ho : l[i]? = some o) (hw : Region.wanted o (yielded l.toArray a.tmps) = false) (hp : a.put o.dst undef = a') (k : DL P W0 S n l Q br r L a') : DL P W0 S n l Q br ((i, m + 2) :: r) L a := by
  subst hp
  exact ⟨fun w s => ⟨o, undef, by simpa using ho, .inr ⟨hw, rfl⟩, k.run w s⟩⟩
theorem D_off0 {n i : Nat} {l : List Oper} {br : Bool} {r : List (Nat × Nat)} (ho : l[i]? = some o) (hw : Region.wanted o (yielded l.toArray a.tmps) = false) (hS : Sub L S) (hp : a.put o.dst undef = a') (k : DL P W0 S n l Q (br || i == n) r L a') : DL P W0 S n l Q br ((i, 0) :: r) L a := by
  subst hp
  refine ⟨fun w s => ?_⟩
  show wpOp _ _ _ _ _ _ _
  unfold wpOp
  have ho' : l.toArray[i]? = some o := by simpa using ho
  simp only [ho', hw, Bool.false_eq_true, if_false]
  exact ⟨fun _ => hS.st s, k.run w s⟩
theorem D_dy {n i : Nat} {l : List Oper} {br br' : Bool} {r : List (Nat × Nat)} {R : Act → List HP → Prop} (ho : l[i]? = some o) (hw : Region.wanted o (yielded l.toArray a.tmps) = true) (h : DY P W0 L o a R) (hb : (br || i == n) = br')
    (k : ∀ a' L', R a' L' → (br' = true ∨ Sub L' S) ∧ DL P W0 S n l Q br' r L' a') : DL P W0 S n l Q br ((i, 0) :: r) L a := by
  subst hb
  refine ⟨fun w s => ?_⟩
  show wpOp _ _ _ _ _ _ _
  unfold wpOp
  have ho' : l.toArray[i]? = some o := by simpa using ho
  simp only [ho', hw, if_true]
  refine .inl (Oper.wp_conv ?_ (fun _ _ _ h => h.elim) (h.run w s))
  rintro a' w' ⟨L', hr, s'⟩
  have := k a' L' hr
  refine ⟨fun h0 => ?_, this.2.run w' s'⟩
  rcases this.1 with h1 | h1
  · rw [h0] at h1; cases h1
  · exact h1.st s'
theorem D_norm {n : Nat} {l : List Oper} {br : Bool} {r : List (Nat × Nat)} (h : a = a') (k : DL P W0 S n l Q br r L a') : DL P W0 S n l Q br r L a := h ▸ k
end
end Go.Proofs.Ytnjjifikogblpaa
