/-
  The bodies of ranges over functions, walked by the engine; a region with a yield of a built value. No program.
-/
import Derived.OrdersIn
import Derived.Lib.SliceRun
import Derived.Deep.OwnRows
import Derived.Defers
import Derived.Test.YtlmabajgnjiigaaML
import Derived.Test.YtlmabajgnjiigaaMJ
import Derived.Test.YtlmabajgnjiigaaMH
namespace Go.Proofs.Ytlmabajgnjiigaa
open Go Go.RowKit
set_option linter.unusedVariables false
set_option linter.unusedSimpArgs false
section
variable {P : Program} {ops : Array Oper} {Q : Exit → Act → World → Prop} {rest : List Oper} {o : Oper} {a : Act} {W0 w : World} {L : List HP}
/-! ### what never outgrows, what never defers -/
class Nout (Q : Exit → Act → World → Prop) : Prop where
  pf : ∀ a w, ¬ Q .outgrown a w
instance {K : Act → World → Prop} [h : Nout Q] : Nout (Exit.then K Q) := ⟨h.pf⟩
instance {id : Nat} [h : Nout Q] : Nout (Exit.inBlock id Q) := ⟨h.pf⟩
instance {R : Exit → Act → World → Prop} : Nout (fun e a w => e = .normal ∧ R e a w) := ⟨fun _ _ h => by cases h.1⟩
instance {R : Act → World → Prop} : Nout (fun e a w => e = .normal ∧ R a w) := ⟨fun _ _ h => by cases h.1⟩
instance {R : World → Prop} : Nout (fun e _ w => e = .normal ∧ R w) := ⟨fun _ _ h => by cases h.1⟩
def ndB (x : Op) : Bool := match x with | .defer _ => false | _ => true
class NdO (x : Op) : Prop where
  pf : ndB x = true
instance {x9 : Operand} : NdO (.move x9) := ⟨rfl⟩
instance {x9 : Operand} : NdO (.assign x9) := ⟨rfl⟩
instance {c9 a9 b9 : Operand} : NdO (.pick c9 a9 b9) := ⟨rfl⟩
instance {elem9 : TypeId} : NdO (.alloc elem9) := ⟨rfl⟩
instance {elem9 : TypeId} {v9 : Operand} : NdO (.box elem9 v9) := ⟨rfl⟩
instance {t9 : TypeId} {parts9 : Array (Nat × Operand)} : NdO (.build t9 parts9) := ⟨rfl⟩
instance {t9 : TypeId} {len9 : Nat} {parts9 : Array (Nat × Operand)} : NdO (.buildSlice t9 len9 parts9) := ⟨rfl⟩
instance {mapType9 : TypeId} {map9 key9 value9 : Operand} : NdO (.insert mapType9 map9 key9 value9) := ⟨rfl⟩
instance {t9 : TypeId} {addr9 : Operand} : NdO (.load t9 addr9) := ⟨rfl⟩
instance {t9 : TypeId} {addr9 val9 : Operand} : NdO (.store t9 addr9 val9) := ⟨rfl⟩
instance {g9 : Nat} : NdO (.ready g9) := ⟨rfl⟩
instance {g9 : Nat} : NdO (.waits g9) := ⟨rfl⟩
instance {x9 : Operand} : NdO (.nilCheck x9) := ⟨rfl⟩
instance {op9 : BinOp} {xType9 : TypeId} {x9 y9 : Operand} {yType9 : TypeId} : NdO (.binOp op9 xType9 x9 y9 yType9) := ⟨rfl⟩
instance {op9 : UnOp} {xType9 : TypeId} {x9 : Operand} : NdO (.unOp op9 xType9 x9) := ⟨rfl⟩
instance {src9 dst9 : TypeId} {x9 : Operand} : NdO (.convert src9 dst9 x9) := ⟨rfl⟩
instance {dst9 : TypeId} {x9 : Operand} : NdO (.sliceToArrayPointer dst9 x9) := ⟨rfl⟩
instance {xType9 : TypeId} {x9 : Operand} : NdO (.makeInterface xType9 x9) := ⟨rfl⟩
instance {fn9 : Fn} {first9 captured9 : Array Operand} : NdO (.makeFunc fn9 first9 captured9) := ⟨rfl⟩
instance {t9 : TypeId} {reserve9 : Option Operand} : NdO (.makeMap t9 reserve9) := ⟨rfl⟩
instance {t9 : TypeId} {size9 : Operand} : NdO (.makeChan t9 size9) := ⟨rfl⟩
instance {t9 : TypeId} {len9 cap9 : Operand} : NdO (.makeSlice t9 len9 cap9) := ⟨rfl⟩
instance {t9 : TypeId} {x9 : Operand} {a9 b9 c9 : Option Operand} : NdO (.slice t9 x9 a9 b9 c9) := ⟨rfl⟩
instance {xType9 : TypeId} {x9 : Operand} {field9 : Nat} : NdO (.fieldAddr xType9 x9 field9) := ⟨rfl⟩
instance {xType9 : TypeId} {x9 : Operand} {field9 : Nat} : NdO (.field xType9 x9 field9) := ⟨rfl⟩
instance {xType9 : TypeId} {x9 index9 : Operand} : NdO (.indexAddr xType9 x9 index9) := ⟨rfl⟩
instance {xType9 : TypeId} {x9 index9 : Operand} : NdO (.index xType9 x9 index9) := ⟨rfl⟩
instance {xType9 : TypeId} {x9 index9 : Operand} {commaOk9 : Bool} : NdO (.lookup xType9 x9 index9 commaOk9) := ⟨rfl⟩
instance {mapType9 : TypeId} {map9 key9 value9 : Operand} : NdO (.mapUpdate mapType9 map9 key9 value9) := ⟨rfl⟩
instance {mapType9 : TypeId} {map9 key9 : Operand} : NdO (.mapEntry mapType9 map9 key9) := ⟨rfl⟩
instance {mapType9 : TypeId} {map9 stamp9 value9 : Operand} : NdO (.entryStore mapType9 map9 stamp9 value9) := ⟨rfl⟩
instance {xType9 : TypeId} {x9 : Operand} : NdO (.range xType9 x9) := ⟨rfl⟩
instance {iter9 : Operand} {isString9 : Bool} : NdO (.next iter9 isString9) := ⟨rfl⟩
instance {x9 : Operand} : NdO (.entry x9) := ⟨rfl⟩
instance {x9 : Operand} {xType9 asserted9 : TypeId} {commaOk9 : Bool} : NdO (.typeAssert x9 xType9 asserted9 commaOk9) := ⟨rfl⟩
instance {tuple9 : Operand} {index9 : Nat} : NdO (.extract tuple9 index9) := ⟨rfl⟩
instance {c9 : Call} : NdO (.call c9) := ⟨rfl⟩
instance {c9 : Call} : NdO (.go c9) := ⟨rfl⟩
instance {x9 : Operand} : NdO (.panic x9) := ⟨rfl⟩
instance {chan9 x9 : Operand} : NdO (.send chan9 x9) := ⟨rfl⟩
instance {chanType9 : TypeId} {chan9 : Operand} {commaOk9 : Bool} : NdO (.recv chanType9 chan9 commaOk9) := ⟨rfl⟩
instance {cases9 : Array SelectCase} {blocking9 : Bool} : NdO (.select cases9 blocking9) := ⟨rfl⟩
class NdL (l : List Oper) : Prop where
  pf : (l.all fun o => ndB o.op) = true
instance : NdL [] := ⟨rfl⟩
instance {d : Option Tmp} {x : Op} {ty : TypeId} {pos : String} {aft : Array Edge} {gd : Option (Nat × Bool)} {r : List Oper} [h : NdO x] [k : NdL r] : NdL (⟨d, x, ty, pos, aft, gd⟩ :: r) := ⟨by rw [List.all_cons, k.pf, Bool.and_true]; exact h.pf⟩
theorem NdL.no {l : List Oper} [h : NdL l] : ∀ o ∈ l, ∀ c, o.op ≠ .defer c := by
  intro o ho c e
  have := List.all_eq_true.1 h.pf o ho
  rw [e] at this
  cases this
/-! ### the rules -/
theorem CI_cond {l : Nat} {c : Operand} {x y : Code} {t : Bool} (hc : a.eval c = .bool t) (h : CI l P W0 L (if t then x else y) Q a) : CI l P W0 L (.cond c x y) Q a := ⟨fun w s => wpIn_cond hc (h.run w s)⟩
section
variable {l : Nat}
instance {x y : Code} : GoJ (CI l P W0 L (.seq x y) Q a) (CI l P W0 L x (Exit.then (y.wpIn (Fr (some l)) 0 P Q) Q) a) := ⟨CI_seq⟩
instance {id : Nat} {ls : List Oper} [h : Nout Q] [k : NdL ls] : GoJ (CI l P W0 L (.region id ls.toArray false) Q a) (OL P W0 L ls.toArray Q ls a) := ⟨fun g => ⟨fun w s => wpIn_region_frl h.pf k.no (g.run w s)⟩⟩
instance {id : Nat} {c : Code} : GoJ (CI l P W0 L (.block id c) Q a) (CI l P W0 L c (Exit.inBlock id Q) a) := ⟨CI_block⟩
instance : GoJ (CI l P W0 L .skip Q a) (EL W0 L Q .normal a) := ⟨fun g => ⟨fun w s => wpIn_skip (g.run w s)⟩⟩
instance {id : Nat} : GoJ (CI l P W0 L (.exit id) Q a) (EL W0 L Q (.exit id) a) := ⟨fun g => ⟨fun w s => wpIn_exit (g.run w s)⟩⟩
instance {c : Operand} {x y : Code} [hc : Ev a c (.bool true)] : GoJ (CI l P W0 L (.cond c x y) Q a) (CI l P W0 L x Q a) := ⟨CI_cond hc.pf⟩
instance {c : Operand} {x y : Code} [hc : Ev a c (.bool false)] : GoJ (CI l P W0 L (.cond c x y) Q a) (CI l P W0 L y Q a) := ⟨CI_cond hc.pf⟩
instance {y : Code} {Q' : Exit → Act → World → Prop} : GoJ (EL W0 L (Exit.then (y.wpIn (Fr (some l)) 0 P Q) Q') .normal a) (CI l P W0 L y Q a) := ⟨EI_then⟩
end
theorem wpIn_loopG {F : Fence} {n : Nat} {c : Code} {I : Nat → Act → World → Prop} (round : ∀ m a w, I m a w → c.wpIn F n P (Exit.then (fun a' w' => ∃ k, k < m ∧ I k a' w') Q) a w) {m : Nat} (h : I m a w) : (Code.loop c).wpIn F n P Q a w := by
  have hex : ∀ a w, (∃ m, I m a w) → ∃ m, I m a w ∧ ∀ k, I k a w → m ≤ k := by
    intro a w ⟨m, hm⟩
    induction m using Nat.strongRecOn with
    | ind m ih =>
      by_cases hk : ∃ k, k < m ∧ I k a w
      · obtain ⟨k, hk1, hk2⟩ := hk
        exact ih k hk1 hk2
      · exact ⟨m, hm, fun k hk2 => Nat.le_of_not_lt fun hlt => hk ⟨k, hlt, hk2⟩⟩
  let μ : Act → World → Nat := fun a w => @dite Nat (∃ m, I m a w) (Classical.propDecidable _) (fun h => Classical.choose (hex a w h)) (fun _ => 0)
  have hμ : ∀ a w (h : ∃ m, I m a w), I (μ a w) a w ∧ ∀ k, I k a w → μ a w ≤ k := fun a w h => by
    have : μ a w = Classical.choose (hex a w h) := by
      show @dite Nat _ (Classical.propDecidable _) _ _ = _
      rw [dif_pos h]
    rw [this]
    exact Classical.choose_spec (hex a w h)
  refine wpIn_loop (fun a w => ∃ m, I m a w) μ ⟨m, h⟩ fun a w hI => ?_
  refine wpIn_mono (round _ a w (hμ a w hI).1) ?_
  intro e a' w' he
  cases e <;> try exact he
  obtain ⟨k, hk, hk2⟩ := he
  exact ⟨⟨k, hk2⟩, Nat.lt_of_le_of_lt ((hμ a' w' ⟨k, hk2⟩).2 k hk2) hk⟩
theorem CI_loop {l : Nat} {κ : Type} {c : Code} (ms : List Bool) (ps : κ → List (Nat × Value)) (LI : κ → List HP) (φ : κ → Prop) (μ : κ → Nat) (k0 : κ) (h0 : φ k0) (ha : Agr a (ps k0)) (hL : Sub L (LI k0))
    (round : ∀ k u, φ k → CI l P W0 (LI k) c (Exit.then (RE W0 a ms ps LI φ μ (μ k)) Q) (frm a ms u (ps k))) : CI l P W0 L (.loop c) Q a := by
  refine ⟨fun w s => ?_⟩
  refine wpIn_loopG (I := fun n a' w' => ∃ k u, φ k ∧ μ k = n ∧ a' = frm a ms u (ps k) ∧ St W0 w' (LI k)) ?_ (m := μ k0) ⟨k0, fun i => a.tmps.toList.getD i undef, h0, rfl, ?_, hL.st s⟩
  · rintro n a' w' ⟨k, u, hφ, rfl, rfl, hs⟩
    refine wpIn_mono ((round k u hφ).run w' hs) ?_
    intro e a'' w'' he
    cases e <;> try exact he
    obtain ⟨k', u', h1, h2, h3, h4⟩ := he
    exact ⟨μ k', h2, k', u', h1, rfl, h3, h4⟩
  · unfold frm
    have := mixF_self a.tmps.toList ms []
    simp only [List.nil_append, List.length_nil] at this
    rw [this]
    have h2 := setAll_agr ha
    simp only [Array.toArray_toList]
    rw [h2]
theorem CI_loopS {l : Nat} {κ : Type} {c : Code} {LI : κ → List HP} (ms : List Bool) (ps : κ → List (Nat × Value)) (As : κ → List (Nat × HP)) [hs : ∀ k, SAts L (As k) (LI k)] (φ : κ → Prop) (μ : κ → Nat) (k0 : κ) (h0 : φ k0) (ha : Agr a (ps k0))
    (round : ∀ k u, φ k → CI l P W0 (LI k) c (Exit.then (RE W0 a ms ps LI φ μ (μ k)) Q) (frm a ms u (ps k))) (hL : Sub L (LI k0) := by exact Sub.refl _) : CI l P W0 L (.loop c) Q a :=
  CI_loop ms ps LI φ μ k0 h0 ha hL round
theorem CI_n {l : Nat} {c : Code} {a' : Act} (k : CI l P W0 L c Q a') (h : a = a' := by exact FrmI.pf) : CI l P W0 L c Q a := h ▸ k
/-! ### regions that draw -/
theorem wpOp_in {r : Option Nat} {n i : Nat} {K K' : Act → World → Prop} (hout : ∀ a w, ¬ Q .outgrown a w) (hd : ∀ o ∈ ops.toList, ∀ c, o.op ≠ .defer c) (ih : ∀ a w, K a w → K' a w) (h : wpOp P ops Q i K a w) : wpOpIn (Fr r) n P ops Q i K' a w := by
  unfold wpOp at h
  unfold wpOpIn
  cases ho : ops[i]? with
  | none =>
    rw [ho] at h
    exact ih _ _ h
  | some o =>
    rw [ho] at h
    dsimp only at h ⊢
    have hdo := hd o (by simpa using Array.mem_of_getElem? ho)
    split at h
    · rename_i hw
      rw [if_pos hw]
      rcases h with h | ⟨_, a', w', hq⟩
      case inr => exact (hout a' w' hq).elim
      refine ⟨fun _ _ => trivial, ?_⟩
      have hs : o.semAt (Fr r).round a.eval = execOp a.eval o := by
        cases r with
        | none => rfl
        | some l => exact Oper.semAt_some l a.eval o hdo
      rw [hs]
      unfold Oper.wp at h
      revert h
      cases hr : (execOp a.eval o).run P w with
      | halt x w' => cases x <;> exact fun h => h
      | ok x w' =>
        cases x with
        | value v => exact fun h => ih _ _ h
        | skip => exact fun h => ih _ _ h
        | defer d => exact fun h => ih _ _ h
        | enter f args =>
          intro h
          refine ⟨(fun hn => (by cases hn)), callsIn_fr (Calls.mono h ?_)⟩
          intro e w'' he
          cases e with
          | returned v => exact ih _ _ he
          | panicked c => exact he
          | outgrown => exact he
        | row row args =>
          intro h
          refine ⟨(fun hn => (by cases hn)), fun c cs _ => ?_⟩
          obtain ⟨v, w'', hR, hst⟩ := h c cs
          exact ⟨v, w'', ih _ _ hR, stepsIn_wide.2 hst⟩
        | _ => exact fun h => h.elim
    · rename_i hw
      rw [if_neg hw]
      exact ⟨fun _ _ => trivial, ih _ _ h⟩
theorem wpAny_in {r : Option Nat} {n : Nat} {md : Region.Mode} (hout : ∀ a w, ¬ Q .outgrown a w) (hd : ∀ o ∈ ops.toList, ∀ c, o.op ≠ .defer c) : ∀ (fuel : Nat) (listed : Array Bool) (a : Act) (w : World), wpAny P md ops Q fuel listed a w → wpAnyIn (Fr r) n P md ops Q fuel listed a w
  | 0, _, _, _, h => h
  | fuel + 1, listed, a, w, h => ⟨h.1, fun i hi => wpOp_in hout hd (fun a' w' h' => wpAny_in hout hd fuel _ a' w' h') (h.2 i hi)⟩
theorem CI_draw {g id n : Nat} {l : List Oper} [hd : NdL l] (S : List HP) (pl : List (Nat × Nat)) (hm : P.follows .mixedOrders = true)
    (hB : (Region.noSelect l.toArray && decide (pl.length = l.length) && planB .any l.toArray n pl (Array.replicate l.toArray.size false)) = true) (hS : Sub L S) (h : DL P W0 S n l Q false pl L a) : CI g P W0 L (.region id l.toArray true) Q a := by
  refine ⟨fun w s => ?_⟩
  simp only [Bool.and_eq_true, decide_eq_true_eq] at hB
  obtain ⟨⟨h1, h2⟩, h3⟩ := hB
  refine wpIn_mono (Q := QN fun a w => Q .normal a w) (wpIn_region_any hm (wpAny_in (fun _ _ h => h.elim) hd.no _ _ _ _ ?_)) (fun e a w he => ?_)
  rotate_left
  · cases e <;> first | exact he | exact he.elim
  · have inv : Inv .any l.toArray (Array.replicate l.toArray.size false) := ⟨by simp, fun j oj _ hl => by
      exfalso
      by_cases hj : j < l.toArray.size
      · simp at hl; rename_i x; simp at hj; simp [hj] at hl
      · simp at hl; simp at hj; have : ¬ j < l.length := by omega
        simp [this] at hl⟩
    have hn : (Array.replicate l.toArray.size false).getD n false = false := by
      by_cases hj : n < l.toArray.size
      · simp at hj; simp [hj]
      · simp at hj; have : ¬ n < l.length := by omega
        simp [this]
    have s' : St W0 w.drew L := s.drew
    have := wpAnyB_plan (P := P) (K := fun a w => Q .normal a w) (S := fun w => St W0 w S) h1 pl _ a w.drew false inv h3 hn (fun _ => hS.st s') (h.run _ s')
    rw [h2] at this
    exact wpAny_of_B _ _ _ _ (by simpa using this)
/-! ### the range, its first piece walked too -/
theorem C_rangeS {β κ : Type} {g : Operand} {ps : Array Tmp} {assign body : Code} {gf : FuncId} {lb : Array Value} (hg : a.eval g = .func (.func gf) #[] lb) (eg : Enters P gf)
    {arg : β → κ → Array Value} {hs : β → κ → List HP} {ys : List β} {E : List HP} (hit : GivesR P gf lb arg hs ys E) (hps : ∀ y k, (arg y k).size = ps.size) (I : List β → List HP) (hL : Sub L (I [] ++ E))
    (hbody : ∀ (l D : Nat) (rec rec' : Obj) (pre : List β) (y : β) (post : List β) (k : κ), ys = pre ++ y :: post →
      CI l P W0 (blk l rec :: blk D (.deferred (some [])) :: (I pre ++ (hs y k ++ E))) assign (fun e a₁ W => e = .normal ∧ ∃ L2, St W0 W (blk l rec :: L2) ∧
        CI l P W0 (blk l rec' :: L2) body (fun e _ W' => e = .normal ∧ St W0 W' (blk l rec' :: blk D (.deferred (some [])) :: (I (pre ++ [y]) ++ E))) a₁) { tmps := (ps.zip (arg y k)).foldl (fun t (p, v) => t.setIfInBounds p v) a.tmps, defers := [] })
    (hdone : ∀ D : Nat, EL W0 (blk D (.deferred (some [])) :: (I ys ++ E)) Q .normal { a with defers := { target := .collected D, args := #[] } :: a.defers }) :
    CL P W0 L (Code.rangeFunc g ps assign body) Q a := by
  refine ⟨fun w hS0 => ?_⟩
  have hS := hL.st hS0
  clear hS0
  refine (wpIn_wide (n := 0)).1 (wpIn_rangeFunc ?_)
  intro fn _
  obtain ⟨rec, hrec⟩ : ∃ rec : LoopState → Option Code → Loop, rec = fun st pe => { state := st, pending := pe, fn, tmps := a.tmps, params := ps, assign, body, defers := w.heap.size } := ⟨_, rfl⟩
  have hS1 := (hS.alloc (.deferred (some []))).alloc (.loop (rec .ready none))
  rw [World.size_alloc] at hS1
  generalize hl : w.heap.size + 1 = l at hS1
  generalize hD : w.heap.size = D at hS1 hl hrec
  have henter := run_enterLoop_outer (P := P) (w := w) fn a.tmps ps assign body
  rw [hD] at henter
  rw [hl] at henter
  have hr1 : (rec .ready none) = { state := .ready, pending := none, fn, tmps := a.tmps, params := ps, assign, body, defers := D } := by rw [hrec]
  rw [← hr1] at henter
  generalize hw1 : (w.alloc (.deferred (some []))).alloc (.loop (rec .ready none)) = w1 at henter hS1
  refine ⟨l, [{ target := .collected D, args := #[] }], w1, { target := .fn (.func gf) lb, args := #[.func (.yield l) #[] #[]] }, w1, gf,
    #[.func (.yield l) #[] #[]] ++ lb, w1, henter, ?_, fun _ _ => trivial, ?_, (fun hn => (by cases hn)), ?_⟩
  · simp only [resolve, hg]
    simp [go_sem]
  · exact eg _ _
  · have hJ : St W0 w1 (sp (blk l (.loop (rec .ready none)) :: blk D (.deferred (some [])) :: I []) :: E) := St.close_ (L := blk l (.loop (rec .ready none)) :: blk D (.deferred (some [])) :: I []) hS1
    refine callsIn_wide.2 (Calls.mono ((hit l W0 (fun pre => sp (blk l (.loop (rec .ready none)) :: blk D (.deferred (some [])) :: I pre)) ?_).run w1 hJ) ?_)
    · intro pre y post k W hx hW0
      have hW : St W0 W (blk l (.loop (rec .ready none)) :: blk D (.deferred (some [])) :: (I pre ++ (hs y k ++ E))) := (hW0.perm List.perm_middle).open_
      clear hW0
      have hblk : W.heap[l]? = some (.loop (rec .ready none)) := St.blk_ hW
      have hrp : (rec .ready none).params = ps := by rw [hrec]
      refine ⟨fn, (ps.zip (arg y k)).foldl (fun t (p, v) => t.setIfInBounds p v) a.tmps, assign, body, ?_, ?_⟩
      · have := run_yield (P := P) (args := arg y k) hblk (by rw [hrp]; exact hps y k)
        rw [this, hrec]
      · refine roundIn_of_wpIn trivial ?_
        refine wpIn_mono ((hbody l D (.loop (rec .ready none)) (.loop (rec .busy none)) pre y post k hx).run W hW) ?_
        rintro e a₁ W1 ⟨rfl, L2, hs2, hci⟩
        have hblk1 : W1.heap[l]? = some (.loop (rec .ready none)) := St.blk_ hs2
        refine ⟨W1.putObj l (.loop (rec .busy none)), ?_, ?_⟩
        · have := run_beginRound (P := P) hblk1 (by rw [hrec])
          rw [this, hrec]
        · refine wpIn_mono (hci.run _ (St.putObj hs2)) ?_
          rintro e a' W' ⟨rfl, hW'⟩
          have hblk' : W'.heap[l]? = some (.loop (rec .busy none)) := St.blk_ hW'
          refine ⟨_, _, run_endRound (P := P) none hblk', rfl, ?_⟩
          have h2 := St.putObj (o' := .loop (rec .ready none)) hW'
          have h3 : St W0 (W'.putObj l (.loop (rec .ready none))) (sp (blk l (.loop (rec .ready none)) :: blk D (.deferred (some [])) :: I (pre ++ [y])) :: E) := St.close_ (L := blk l (.loop (rec .ready none)) :: blk D (.deferred (some [])) :: I (pre ++ [y])) h2
          rw [hrec] at h3 ⊢
          exact h3
    · rintro e W' ⟨v, L', rfl, rfl, hW0⟩
      have hW' : St W0 W' (blk l (.loop (rec .ready none)) :: blk D (.deferred (some [])) :: (I ys ++ E)) := hW0.open_
      have hblk' : W'.heap[l]? = some (.loop (rec .ready none)) := St.blk_ hW'
      refine ⟨none, W'.putObj l (.loop { rec .ready none with state := .exhausted }), ?_, ?_⟩
      · rw [run_endLoop (P := P) hblk' (by rw [hrec]; simp), hrec]
      · exact (hdone D).run _ (St.drop (St.putObj hW'))
theorem wlIn_sv {n : Nat} {v : Value} (h : SV P W0 L o a v) (s : St W0 w L) (hw : Region.wanted o (yielded ops a.tmps) = true) (k : wpListIn Fence.wide n P ops Q rest (a.put o.dst v) w) : wpListIn Fence.wide n P ops Q (o :: rest) a w := by
  unfold wpListIn
  rw [if_pos hw]
  refine ⟨fun _ _ => trivial, ?_⟩
  have hs : o.semAt Fence.wide.round a.eval = execOp a.eval o := rfl
  rw [hs, h.run w s]
  exact k
/-- 'if !yield(a built pair)': the region of the call -/
theorem C_yieldB {id : Nat} {d1 d2 d3 d4 d5 d6 : Tmp} {f x y : Operand} {op4 : Op} {t1 t2 t3 t4 t5 t6 u6 : TypeId} {p1 p2 p3 p4 p5 p6 : String} {q1 q2 q3 q4 q5 q6 : Array Edge} {ats : Array TypeId} {l : Nat} {v4 v1 w1 w2 w3 : Value} {L' : List HP} {a1 a2 a3 a4 a5 a6 : Act}
    (e1 : a.eval f = w1) (h1 : a.put (some d1) w1 = a1) (e2 : a1.eval x = w2) (h2 : a1.put (some d2) w2 = a2) (e3 : a2.eval y = w3) (h3 : a2.put (some d3) w3 = a3) (e4 : SV P W0 L ⟨some d4, op4, t4, p4, q4, none⟩ a3 v4) (h4 : a3.put (some d4) v4 = a4) (h5 : a4.put (some d5) (.bool true) = a5) (h6 : a5.put (some d6) (.bool false) = a6)
    (hF : a4.eval (.tmp d1) = .func (.yield l) #[] #[]) (hX : a4.eval (.tmp d4) = v1) (hB : a5.eval (.tmp d5) = .bool true)
    (hy : ∀ w, St W0 w L → Yields P l #[v1] w fun e w' => e = .returned (.bool true) ∧ St W0 w' L')
    (k : EL W0 L' Q .normal a6) :
    CL P W0 L (Code.region id #[⟨some d1, .move f, t1, p1, q1, none⟩, ⟨some d2, .move x, t2, p2, q2, none⟩, ⟨some d3, .move y, t3, p3, q3, none⟩, ⟨some d4, op4, t4, p4, q4, none⟩, ⟨some d5, .call { callee := .value (.tmp d1), args := #[.tmp d4], argTypes := ats }, t5, p5, q5, none⟩, ⟨some d6, .unOp .not u6 (.tmp d5), t6, p6, q6, none⟩] false) Q a := by
  refine ⟨fun w hS => ?_⟩
  subst h1 h2 h3 h4 h5 h6
  subst e1 e2 e3
  refine (wpIn_wide (n := 0)).1 (wpIn_region_lit ?_)
  refine wlIn_move (wlIn_move (wlIn_move (wlIn_sv e4 hS (by rfl) (wlIn_yield (l := l) (args := #[v1]) (R := fun e w' => e = .returned (.bool true) ∧ St W0 w' L') rfl rfl hF (by rw [← hX]; simp only [List.map_toArray, List.map_cons, List.map_nil]) (hy w hS) (fun e w' h => ⟨_, h.1⟩) ?_))))
  rintro v' w' ⟨hv, h⟩
  injection hv with hv
  subst hv
  exact wlIn_not (b := true) hB (wpListIn_nil (k.run w' h))
end
end Go.Proofs.Ytlmabajgnjiigaa
namespace Go.Proofs.Ytlmabajgnjiigaa
open Go Go.RowKit
set_option linter.unusedVariables false
set_option linter.unusedSimpArgs false
set_option maxRecDepth 20000
set_option synthInstance.maxSize 100000
set_option synthInstance.maxHeartbeats 400000
/-- a slice of bytes with its value -/
structure SB where
  v : Value
  b : List UInt8
theorem Sl.one2 {α : Type} {m : Hp} {R : Enc α} {v : Value} {l : List α} (h : Sl m R v l) : v.oneCell' = true := by
  obtain ⟨A, cap, css, hv, _⟩ := h
  rw [hv]; rfl
def eSB : Enc SB :=
  ⟨1, fun m x cs => cs = [x.v] ∧ Sl m eB x.v x.b, fun hm ⟨e, h1⟩ => ⟨e, h1.mono hm⟩, fun ⟨e, _⟩ => by subst e; rfl,
    fun {_ x _} ⟨e, h1⟩ u hu => by
      subst e
      simp only [List.mem_cons, List.not_mem_nil, or_false] at hu
      subst hu
      exact h1.one2⟩
instance : Sz eSB 1 := ⟨rfl⟩
instance {x : SB} : EncC eSB x [x.v] := ⟨fun _ _ h => h.1⟩
theorem All2.openS {m : Hp} : ∀ {l : List (List UInt8)} {css : List (List Value)}, All2 ((eSl eB).r m) l css → ∃ l' : List SB, l'.map SB.b = l ∧ All2 (eSB.r m) l' css
  | [], [], _ => ⟨[], rfl, trivial⟩
  | b :: l, c :: css, ⟨⟨v, e, h⟩, t⟩ => by
    obtain ⟨l', h1, h2⟩ := All2.openS t
    exact ⟨⟨v, b⟩ :: l', by rw [List.map_cons, h1], ⟨e, h⟩, h2⟩
  | [], _ :: _, h => h.elim
  | _ :: _, [], h => h.elim
theorem Sl.openS {m : Hp} {v : Value} {l : List (List UInt8)} (h : Sl m (eSl eB) v l) : ∃ l' : List SB, l'.map SB.b = l ∧ Sl m eSB v l' := by
  obtain ⟨A, cap, css, hv, hc, ha, hr⟩ := h
  obtain ⟨l', h1, h2⟩ := ha.openS
  have hl : l'.length = l.length := by rw [← h1, List.length_map]
  refine ⟨l', h1, A, cap, css, by rw [hl]; exact hv, by rw [hl]; exact hc, h2, ?_⟩
  rcases hr with h | h
  · left
    subst h
    exact List.length_eq_zero_iff.1 hl
  · exact .inr h
section
variable {P : Program} {W0 : World} {L : List HP}
theorem CT_openS {f : FuncId} {args : Array Value} {R : Value → List HP → Prop} {v : Value} {l : List (List UInt8)} (hv : rd (eSl eB) v l ∈ L) (k : ∀ l' : List SB, l'.map SB.b = l → CT P f args W0 (rd eSB v l' :: L) R) : CT P f args W0 L R := ⟨fun w s => by
  obtain ⟨h1, h2, h3, h4, m, h, hm, hw, hh, d, hL⟩ := s
  obtain ⟨a, _, hs⟩ := hL.mem hv
  obtain ⟨l', e, hs'⟩ := Sl.openS hs
  exact (k l' e).run w ⟨h1, h2, h3, h4, m, h, hm, hw, hh, d, Hp.none, h, Hp.none_dj _, Hp.none_le _, Hp.le_refl _, hs', hL⟩⟩
theorem sub_peekSB {v : Value} {l : List SB} {j : Nat} {x : SB} (hm : rd eSB v l ∈ L) (hx : l[j]? = some x) : Sub L (rd eB x.v x.b :: L) := fun m h s => by
  obtain ⟨a, _, A, cap, css, _, _, ha, _⟩ := s.mem hm
  obtain ⟨cs, _, hc⟩ := ha.get hx
  exact ⟨Hp.none, h, Hp.none_dj _, Hp.none_le _, Hp.le_refl _, hc.2, s⟩
end
end Go.Proofs.Ytlmabajgnjiigaa
namespace Go.Proofs.Ytlmabajgnjiigaa
open Go Go.RowKit
set_option linter.unusedVariables false
set_option linter.unusedSimpArgs false
def allI {α : Type} (R : Enc α) (l : List α) (css : List (List Value)) : Im := ⟨fun m => All2 (R.r m) l css, fun hm h => h.imp fun _ _ => R.mono hm⟩
instance szSl {α : Type} {R : Enc α} : Sz (eSl R) 1 := ⟨rfl⟩
theorem Sl.cut0 {α : Type} {m : Hp} {R : Enc α} {A : Option Addr} {n c k : Nat} {l : List α} (h : Sl m R (.slice A n c) l) (hk : k ≤ n) : Sl m R (.slice A k c) (l.take k) := by
  have hc := h.cap_
  have := h.cut (lo := 0) (hi := k) (mx := c) (by omega) hk (by omega)
  rw [Nat.sub_zero, Nat.sub_zero, List.drop_zero, Nat.zero_mul] at this
  have e : (if c = 0 then A else Option.map (fun x => x.add 0) A) = A := by
    split
    · rfl
    · cases A <;> simp [Addr.add]
  rw [e] at this
  exact this
section
variable {P : Program} {W0 w : World} {L : List HP}
theorem St.own_open {α : Type} {R : Enc α} {E : TypeId} {v : Value} {l : List α} (s : St W0 w (own E R v l :: L)) (hl : l ≠ []) (h1 : R.sz = 1) :
    ∃ g cap css sp, v = .slice (some ⟨g, 0, none⟩) l.length cap ∧ l.length ≤ cap ∧ cap ≤ maxLen ∧ sp.length = cap - l.length ∧ css.flatten.length = l.length ∧ (∀ u ∈ css.flatten, u.oneCell' = true) ∧ (∀ x ∈ css, x.length = 1) ∧
      St W0 w (cel g (css.flatten ++ sp) E :: im (allI R l css) :: L) := by
  have s1 : St W0 w (ex (fun q : Nat × Nat × List (List Value) × List Value => Go.Proofs.Ytlmabajgnjiigaa.sp [pur (v = .slice (some ⟨q.1, 0, none⟩) l.length q.2.1 ∧ l.length ≤ q.2.1 ∧ q.2.1 ≤ maxLen ∧ q.2.2.2.length = q.2.1 - l.length ∧ q.2.2.1.flatten.length = l.length ∧ (∀ u ∈ q.2.2.1.flatten, u.oneCell' = true) ∧ (∀ x ∈ q.2.2.1, x.length = 1)), cel q.1 (q.2.2.1.flatten ++ q.2.2.2) E, im (allI R l q.2.2.1)]) :: L) := by
    refine s.imp ?_
    rintro m h ⟨css, ha, k⟩
    rcases k with ⟨_, h0⟩ | ⟨g, cap, cur, hv, hg, hc, hm, hs, ht⟩
    · exact absurd h0 hl
    · have hfl := ha.flen
      rw [h1] at hs ht hfl
      simp only [Nat.mul_one] at hs ht hfl
      have hcur : cur.toList = css.flatten ++ cur.toList.drop l.length := by rw [← ht, List.take_append_drop]
      have hcell : Obj.cells (css.flatten ++ List.drop l.length cur.toList).toArray E (0, 0) = Obj.cells cur E (0, 0) := by rw [← hcur]
      refine ⟨(g, cap, css, cur.toList.drop l.length), Hp.none, h, Hp.none_dj _, Hp.none_le _, Hp.le_refl _, ⟨hv, hc, hm, by simp [hs], hfl, ha.ones, fun x hx => by rw [ha.lens x hx, h1]⟩, h, Hp.none, Hp.dj_none _, Hp.le_refl _, Hp.none_le _, ?_, Hp.none, Hp.none, Hp.dj_none _, Hp.le_refl _, Hp.le_refl _, ha, trivial⟩
      show h g = some (Obj.cells (css.flatten ++ List.drop l.length cur.toList).toArray E (0, 0))
      rw [hcell, hg]
  obtain ⟨q, h⟩ := s1.ex_
  have h2 := h.open_
  have hp := h2.pur_
  exact ⟨q.1, q.2.1, q.2.2.1, q.2.2.2, hp.1, hp.2.1, hp.2.2.1, hp.2.2.2.1, hp.2.2.2.2.1, hp.2.2.2.2.2.1, hp.2.2.2.2.2.2, h2.drop⟩
theorem sub_own1 {α : Type} {R : Enc α} {E : TypeId} {g cap : Nat} {l : List α} {css : List (List Value)} {sp : List Value} (h1 : R.sz = 1) (h2 : l.length ≤ cap) (h3 : cap ≤ maxLen) (h4 : sp.length = cap - l.length) :
    Sub (cel g (css.flatten ++ sp) E :: im (allI R l css) :: L) (own E R (.slice (some ⟨g, 0, none⟩) l.length cap) l :: L) := by
  rintro m h ⟨a, b, d, ha, hb, hA, c, e, d2, hc, he, hB, hL⟩
  have hB : All2 (R.r m) l css := hB
  have hfl := hB.flen
  rw [h1, Nat.mul_one] at hfl
  refine ⟨a, e, d.sub (Hp.le_refl _) he, ha, he.trans hb, ⟨css, hB, .inr ⟨g, cap, (css.flatten ++ sp).toArray, rfl, hA, h2, h3, ?_, ?_⟩⟩, hL⟩
  · rw [h1]; simp only [List.size_toArray, List.length_append]; omega
  · rw [h1, Nat.mul_one, ← hfl]; exact List.take_left
theorem flat_drop1 : ∀ (k : Nat) (css : List (List Value)), (∀ x ∈ css, x.length = 1) → css.flatten.drop k = (css.drop k).flatten
  | 0, css, _ => rfl
  | k + 1, [], _ => rfl
  | k + 1, c :: r, h => by
    have hc := h c (.head _)
    obtain ⟨v, rfl⟩ := List.length_eq_one_iff.1 hc
    exact flat_drop1 k r fun x hx => h x (.tail _ hx)
theorem sub_all {α : Type} {R : Enc α} {l l' : List α} {css css' : List (List Value)} (f : ∀ m, All2 (R.r m) l css → All2 (R.r m) l' css') : Sub (im (allI R l css) :: L) (im (allI R l' css') :: L) := by
  rintro m h ⟨a, b, d, ha, hb, hA, hL⟩
  exact ⟨a, b, d, ha, hb, f m hA, hL⟩
variable {a : Act} {d : Option Tmp} {ty : TypeId} {pos : String} {aft : Array Edge} {gd : Option (Nat × Bool)} {x y : Operand} {t : TypeId}
/-- append within the row, the source in the same row -/
theorem dy_appin {e : TypeId} {zv : Value} {by_ : Nat} [ut : UL P t (.slice e)] [ti : TI P e zv 1 by_] {g n c m c2 off : Nat} (i : Nat) {cs : List Value} (hx : a.eval x = .slice (some ⟨g, 0, none⟩) n c) (hy : a.eval y = .slice (some ⟨g, off, none⟩) m c2) (hm : L[i]? = some (cel g cs e))
    (hroom : n + m ≤ c) (hfit : n + m ≤ cs.length) (hoff : off + m ≤ cs.length) (h1 : ∀ u ∈ (cs.drop off).take m, u.oneCell' = true) {cs' : List Value} (hcs : cs.take n ++ (cs.drop off).take m ++ cs.drop (n + m) = cs') :
    DY P W0 L ⟨d, .call { callee := .builtin .append, args := #[x, y], argTypes := #[t, t] }, ty, pos, aft, gd⟩ a fun a' L' => a.put d (.slice (some ⟨g, 0, none⟩) (n + m) c) = a' ∧ L' = L.set i (cel g cs' e) :=
  dy_val fun w s => by
    obtain ⟨q, hi, hz, hsz, hby⟩ := ti.pf
    have hg := s.cel_ (List.mem_of_getElem? hm)
    have hlen : ((cs.drop off).take m).length = m := by rw [List.length_take, List.length_drop]; omega
    have hr := run_append_room (P := P) w t ty e q ut.pf hi g n c cs.toArray hg ⟨g, off, none⟩ m c2 ((cs.drop off).take m) (by rw [hlen, hsz, Nat.mul_one]) (fun j u hj => by
      rw [add0]
      rw [List.getElem?_take] at hj
      split at hj
      · rw [List.getElem?_drop] at hj
        simp [World.cell?, hg, hj]
      · cases hj) h1 hroom (by rw [hsz, hlen]; simp; omega)
    rw [hsz, hlen, Nat.mul_one] at hr
    refine ⟨_, w.setRow g cs'.toArray, _, ?_, ⟨rfl, rfl⟩, s.setRowAt hm⟩
    unfold execOp
    simp only [resolve, invoke, builtin, Sem.run_bind, Sem.run_pure, Result.andThen_ok, List.map_toArray, List.map_cons, List.map_nil, hx, hy, hr, hcs]
def setL : List Value → Nat → List Value → List Value
  | cs, _, [] => cs
  | cs, o, v :: r => setL (cs.set o v) (o + 1) r
theorem St.setCells {b i : Nat} {T : TypeId} : ∀ (vs : List Value) (o : Nat) (cs : List Value) (L : List HP) (w : World), St W0 w L → L[i]? = some (cel b cs T) → St W0 (w.setCells b o vs) (L.set i (cel b (setL cs o vs) T))
  | [], o, cs, L, w, s, hm => by
    have : L.set i (cel b cs T) = L := by
      apply List.ext_getElem?
      intro j
      rw [List.getElem?_set]
      split
      · rename_i h; subst h
        rw [if_pos (List.getElem?_eq_some_iff.1 hm).1, hm]
      · rfl
    show St W0 w (L.set i (cel b cs T))
    rw [this]; exact s
  | v :: r, o, cs, L, w, s, hm => by
    have h1 : St W0 (w.setCell ⟨b, o, none⟩ v) (L.set i (cel b (cs.set o v) T)) := s.setCellAt hm v
    have hlt := (List.getElem?_eq_some_iff.1 hm).1
    have h2 := St.setCells r (o + 1) (cs.set o v) (L.set i (cel b (cs.set o v) T)) _ h1 (by rw [List.getElem?_set, if_pos rfl, if_pos hlt])
    rw [List.set_set] at h2
    exact h2
theorem setL_rep {z : Value} : ∀ (n o : Nat) (cs : List Value), o + n ≤ cs.length → setL cs o (List.replicate n z) = cs.take o ++ List.replicate n z ++ cs.drop (o + n)
  | 0, o, cs, h => by
    show cs = _
    simp
  | n + 1, o, cs, h => by
    show setL (cs.set o z) (o + 1) (List.replicate n z) = _
    rw [setL_rep n (o + 1) _ (by rw [List.length_set]; omega)]
    have e1 : (cs.set o z).take (o + 1) = cs.take o ++ [z] := by
      rw [List.take_add_one, List.take_set, List.set_eq_of_length_le (by simp; omega), List.getElem?_set_self (by omega)]
      rfl
    have e2 : (cs.set o z).drop (o + 1 + n) = cs.drop (o + (n + 1)) := by
      rw [List.drop_set_of_lt (by omega)]
      congr 1; omega
    rw [e1, e2, List.replicate_succ]
    simp
theorem dy_clear {e : TypeId} {zv : Value} {by_ : Nat} [ut : UL P t (.slice e)] [ti : TI P e zv 1 by_] {g n c off : Nat} (i : Nat) {cs : List Value} (hx : a.eval x = .slice (some ⟨g, off, none⟩) n c) (hm : L[i]? = some (cel g cs e))
    (hn : 0 < n) (hfit : off + n ≤ cs.length) (hz : zv.cells = #[zv] := by rfl) (h1 : zv.oneCell' = true := by rfl) {cs' : List Value} (hcs : cs.take off ++ List.replicate n zv ++ cs.drop (off + n) = cs') :
    DY P W0 L ⟨d, .call { callee := .builtin .clear, args := #[x], argTypes := #[t] }, ty, pos, aft, gd⟩ a fun a' L' => a.put d (.tuple #[]) = a' ∧ L' = L.set i (cel g cs' e) :=
  dy_val fun w s => by
    have hg := s.cel_ (List.mem_of_getElem? hm)
    have hr := Lib.run_clear_slice (P := P) w t e ty zv ut.pf (fun w => zero_run (P := P) (t := e) w) hz h1 g off n c hn (fun j hj => by
      have : off + j < cs.length := by omega
      simp [World.cell?, hg, this]) (fun j hj => by simp [World.frozen?, hg])
    refine ⟨_, w.setCells g off (List.replicate n zv), _, ?_, ⟨rfl, rfl⟩, ?_⟩
    · unfold execOp
      simp only [resolve, invoke, builtin, Sem.run_bind, Sem.run_pure, Result.andThen_ok, List.map_toArray, List.map_cons, List.map_nil, hx, hr]
    · have := St.setCells (i := i) (List.replicate n zv) off cs L w s hm
      rw [setL_rep n off cs hfit, hcs] at this
      exact this
theorem sv_slice3 {S : List HP} {e : TypeId} {zv : Value} {s by_ n c : Nat} {A : Option Addr} {lo hi mx : Operand} {l h m : Int} {k1 k2 k3 : IntKind} [ut : UL P t (.slice e)] [ti : TI P e zv s by_] (hx : a.eval x = .slice A n c := by exact Ev.pf)
    (hl : a.eval lo = .int k1 l := by exact Ev.pf) (hh : a.eval hi = .int k2 h := by exact Ev.pf) (hmx : a.eval mx = .int k3 m := by exact Ev.pf) (h0 : 0 ≤ l := by omega) (h1 : l ≤ h := by omega) (h2 : h ≤ m := by omega) (h3 : m ≤ c := by omega) :
    SV P W0 S ⟨d, .slice t x (some lo) (some hi) (some mx), ty, pos, aft, gd⟩ a (.slice (if m.toNat = l.toNat then A else A.map (·.add (l.toNat * s))) (h.toNat - l.toNat) (m.toNat - l.toNat)) := ⟨fun w _ => by
  unfold execOp
  have f1 : 0 ≤ m := by omega
  have f2 : 0 ≤ h := by omega
  have f3 : h ≤ max m 0 := by omega
  have f4 : l ≤ max h 0 := by omega
  simp [hx, hl, hh, hmx, Instr.sliceAt, run_underlying ut.pf, Instr.slice, Instr.sliceBounds, Instr.sliceBound, asIntOf, sizeOf_run (P := P) (t := e), h0, h3, f1, f2, f3, f4]⟩
/-- '[]byte("a")': the literal's row, marked, is read from then on -/
theorem dy_mark {e : TypeId} (i : Nat) {E : TypeId} {g n c : Nat} {l : List UInt8} [ut : UL P t (.slice e)] [ue : UL P e (.int .u8)] (hx : a.eval x = .slice (some ⟨g, 0, none⟩) n c) (hm : L[i]? = some (own E eB (.slice (some ⟨g, 0, none⟩) n c) l)) (hl : l ≠ []) :
    DY P W0 L ⟨d, .convert t t x, ty, pos, aft, gd⟩ a fun a' L' => a.put d (.slice (some ⟨g, 0, none⟩) n c) = a' ∧ L' = L.set i (rd eB (.slice (some ⟨g, 0, none⟩) n c) l) :=
  dy_val fun w s => by
    obtain ⟨g', cap, css, sp, hv, hc1, hc2, hc3, hc4, hc5, hc6, s2⟩ := (s.at_ hm).own_open hl rfl
    injection hv with hA hn hcc
    injection hA with hA
    injection hA with hA
    subst hA; subst hcc; subst hn
    have hg := s2.cel_ (.head _)
    obtain ⟨cs, hcs⟩ : ∃ cs, css.flatten ++ sp = cs := ⟨_, rfl⟩
    rw [hcs] at hg s2
    have hsh : w.shape? g = some (E, cs.length) := by
      unfold World.shape?
      rw [hg]; simp
    have hf : w.freeze ⟨g, cs.length, none⟩ 1 = w.freeze ⟨g, cs.length, none⟩ 1 := rfl
    have hr : (convert t t (.slice (some ⟨g, 0, none⟩) l.length c)).run P w = .ok (.slice (some ⟨g, 0, none⟩) l.length c) (w.freeze ⟨g, cs.length, none⟩ 1) := by
      simp [convert, run_underlying ut.pf, run_underlying ue.pf, markStringish, hsh]
    have hh : (w.freeze ⟨g, cs.length, none⟩ 1).heap[g]? = some (.cells cs.toArray E (cs.length, cs.length + 1)) := by
      unfold World.freeze
      rw [if_neg (by decide)]
      simp [Array.getElem?_modify, hg]
    refine ⟨_, w.freeze ⟨g, cs.length, none⟩ 1, _, ?_, ⟨rfl, rfl⟩, ?_⟩
    · unfold execOp
      simp only [hx, Sem.run_bind, hr, Result.andThen_ok, Sem.run_pure]
    · have s3 := St.set_ (o' := .cells cs.toArray E (cs.length, cs.length + 1)) s2 ⟨by unfold World.freeze; rw [if_neg (by decide)], by unfold World.freeze; rw [if_neg (by decide)], by unfold World.freeze; rw [if_neg (by decide)], by unfold World.freeze; rw [if_neg (by decide)]; simp, fun k _ hk => by
        have hk : k ≠ g := fun h => hk (by rw [h])
        unfold World.freeze
        rw [if_neg (by decide)]
        simp [Array.getElem?_modify, hk, Ne.symm hk]⟩ hh
      have hall : All2 (eB.r (Hp.of (w.freeze ⟨g, cs.length, none⟩ 1))) l css := s3.im' (R := allI eB l css) (.tail _ (.head _))
      have hcss := all2_e1.1 hall
      refine St.back ?_ hm
      refine St.freeze (A := blk g (.cells cs.toArray E (cs.length, cs.length + 1))) (s3.weak fun m h hs => hs.skip fun b hb => hb.tail) ?_
      intro m h dj hA
      refine ⟨some ⟨g, 0, none⟩, c, css, rfl, hc1, all2_e1.2 hcss, .inr ⟨g, 0, cs.toArray, E, _, rfl, Hp.le_or_right dj _ _ hA, fun j u hj => ?_⟩⟩
      rw [Nat.zero_add]
      show cs.toArray[j]? = some u
      rw [← hcs]
      simp only [List.getElem?_toArray]
      rw [List.getElem?_append_left (List.getElem?_eq_some_iff.1 hj).1]
      exact hj
theorem made1 (z : Value) (n : Nat) : madeCells #[z] n = (List.replicate n z).toArray := by
  apply Array.ext
  · rw [size_madeCells]; simp
  · intro i h1 h2
    simp [madeCells, Nat.mod_one]
theorem dy_make {α : Type} {f : α → Value} {hf : ∀ a, (f a).oneCell' = true} (el : α) {e : TypeId} {zv : Value} {by_ n : Nat} {k1 k2 : IntKind} [ut : UL P t (.slice e)] [ti : TI P e zv 1 by_] (hz : f el = zv) (hx : a.eval x = .int k1 (n : Int)) (hy : a.eval y = .int k2 (n : Int)) (hb : by_ * n ≤ 281474976710656) (hn : n ≤ 1000000000) :
    DY P W0 L ⟨d, .makeSlice t x y, ty, pos, aft, gd⟩ a fun a' L' => ∃ g, a.put d (.slice (some ⟨g, 0, none⟩) n n) = a' ∧ L' = own e (e1 f hf) (.slice (some ⟨g, 0, none⟩) n n) (List.replicate n el) :: L :=
  dy_val fun w s => by
    obtain ⟨i, hi, hzz, hsz, hby⟩ := ti.pf
    have hz1 : zv.cells = #[zv] := by
      rw [← hz]
      have := hf el
      revert this
      generalize f el = v
      intro hv
      cases v <;> first | rfl | cases hv
    have hr := run_make_row (P := P) t e i zv ut.pf hi hzz hsz hz1 k1 k2 n (by rw [hby]; exact hb) (by omega) w
    refine ⟨_, w.alloc (.cells (madeCells #[zv] n) e), _, by unfold execOp; simp only [hx, hy, Sem.run_bind, hr, Result.andThen_ok, Sem.run_pure], ⟨w.heap.size, rfl, rfl⟩, ?_⟩
    refine (s.alloc (.cells (madeCells #[zv] n) e)).imp fun m h hh => ⟨(List.replicate n el).map fun b => [f b], all2_e1.2 rfl, .inr ⟨w.heap.size, n, madeCells #[zv] n, by rw [List.length_replicate], hh, by rw [List.length_replicate]; exact Nat.le_refl _, by unfold maxLen; omega, ?_, ?_⟩⟩
    · rw [size_madeCells]; show n = n * 1; rw [Nat.mul_one]
    · rw [flat_one, made1, List.length_replicate, hz.symm]
      show List.take (n * 1) (List.replicate n (f el)) = (List.replicate n el).map f
      rw [Nat.mul_one, List.map_replicate, List.take_of_length_le (by simp)]
theorem cutA0 {A : Option Addr} {c s : Nat} : cutA A c 0 s = A := by
  unfold cutA
  split
  · rfl
  · cases A with
    | none => rfl
    | some x => simp [Addr.add]
end
end Go.Proofs.Ytlmabajgnjiigaa
namespace Go.Proofs.Ytlmabajgnjiigaa
open Go Go.RowKit
set_option linter.unusedVariables false
set_option linter.unusedSimpArgs false
section
variable {P : Program} {W0 w : World} {L S : List HP} {a : Act} {d : Option Tmp} {ty : TypeId} {pos : String} {aft : Array Edge} {gd : Option (Nat × Bool)}
theorem CT_enterD {f : FuncId} {fn : Func} {c : Code} {args : Array Value} {R : Value → List HP → Prop} (hf : P.funcs[f]? = some fn) (hb : fn.body = some c)
    (h : CL P W0 L c (bodyPostD P fn (RR W0 R)) { tmps := args ++ Array.replicate (fn.ntmps - args.size) undef, defers := [] }) : CT P f args W0 L R :=
  ⟨fun w s => calls_of_wp_defers hf hb (h.run w s)⟩
theorem dy_defer {x : Operand} {g : FuncId} {A B : Array Value} (hx : a.eval x = .func (.func g) A B) :
    DY P W0 L ⟨d, .defer { callee := .value x, args := #[], argTypes := #[] }, ty, pos, aft, gd⟩ a fun a' L' => ({ a with defers := { target := .fn (.func g) B, args := A } :: a.defers } : Act).put d undef = a' ∧ L' = L := by
  refine ⟨fun w s => ?_⟩
  have hr : (execOp a.eval (⟨d, .defer { callee := .value x, args := #[], argTypes := #[] }, ty, pos, aft, gd⟩ : Oper)).run P w = .ok (.defer { target := .fn (.func g) B, args := A }) w := by
    unfold execOp
    simp [resolve, hx, Deferred.ofValue]
  unfold Oper.wp
  rw [hr]
  exact ⟨L, ⟨rfl, rfl⟩, s⟩
theorem results_cell {fn : Func} {t : Tmp} {T : TypeId} [AG P T false] {tmps : Array Value} {b : Nat} {v : Value} (hr : fn.results = #[.cell t T]) (ht : tmps.getD t undef = .pointer (some ⟨b, 0, none⟩)) {U : TypeId} {cs : List Value} (hm : cel b cs U ∈ L) (hv : cs[0]? = some v) (s : St W0 w L) :
    (results fn tmps).run P w = .ok v w := by
  have := load_run (P := P) (t := T) (s.cellAt hm hv)
  obtain ⟨dd, hu, hd⟩ := (inferInstance : AG P T false).pf
  have h2 : (loadVar T ⟨b, 0, none⟩).run P w = .ok v w := by
    simpa [Instr.loadAt, Instr.sureAddr] using this
  have ht' : tmps[t]?.getD undef = .pointer (some ⟨b, 0, none⟩) := by simpa using ht
  unfold results
  simp [hr, ht', asAddr, h2]
/-- a result in a cell, nothing deferred -/
theorem E_cell0 {fn : Func} {R : Value → List HP → Prop} {t : Tmp} {T : TypeId} [AG P T false] {e : Exit} (he : e = .ret) (hd : a.defers = []) (hr : fn.results = #[.cell t T]) {b : Nat} {v : Value} (ht : a.eval (.tmp t) = .pointer (some ⟨b, 0, none⟩)) {U : TypeId} {cs : List Value} (hm : cel b cs U ∈ L) (hv : cs[0]? = some v) {L2 : List HP} (hR : R v L2) (hS : Sub L L2) :
    EL W0 L (bodyPostD P fn (RR W0 R)) e a := by
  subst he
  refine ⟨fun w s => ?_⟩
  show Leaves P fn a.tmps _ a.defers .returning w
  rw [hd]
  exact ⟨v, results_cell hr (by simpa [Act.eval] using ht) hm hv s, v, L2, rfl, hR, hS.st s⟩
/-- a function that may be called where another leaves -/
def CD (P : Program) (f : FuncId) (args : Array Value) (W0 : World) (L : List HP) (R : Value → List HP → Prop) : Prop :=
  ∃ fn c, P.funcs[f]? = some fn ∧ fn.body = some c ∧ CL P W0 L c (bodyPost P fn (RR W0 R)) { tmps := args ++ Array.replicate (fn.ntmps - args.size) undef, defers := [] }
/-- a result in a cell, one closure deferred -/
theorem E_cell1 {fn : Func} {R R1 : Value → List HP → Prop} {t : Tmp} {T : TypeId} [AG P T false] {e : Exit} (he : e = .ret) {g : FuncId} {B : Array Value} (hd : a.defers = [{ target := .fn (.func g) B, args := #[] }]) (hr : fn.results = #[.cell t T])
    (eg : Enters P g) {b : Nat} (ht : a.eval (.tmp t) = .pointer (some ⟨b, 0, none⟩)) (h : CD P g B W0 L R1) (k : ∀ v1 L1, R1 v1 L1 → ∃ v cs U L2, cel b cs U ∈ L1 ∧ cs[0]? = some v ∧ R v L2 ∧ Sub L1 L2) :
    EL W0 L (bodyPostD P fn (RR W0 R)) e a := by
  subst he
  obtain ⟨fg, c, hg, hb, hc⟩ := h
  refine ⟨fun w s => ?_⟩
  show Leaves P fn a.tmps _ a.defers .returning w
  rw [hd]
  refine leaves_cons (f := g) (args := B) (by simp) ?_ ((callsD_of_wp hg hb (hc.run w s)).mono ?_)
  · have := eg B w
    simpa [invoke] using this
  · rintro e u' w' ⟨rfl, v1, L1, rfl, hR1, s1⟩
    obtain ⟨v, cs, U, L2, hm, hv, hR, hS⟩ := k v1 L1 hR1
    exact ⟨v, results_cell hr (by simpa [Act.eval] using ht) hm hv s1, v, L2, rfl, hR, hS.st s1⟩
end
end Go.Proofs.Ytlmabajgnjiigaa
