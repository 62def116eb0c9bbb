/-
  Range over functions, with what is handed over not known ahead. No program.
-/
import Derived.Lib.Hide
import Derived.Shelf.SortM.Plain
import Derived.Shelf.SortM.SortNone
import Derived.Ground.SlgmProg
import Derived.Test.YtikdelkcpapgdaaMJ
import Derived.Test.YtikdelkcpapgdaaMC
namespace Go.Proofs.Ytikdelkcpapgdaa
open Go Go.RowKit
set_option linter.unusedVariables false
set_option linter.unusedSimpArgs false
section
variable {P : Program} {ops : Array Oper} {Q : Exit → Act → World → Prop} {rest : List Oper} {o : Oper} {a : Act} {W0 w : World} {L : List HP}
/-- An iterator's promise: it hands over ys one by one, each at some k, with what then holds. E: what it needs, and leaves. -/
def GivesR {β κ : Type} (P : Program) (gf : FuncId) (lb : Array Value) (arg : β → κ → Array Value) (hs : β → κ → List HP) (ys : List β) (E : List HP) : Prop :=
  ∀ (l : Nat) (W0 : World) (J : List β → HP),
    (∀ pre y post k W, ys = pre ++ y :: post → St W0 W (hs y k ++ (J pre :: E)) → Yields P l (arg y k) W fun e W' => e = .returned (.bool true) ∧ St W0 W' (J (pre ++ [y]) :: E)) →
    CT P gf (#[.func (.yield l) #[] #[]] ++ lb) W0 (J [] :: E) fun r L' => L' = J ys :: E
theorem C_rangeR {β κ : Type} {g : Operand} {ps : Array Tmp} {assign body : Code} {gf : FuncId} {lb : Array Value} (hg : a.eval g = .func (.func gf) #[] lb) (eg : Enters P gf)
    {arg : β → κ → Array Value} {hs : β → κ → List HP} {ys : List β} {E : List HP} (hit : GivesR P gf lb arg hs ys E) (hps : ∀ y k, (arg y k).size = ps.size) (I : List β → List HP) (hL : Sub L (I [] ++ E))
    (hbody : ∀ (l D : Nat) (rec : Obj) (pre : List β) (y : β) (post : List β) (k : κ), ys = pre ++ y :: post →
      ∃ a₁, (∀ W K, K a₁ W → assign.wpIn (Fr (some l)) 0 P (Exit.then K (fun _ _ _ => False)) { tmps := (ps.zip (arg y k)).foldl (fun t (p, v) => t.setIfInBounds p v) a.tmps, defers := [] } W) ∧
      ∀ W, St W0 W (blk l rec :: blk D (.deferred (some [])) :: (I pre ++ (hs y k ++ E))) → body.wpIn (Fr (some l)) 0 P (fun e _ W' => e = .normal ∧ St W0 W' (blk l rec :: blk D (.deferred (some [])) :: (I (pre ++ [y]) ++ E))) a₁ W)
    (hdone : ∀ D : Nat, EL W0 (blk D (.deferred (some [])) :: (I ys ++ E)) Q .normal { a with defers := { target := .collected D, args := #[] } :: a.defers }) :
    CL P W0 L (Code.rangeFunc g ps assign body) Q a := by
  refine ⟨fun w hS0 => ?_⟩
  have hS := hL.st hS0
  clear hS0
  refine (wpIn_wide (n := 0)).1 (wpIn_rangeFunc ?_)
  intro fn _
  obtain ⟨rec, hrec⟩ : ∃ rec : LoopState → Option Code → Loop, rec = fun st pe => { state := st, pending := pe, fn, tmps := a.tmps, params := ps, assign, body, defers := w.heap.size } := ⟨_, rfl⟩
  have hS1 := (hS.alloc (.deferred (some []))).alloc (.loop (rec .ready none))
  rw [World.size_alloc] at hS1
  generalize hl : w.heap.size + 1 = l at hS1
  generalize hD : w.heap.size = D at hS1 hl hrec
  have henter := run_enterLoop_outer (P := P) (w := w) fn a.tmps ps assign body
  rw [hD] at henter
  rw [hl] at henter
  have hr1 : (rec .ready none) = { state := .ready, pending := none, fn, tmps := a.tmps, params := ps, assign, body, defers := D } := by rw [hrec]
  rw [← hr1] at henter
  generalize hw1 : (w.alloc (.deferred (some []))).alloc (.loop (rec .ready none)) = w1 at henter hS1
  refine ⟨l, [{ target := .collected D, args := #[] }], w1, { target := .fn (.func gf) lb, args := #[.func (.yield l) #[] #[]] }, w1, gf,
    #[.func (.yield l) #[] #[]] ++ lb, w1, henter, ?_, fun _ _ => trivial, ?_, (fun hn => (by cases hn)), ?_⟩
  · simp only [resolve, hg]
    simp [go_sem]
  · exact eg _ _
  · have hJ : St W0 w1 (sp (blk l (.loop (rec .ready none)) :: blk D (.deferred (some [])) :: I []) :: E) := St.close_ (L := blk l (.loop (rec .ready none)) :: blk D (.deferred (some [])) :: I []) hS1
    refine callsIn_wide.2 (Calls.mono ((hit l W0 (fun pre => sp (blk l (.loop (rec .ready none)) :: blk D (.deferred (some [])) :: I pre)) ?_).run w1 hJ) ?_)
    · intro pre y post k W hx hW0
      have hW : St W0 W (blk l (.loop (rec .ready none)) :: blk D (.deferred (some [])) :: (I pre ++ (hs y k ++ E))) := (hW0.perm List.perm_middle).open_
      clear hW0
      have hblk : W.heap[l]? = some (.loop (rec .ready none)) := St.blk_ hW
      have hrp : (rec .ready none).params = ps := by rw [hrec]
      refine ⟨fn, (ps.zip (arg y k)).foldl (fun t (p, v) => t.setIfInBounds p v) a.tmps, assign, body, ?_, ?_⟩
      · have := run_yield (P := P) (args := arg y k) hblk (by rw [hrp]; exact hps y k)
        rw [this, hrec]
      · refine roundIn_of_wpIn trivial ?_
        obtain ⟨a₁, has, hb⟩ := hbody l D (.loop (rec .busy none)) pre y post k hx
        refine has W _ ?_
        refine ⟨W.putObj l (.loop (rec .busy none)), ?_, ?_⟩
        · have := run_beginRound (P := P) hblk (by rw [hrec])
          rw [this, hrec]
        · refine wpIn_mono (hb _ (St.putObj hW)) ?_
          rintro e a' W' ⟨rfl, hW'⟩
          have hblk' : W'.heap[l]? = some (.loop (rec .busy none)) := St.blk_ hW'
          refine ⟨_, _, run_endRound (P := P) none hblk', rfl, ?_⟩
          have h2 := St.putObj (o' := .loop (rec .ready none)) hW'
          have h3 : St W0 (W'.putObj l (.loop (rec .ready none))) (sp (blk l (.loop (rec .ready none)) :: blk D (.deferred (some [])) :: I (pre ++ [y])) :: E) := St.close_ (L := blk l (.loop (rec .ready none)) :: blk D (.deferred (some [])) :: I (pre ++ [y])) h2
          rw [hrec] at h3 ⊢
          exact h3
    · rintro e W' ⟨v, L', rfl, rfl, hW0⟩
      have hW' : St W0 W' (blk l (.loop (rec .ready none)) :: blk D (.deferred (some [])) :: (I ys ++ E)) := hW0.open_
      have hblk' : W'.heap[l]? = some (.loop (rec .ready none)) := St.blk_ hW'
      refine ⟨none, W'.putObj l (.loop { rec .ready none with state := .exhausted }), ?_, ?_⟩
      · rw [run_endLoop (P := P) hblk' (by rw [hrec]; simp), hrec]
      · exact (hdone D).run _ (St.drop (St.putObj hW'))
/-- 'if !yield(x, y)': the region of the call -/
theorem C_yield2 {id : Nat} {d1 d2 d3 d4 d5 : Tmp} {f x y : Operand} {t1 t2 t3 t4 t5 u5 : TypeId} {p1 p2 p3 p4 p5 : String} {q1 q2 q3 q4 q5 : Array Edge} {ats : Array TypeId} {l : Nat} {v1 v2 w1 w2 w3 : Value} {L' : List HP} {a1 a2 a3 a4 a5 : Act}
    (e1 : a.eval f = w1) (h1 : a.put (some d1) w1 = a1) (e2 : a1.eval x = w2) (h2 : a1.put (some d2) w2 = a2) (e3 : a2.eval y = w3) (h3 : a2.put (some d3) w3 = a3) (h4 : a3.put (some d4) (.bool true) = a4) (h5 : a4.put (some d5) (.bool false) = a5)
    (hF : a3.eval (.tmp d1) = .func (.yield l) #[] #[]) (hX : a3.eval (.tmp d2) = v1) (hY : a3.eval (.tmp d3) = v2) (hB : a4.eval (.tmp d4) = .bool true)
    (hy : ∀ w, St W0 w L → Yields P l #[v1, v2] w fun e w' => e = .returned (.bool true) ∧ St W0 w' L')
    (k : EL W0 L' Q .normal a5) :
    CL P W0 L (Code.region id #[⟨some d1, .move f, t1, p1, q1, none⟩, ⟨some d2, .move x, t2, p2, q2, none⟩, ⟨some d3, .move y, t3, p3, q3, none⟩, ⟨some d4, .call { callee := .value (.tmp d1), args := #[.tmp d2, .tmp d3], argTypes := ats }, t4, p4, q4, none⟩, ⟨some d5, .unOp .not u5 (.tmp d4), t5, p5, q5, none⟩] false) Q a := by
  refine ⟨fun w hS => ?_⟩
  subst h1 h2 h3 h4 h5
  subst e1 e2 e3
  refine (wpIn_wide (n := 0)).1 (wpIn_region_lit ?_)
  refine wlIn_move (wlIn_move (wlIn_move (wlIn_yield (l := l) (args := #[v1, v2]) (R := fun e w' => e = .returned (.bool true) ∧ St W0 w' L') rfl rfl hF (by rw [← hX, ← hY]; simp only [List.map_toArray, List.map_cons, List.map_nil]) (hy w hS) (fun e w' h => ⟨_, h.1⟩) ?_)))
  rintro v' w' ⟨hv, h⟩
  injection hv with hv
  subst hv
  exact wlIn_not (b := true) hB (wpListIn_nil (k.run w' h))
/-- the body of a range over a function, at round l -/
structure CI (l : Nat) (P : Program) (W0 : World) (L : List HP) (c : Code) (Q : Exit → Act → World → Prop) (a : Act) : Prop where
  run : ∀ w, St W0 w L → c.wpIn (Fr (some l)) 0 P Q a w
theorem CI_block {l id : Nat} {c : Code} (h : CI l P W0 L c (Exit.inBlock id Q) a) : CI l P W0 L (.block id c) Q a := ⟨fun w s => wpIn_block (h.run w s)⟩
theorem CI_seq {l : Nat} {x y : Code} (h : CI l P W0 L x (Exit.then (y.wpIn (Fr (some l)) 0 P Q) Q) a) : CI l P W0 L (.seq x y) Q a := ⟨fun w s => wpIn_seq (h.run w s)⟩
theorem CI_region {l id : Nat} {ls : List Oper} (hout : ∀ a w, ¬ Q .outgrown a w) (hd : (ls.all fun o => match o.op with | .defer _ => false | _ => true) = true) (h : OL P W0 L ls.toArray Q ls a) : CI l P W0 L (.region id ls.toArray false) Q a :=
  ⟨fun w s => wpIn_region_frl hout (noDefer hd) (h.run w s)⟩
theorem EI_then {l : Nat} {y : Code} {Q' : Exit → Act → World → Prop} (h : CI l P W0 L y Q a) : EL W0 L (Exit.then (y.wpIn (Fr (some l)) 0 P Q) Q') .normal a := ⟨h.run⟩
theorem wpIn_assignG {r : Option Nat} {n id : Nat} {d : Tmp} {x : Operand} {v : Value} {a' : Act} {ty : TypeId} {pos : String} {aft : Array Edge} {W : World} (hx : a.eval x = v) (hp : a.put (some d) v = a') (hout : ∀ a w, ¬ Q .outgrown a w) (h : Q .normal a' W) :
    (Code.region id #[⟨some d, .assign x, ty, pos, aft, none⟩] false).wpIn (Fr r) n P Q a W := by
  subst hx hp
  refine wpIn_region_fr hout (fun o ho c => ?_) ?_
  · simp at ho; subst ho; simp
  · show wpList P _ _ [_] a W
    refine step_val (v := a.eval x) (w' := W) (by rfl) (by unfold execOp; simp) ?_
    exact h
theorem zip2 {p q : Tmp} {v u : Value} {t : Array Value} : (#[p, q].zip #[v, u]).foldl (fun t (p, v) => t.setIfInBounds p v) t = (t.setIfInBounds p v).setIfInBounds q u := by simp
theorem CT_enterM {f : FuncId} {fn : Func} {c : Code} {args : Array Value} {R : Value → List HP → Prop} (hf : P.funcs[f]? = some fn) (hb : fn.body = some c)
    (h : CL P W0 L c (bodyPostM Fence.wide 0 P fn (RR W0 R)) { tmps := args ++ Array.replicate (fn.ntmps - args.size) undef, defers := [] }) : CT P f args W0 L R :=
  ⟨fun w s => callsIn_wide.1 (callsIn_of_wp_marks (n := 0) hf hb trivial (wpIn_wide.2 (h.run w s)))⟩
theorem E_res1d {fn : Func} {R : Value → List HP → Prop} {t : Tmp} {v : Value} {D : Nat} {L2 : List HP} (hd : a.defers = [{ target := .collected D, args := #[] }]) (hr : fn.results = #[.tmp t]) (hv : a.eval (.tmp t) = v) (hR : R v L2) (hS : Sub L (blk D (.deferred (some [])) :: L2)) : EL W0 L (bodyPostM Fence.wide 0 P fn (RR W0 R)) .ret a := by
  refine ⟨fun w s => ?_⟩
  subst hv
  exact post_marks hd (hS.st s) (results_tmp hr _ _) (fun w' h => ⟨_, _, rfl, hR, h⟩)
theorem E_res2d {fn : Func} {R : Value → List HP → Prop} {t u : Tmp} {v v' : Value} {D : Nat} {L2 : List HP} (hd : a.defers = [{ target := .collected D, args := #[] }]) (hr : fn.results = #[.tmp t, .tmp u]) (hv : a.eval (.tmp t) = v) (hv' : a.eval (.tmp u) = v') (hR : R (.tuple #[v, v']) L2) (hS : Sub L (blk D (.deferred (some [])) :: L2)) : EL W0 L (bodyPostM Fence.wide 0 P fn (RR W0 R)) .ret a := by
  refine ⟨fun w s => ?_⟩
  subst hv hv'
  exact post_marks hd (hS.st s) (results_tmp2 hr _ _) (fun w' h => ⟨_, _, rfl, hR, h⟩)
end
end Go.Proofs.Ytikdelkcpapgdaa
namespace Go.Proofs.Ytikdelkcpapgdaa
open Go Go.RowKit
set_option linter.unusedVariables false
set_option linter.unusedSimpArgs false
section
variable {P : Program} {ops : Array Oper} {Q : Exit → Act → World → Prop} {rest : List Oper} {o : Oper} {a : Act} {W0 w : World} {L : List HP}
/-- An iterator's promise: it hands over one by one, each that nx lets come behind those before, and at the end fin holds of all. E: what it needs, and leaves. -/
def GivesP {β κ : Type} (P : Program) (gf : FuncId) (lb : Array Value) (arg : β → κ → Array Value) (hs : β → κ → List HP) (nx : List β → β → Prop) (fin : List β → Prop) (E : List HP) : Prop :=
  ∀ (l : Nat) (W0 : World) (J : List β → HP),
    (∀ pre y k W E1, nx pre y → St W0 W (hs y k ++ (J pre :: E1)) → Yields P l (arg y k) W fun e W' => e = .returned (.bool true) ∧ St W0 W' (J (pre ++ [y]) :: E1)) →
    CT P gf (#[.func (.yield l) #[] #[]] ++ lb) W0 (J [] :: E) fun r L' => ∃ ys, fin ys ∧ L' = J ys :: E
theorem C_rangeP {β κ : Type} {g : Operand} {ps : Array Tmp} {assign body : Code} {gf : FuncId} {lb : Array Value} (hg : a.eval g = .func (.func gf) #[] lb) (eg : Enters P gf)
    {arg : β → κ → Array Value} {hs : β → κ → List HP} {nx : List β → β → Prop} {fin : List β → Prop} {E : List HP} (hit : GivesP P gf lb arg hs nx fin E) (hps : ∀ y k, (arg y k).size = ps.size) (I : List β → List HP) (hL : Sub L (I [] ++ E))
    (hbody : ∀ (l D : Nat) (rec : Obj) (pre : List β) (y : β) (k : κ), nx pre y →
      ∃ a₁, (∀ W K, K a₁ W → assign.wpIn (Fr (some l)) 0 P (Exit.then K (fun _ _ _ => False)) { tmps := (ps.zip (arg y k)).foldl (fun t (p, v) => t.setIfInBounds p v) a.tmps, defers := [] } W) ∧
      ∀ W E, St W0 W (blk l rec :: blk D (.deferred (some [])) :: (I pre ++ (hs y k ++ E))) → body.wpIn (Fr (some l)) 0 P (fun e _ W' => e = .normal ∧ St W0 W' (blk l rec :: blk D (.deferred (some [])) :: (I (pre ++ [y]) ++ E))) a₁ W)
    (hdone : ∀ (D : Nat) (ys : List β), fin ys → EL W0 (blk D (.deferred (some [])) :: (I ys ++ E)) Q .normal { a with defers := { target := .collected D, args := #[] } :: a.defers }) :
    CL P W0 L (Code.rangeFunc g ps assign body) Q a := by
  refine ⟨fun w hS0 => ?_⟩
  have hS := hL.st hS0
  clear hS0
  refine (wpIn_wide (n := 0)).1 (wpIn_rangeFunc ?_)
  intro fn _
  obtain ⟨rec, hrec⟩ : ∃ rec : LoopState → Option Code → Loop, rec = fun st pe => { state := st, pending := pe, fn, tmps := a.tmps, params := ps, assign, body, defers := w.heap.size } := ⟨_, rfl⟩
  have hS1 := (hS.alloc (.deferred (some []))).alloc (.loop (rec .ready none))
  rw [World.size_alloc] at hS1
  generalize hl : w.heap.size + 1 = l at hS1
  generalize hD : w.heap.size = D at hS1 hl hrec
  have henter := run_enterLoop_outer (P := P) (w := w) fn a.tmps ps assign body
  rw [hD] at henter
  rw [hl] at henter
  have hr1 : (rec .ready none) = { state := .ready, pending := none, fn, tmps := a.tmps, params := ps, assign, body, defers := D } := by rw [hrec]
  rw [← hr1] at henter
  generalize hw1 : (w.alloc (.deferred (some []))).alloc (.loop (rec .ready none)) = w1 at henter hS1
  refine ⟨l, [{ target := .collected D, args := #[] }], w1, { target := .fn (.func gf) lb, args := #[.func (.yield l) #[] #[]] }, w1, gf,
    #[.func (.yield l) #[] #[]] ++ lb, w1, henter, ?_, fun _ _ => trivial, ?_, (fun hn => (by cases hn)), ?_⟩
  · simp only [resolve, hg]
    simp [go_sem]
  · exact eg _ _
  · have hJ : St W0 w1 (sp (blk l (.loop (rec .ready none)) :: blk D (.deferred (some [])) :: I []) :: E) := St.close_ (L := blk l (.loop (rec .ready none)) :: blk D (.deferred (some [])) :: I []) hS1
    refine callsIn_wide.2 (Calls.mono ((hit l W0 (fun pre => sp (blk l (.loop (rec .ready none)) :: blk D (.deferred (some [])) :: I pre)) ?_).run w1 hJ) ?_)
    · intro pre y k W E1 hx hW0
      have hW : St W0 W (blk l (.loop (rec .ready none)) :: blk D (.deferred (some [])) :: (I pre ++ (hs y k ++ E1))) := (hW0.perm List.perm_middle).open_
      clear hW0
      have hblk : W.heap[l]? = some (.loop (rec .ready none)) := St.blk_ hW
      have hrp : (rec .ready none).params = ps := by rw [hrec]
      refine ⟨fn, (ps.zip (arg y k)).foldl (fun t (p, v) => t.setIfInBounds p v) a.tmps, assign, body, ?_, ?_⟩
      · have := run_yield (P := P) (args := arg y k) hblk (by rw [hrp]; exact hps y k)
        rw [this, hrec]
      · refine roundIn_of_wpIn trivial ?_
        obtain ⟨a₁, has, hb⟩ := hbody l D (.loop (rec .busy none)) pre y k hx
        refine has W _ ?_
        refine ⟨W.putObj l (.loop (rec .busy none)), ?_, ?_⟩
        · have := run_beginRound (P := P) hblk (by rw [hrec])
          rw [this, hrec]
        · refine wpIn_mono (hb _ E1 (St.putObj hW)) ?_
          rintro e a' W' ⟨rfl, hW'⟩
          have hblk' : W'.heap[l]? = some (.loop (rec .busy none)) := St.blk_ hW'
          refine ⟨_, _, run_endRound (P := P) none hblk', rfl, ?_⟩
          have h2 := St.putObj (o' := .loop (rec .ready none)) hW'
          have h3 : St W0 (W'.putObj l (.loop (rec .ready none))) (sp (blk l (.loop (rec .ready none)) :: blk D (.deferred (some [])) :: I (pre ++ [y])) :: E1) := St.close_ (L := blk l (.loop (rec .ready none)) :: blk D (.deferred (some [])) :: I (pre ++ [y])) h2
          rw [hrec] at h3 ⊢
          exact h3
    · rintro e W' ⟨v, L', rfl, ⟨ys, hfin, rfl⟩, hW0⟩
      have hW' : St W0 W' (blk l (.loop (rec .ready none)) :: blk D (.deferred (some [])) :: (I ys ++ E)) := hW0.open_
      have hblk' : W'.heap[l]? = some (.loop (rec .ready none)) := St.blk_ hW'
      refine ⟨none, W'.putObj l (.loop { rec .ready none with state := .exhausted }), ?_, ?_⟩
      · rw [run_endLoop (P := P) hblk' (by rw [hrec]; simp), hrec]
      · exact (hdone D ys hfin).run _ (St.drop (St.putObj hW'))
/-- 'if !yield(x)': the region of the call -/
theorem C_yield1 {id : Nat} {d1 d2 d4 d5 : Tmp} {f x : Operand} {t1 t2 t4 t5 u5 : TypeId} {p1 p2 p4 p5 : String} {q1 q2 q4 q5 : Array Edge} {ats : Array TypeId} {l : Nat} {v1 w1 w2 : Value} {L' : List HP} {a1 a2 a4 a5 : Act}
    (e1 : a.eval f = w1) (h1 : a.put (some d1) w1 = a1) (e2 : a1.eval x = w2) (h2 : a1.put (some d2) w2 = a2) (h4 : a2.put (some d4) (.bool true) = a4) (h5 : a4.put (some d5) (.bool false) = a5)
    (hF : a2.eval (.tmp d1) = .func (.yield l) #[] #[]) (hX : a2.eval (.tmp d2) = v1) (hB : a4.eval (.tmp d4) = .bool true)
    (hy : ∀ w, St W0 w L → Yields P l #[v1] w fun e w' => e = .returned (.bool true) ∧ St W0 w' L')
    (k : EL W0 L' Q .normal a5) :
    CL P W0 L (Code.region id #[⟨some d1, .move f, t1, p1, q1, none⟩, ⟨some d2, .move x, t2, p2, q2, none⟩, ⟨some d4, .call { callee := .value (.tmp d1), args := #[.tmp d2], argTypes := ats }, t4, p4, q4, none⟩, ⟨some d5, .unOp .not u5 (.tmp d4), t5, p5, q5, none⟩] false) Q a := by
  refine ⟨fun w hS => ?_⟩
  subst h1 h2 h4 h5
  subst e1 e2
  refine (wpIn_wide (n := 0)).1 (wpIn_region_lit ?_)
  refine wlIn_move (wlIn_move (wlIn_yield (l := l) (args := #[v1]) (R := fun e w' => e = .returned (.bool true) ∧ St W0 w' L') rfl rfl hF (by rw [← hX]; simp only [List.map_toArray, List.map_cons, List.map_nil]) (hy w hS) (fun e w' h => ⟨_, h.1⟩) ?_))
  rintro v' w' ⟨hv, h⟩
  injection hv with hv
  subst hv
  exact wlIn_not (b := true) hB (wpListIn_nil (k.run w' h))
end
end Go.Proofs.Ytikdelkcpapgdaa
namespace Go.Proofs.Ytikdelkcpapgdaa
open Go Go.RowKit
set_option linter.unusedVariables false
set_option linter.unusedSimpArgs false
set_option maxRecDepth 20000
set_option synthInstance.maxSize 100000
set_option synthInstance.maxHeartbeats 400000
theorem bit_flip {y : UInt8} {k : Nat} (hk : k < 8) : ∃ z : UInt8, bits .xor .u8 (y.toNat : Int) (IntKind.u8.wrap (1 * 2 ^ k)) = (z.toNat : Int) ∧ z ≠ y := by
  have h : ∀ (k : Fin 8) (y : Fin 256), 0 ≤ bits .xor .u8 (y.val : Int) (IntKind.u8.wrap (1 * 2 ^ k.val)) ∧ bits .xor .u8 (y.val : Int) (IntKind.u8.wrap (1 * 2 ^ k.val)) < 256 ∧ bits .xor .u8 (y.val : Int) (IntKind.u8.wrap (1 * 2 ^ k.val)) ≠ (y.val : Int) := by decide +kernel
  obtain ⟨h1, h2, h3⟩ := h ⟨k, hk⟩ ⟨y.toNat, y.toNat_lt⟩
  dsimp only at h1 h2 h3
  have e : ((UInt8.ofNat (bits .xor .u8 (y.toNat : Int) (IntKind.u8.wrap (1 * 2 ^ k))).toNat).toNat : Int) = bits .xor .u8 (y.toNat : Int) (IntKind.u8.wrap (1 * 2 ^ k)) := by
    rw [UInt8.toNat_ofNat']
    omega
  refine ⟨UInt8.ofNat (bits .xor .u8 (y.toNat : Int) (IntKind.u8.wrap (1 * 2 ^ k))).toNat, e.symm, fun hz => h3 ?_⟩
  rw [← e, hz]
theorem O_front {P : Program} {W0 : World} {L Le : List HP} {ops : Array Oper} {Q : Exit → Act → World → Prop} {rest : List Oper} {a : Act} {A : HP} (i : Nat) (hi : L[i]? = some A) (he : L.eraseIdx i = Le) (k : OL P W0 (A :: Le) ops Q rest a) : OL P W0 L ops Q rest a := by
  subst he
  exact O_at hi k
section
variable {W0 : World} {L : List HP}
theorem Clone_ct {v : Value} {l : List UInt8} (hv : Src L eB v l) (hl : l.length ≤ 100000000000000) :
    CT Try.prog 37 #[v] W0 L fun r L' => ∃ A c, r = .slice A l.length c ∧ L' = own 5 eB (.slice A l.length c) l :: L := by
  refine CT_fact (fun w s => (hv.sl s).form) ?_
  rintro ⟨A, cap, rfl, hcap⟩
  cases A with
  | none =>
    refine CT_fact (fun w s => (hv.sl s).nil_of) ?_
    rintro rfl
    refine CT_enter Try.func37 rfl ?_; (simp only [Try.ntmps37, List.size_toArray, List.length_cons, List.length_nil, Nat.reduceAdd, Nat.reduceSub, Array.replicate_succ, Array.replicate_zero, List.push_toArray, List.append_toArray, List.nil_append, List.cons_append])
    repeat' (first | refine go ?_ | intro _ | (apply cG; first | refine cT ?_ | refine cF ?_ | refine cS (fun _ => ?_) fun _ => ?_) | (apply gW; refine sW ?_) | (apply gI; refine sI ?_) | (apply gE; refine sE ?_) | (apply gP; refine sP ?_) | (apply gC; refine sC ?_) | (apply gD; refine sD ?_) | fail)
    refine E_ownnil 5 eB ?_
    refine E_end1 (by rfl) (by rfl) Ev.pf ⟨none, 0, rfl, rfl⟩
  | some ad =>
    have hv : Sc L (.slice (some ad) l.length cap) eB l := ⟨hv⟩
    refine CT_enter Try.func37 rfl ?_; (simp only [Try.ntmps37, List.size_toArray, List.length_cons, List.length_nil, Nat.reduceAdd, Nat.reduceSub, Array.replicate_succ, Array.replicate_zero, List.push_toArray, List.append_toArray, List.nil_append, List.cons_append])
    repeat' (first | refine go ?_ | intro _ | (apply cG; first | refine cT ?_ | refine cF ?_ | refine cS (fun _ => ?_) fun _ => ?_) | (apply gW; refine sW ?_) | (apply gI; refine sI ?_) | (apply gE; refine sE ?_) | (apply gP; refine sP ?_) | (apply gC; refine sC ?_) | (apply gD; refine sD ?_) | fail)
    refine O_d (dy_lit0 eB rfl) ?_; rintro _ _ ⟨_, rfl, rfl⟩; refine O_n ?_
    repeat' (first | refine go ?_ | intro _ | (apply cG; first | refine cT ?_ | refine cF ?_ | refine cS (fun _ => ?_) fun _ => ?_) | (apply gW; refine sW ?_) | (apply gI; refine sI ?_) | (apply gE; refine sE ?_) | (apply gP; refine sP ?_) | (apply gC; refine sC ?_) | (apply gD; refine sD ?_) | fail)
    refine E_end1 (by rfl) (by rfl) Ev.pf ⟨_, _, rfl, rfl⟩
end
end Go.Proofs.Ytikdelkcpapgdaa
namespace Go.Proofs
open Go.RowKit Go.Sort Go.Shelf
def Try.sortL_ren : Go.Shelf.Ren := ⟨fun | 5 => 61 | 8 => 67 | 7 => 66 | 19 => 77 | 20 => 78 | 10 => 68 | 11 => 69 | 12 => 70 | 13 => 71 | 14 => 72 | 15 => 73 | 16 => 74 | 17 => 75 | 18 => 76 | 30 => 79 | 31 => 80 | 32 => 81 | 33 => 82 | 34 => 83 | 35 => 84 | 40 => 85 | n => n, fun | 23 => 33 | 25 => 3 | 3 => 3 | 32 => 77 | 22 => 33 | 0 => 0 | 44 => 106 | 46 => 61 | 4 => 4 | 36 => 98 | 35 => 97 | 41 => 103 | 5 => 5 | 9 => 9 | 53 => 108 | 57 => 112 | 63 => 114 | 64 => 115 | n => n, fun | n => n⟩
theorem Try.sortL : Go.Proofs.SlLaysM.n5 Try.prog Try.sortL_ren := {
  mixed := by kernel_rfl
  f5 := ⟨Try.f61.name, by decide, Try.func61.trans (congrArg some (by kernel_rfl))⟩
  f7 := ⟨Try.f66.name, by decide, Try.func66.trans (congrArg some (by kernel_rfl))⟩
  f8 := Try.func67.trans (congrArg some (by kernel_rfl))
  f10 := ⟨Try.f68.name, by decide, Try.func68.trans (congrArg some (by kernel_rfl))⟩
  f11 := ⟨Try.f69.name, by decide, Try.func69.trans (congrArg some (by kernel_rfl))⟩
  f12 := ⟨Try.f70.name, by decide, Try.func70.trans (congrArg some (by kernel_rfl))⟩
  f13 := ⟨Try.f71.name, by decide, Try.func71.trans (congrArg some (by kernel_rfl))⟩
  f14 := ⟨Try.f72.name, by decide, Try.func72.trans (congrArg some (by kernel_rfl))⟩
  f15 := ⟨Try.f73.name, by decide, Try.func73.trans (congrArg some (by kernel_rfl))⟩
  f16 := ⟨Try.f74.name, by decide, Try.func74.trans (congrArg some (by kernel_rfl))⟩
  f17 := ⟨Try.f75.name, by decide, Try.func75.trans (congrArg some (by kernel_rfl))⟩
  f18 := ⟨Try.f76.name, by decide, Try.func76.trans (congrArg some (by kernel_rfl))⟩
  f19 := Try.func77.trans (congrArg some (by kernel_rfl))
  f20 := Try.func78.trans (congrArg some (by kernel_rfl))
  f30 := ⟨Try.f79.name, by decide, Try.func79.trans (congrArg some (by kernel_rfl))⟩
  f31 := Try.func80.trans (congrArg some (by kernel_rfl))
  f32 := Try.func81.trans (congrArg some (by kernel_rfl))
  f33 := ⟨Try.f82.name, by decide, Try.func82.trans (congrArg some (by kernel_rfl))⟩
  f34 := ⟨Try.f83.name, by decide, Try.func83.trans (congrArg some (by kernel_rfl))⟩
  f35 := ⟨Try.f84.name, by decide, Try.func84.trans (congrArg some (by kernel_rfl))⟩
  f40 := ⟨Try.f85.name, by decide, Try.func85.trans (congrArg some (by kernel_rfl))⟩
  t0 := Try.underlying0
  a0 := Try.isAgg0
  z0 := Try.sizeOf0
  v0 := Try.zeroValue0
  t3 := Try.underlying3
  a3 := Try.isAgg3
  z3 := Try.sizeOf3
  v3 := Try.zeroValue3
  t4 := Try.underlying4
  a4 := Try.isAgg4
  z4 := Try.sizeOf4
  v4 := Try.zeroValue4
  t5 := Try.underlying5
  a5 := Try.isAgg5
  z5 := Try.sizeOf5
  v5 := Try.zeroValue5
  t9 := Try.underlying9
  a9 := Try.isAgg9
  z9 := Try.sizeOf9
  v9 := Try.zeroValue9
  t22 := Try.underlying33
  a22 := Try.isAgg33
  z22 := Try.sizeOf33
  v22 := Try.zeroValue33
  t23 := Try.underlying33
  a23 := Try.isAgg33
  z23 := Try.sizeOf33
  v23 := Try.zeroValue33
  t25 := Try.underlying3
  a25 := Try.isAgg3
  z25 := Try.sizeOf3
  v25 := Try.zeroValue3
  t32 := Try.underlying77
  a32 := Try.isAgg77
  z32 := Try.sizeOf77
  v32 := Try.zeroValue77
  t35 := Try.underlying97
  a35 := Try.isAgg97
  z35 := Try.sizeOf97
  v35 := Try.zeroValue97
  t36 := Try.underlying98
  a36 := Try.isAgg98
  z36 := Try.sizeOf98
  v36 := Try.zeroValue98
  t41 := Try.underlying103
  a41 := Try.isAgg103
  z41 := Try.sizeOf103
  v41 := Try.zeroValue103
  t44 := Try.underlying106
  a44 := Try.isAgg106
  z44 := Try.sizeOf106
  v44 := Try.zeroValue106
  t46 := Try.underlying61
  a46 := Try.isAgg61
  z46 := Try.sizeOf61
  v46 := Try.zeroValue61
  t53 := Try.underlying108
  a53 := Try.isAgg108
  z53 := Try.sizeOf108
  v53 := Try.zeroValue108
  t57 := Try.underlying112
  a57 := Try.isAgg112
  z57 := Try.sizeOf112
  v57 := Try.zeroValue112
  t63 := Try.underlying114
  a63 := Try.isAgg114
  z63 := Try.sizeOf114
  v63 := Try.zeroValue114
  t64 := Try.underlying115
  a64 := Try.isAgg115
  z64 := Try.sizeOf115
  v64 := Try.zeroValue115 }
end Go.Proofs
namespace Go.Proofs.Ytikdelkcpapgdaa
open Go Go.RowKit
set_option linter.unusedVariables false
set_option linter.unusedSimpArgs false
theorem putCells_get {enc : Int → Value} {d : Array Int} {c : Array Value} {k : Nat} : (Sort.putCells enc 0 d c)[k]? = (c[k]?).map fun x => if k < d.size then enc d[k]! else x := by
  unfold Sort.putCells
  rw [Array.getElem?_mapIdx]
  simp
theorem heap_putRow {enc : Int → Value} {w : World} {g off : Nat} {d : Array Int} {k : Nat} : (Sort.putRow enc w g off d).heap[k]? = if g = k then (w.heap[k]?).map (Sort.onCells (Sort.putCells enc off d)) else w.heap[k]? := by
  unfold Sort.putRow Sort.mapBlock
  rw [Array.getElem?_modify]
section
variable {W0 : World} {L : List HP}
theorem Sort_ct {A : Option Addr} {c : Nat} {l : List Int} (hl : l.length ≤ 1000000) :
    CT Try.prog 61 #[.slice A l.length c] W0 (own 3 eI (.slice A l.length c) l :: L) fun r L' => ∃ l', l'.Perm l ∧ l'.Pairwise (· ≤ ·) ∧ r = .tuple #[] ∧ L' = own 3 eI (.slice A l.length c) l' :: L := by
  by_cases h0 : l = []
  · subst h0
    refine ⟨fun w s => ?_⟩
    refine (AnyM.slices_Sort_int_none Try.sortL A c w).mono fun e w' ⟨he, hw⟩ => ?_
    subst he hw
    exact ⟨_, _, rfl, ⟨[], List.Perm.refl _, List.Pairwise.nil, rfl, rfl⟩, s⟩
  · refine ⟨fun w s => ?_⟩
    have s0 := s
    obtain ⟨_, _, _, _, m, h, _, hw, hh, _, a, b, _, ha, _, ⟨css, hall, hd⟩, _⟩ := s0
    rcases hd with ⟨_, e⟩ | ⟨g, cap, cur, hv, hg, hc, hcm, hcs, ht⟩
    · exact absurd e h0
    injection hv with e1 e2 e3
    subst e1 e3
    have hcur : w.heap[g]? = some (.cells cur 3 (0, 0)) := hh _ _ (ha _ _ hg)
    have hcss : css = l.map fun x => [Value.int .i64 x] := all2_e1.1 hall
    rw [hcss, flat_one] at ht
    have hsz1 : (1 : Nat) = eI.sz := rfl
    rw [← hsz1, Nat.mul_one] at ht hcs
    have hget : ∀ j, j < l.length → cur[j]? = some (.int .i64 l[j]!) := fun j hj => by
      have h2 := congrArg (fun q => q[j]?) ht
      simp only [List.getElem?_take, if_pos hj, List.getElem?_map] at h2
      rw [List.getElem?_eq_getElem hj] at h2
      rw [getElem!_pos l j hj]
      simpa using h2
    have hH : Sort.Holds (Value.int .i64) w g 0 l.toArray := fun j hj => by
      have hj2 : j < l.length := by simpa using hj
      refine ⟨?_, ?_⟩
      · simp only [World.cell?, hcur, Nat.zero_add]
        rw [hget j hj2]
        simp
      · simp [World.frozen?, hcur]
    refine (AnyM.slices_Sort_int Try.sortL g 0 c l w hH (Hp.of_lt hcur) (by omega)).mono fun e w' ⟨he, n, os, hw'⟩ => ?_
    subst he
    obtain ⟨l', hl'⟩ : ∃ l', (l.mergeSort fun x y => decide (x ≤ y)) = l' := ⟨_, rfl⟩
    rw [hl'] at hw'
    have hp : l'.Perm l := by rw [← hl']; exact List.mergeSort_perm _ _
    have hso : l'.Pairwise (· ≤ ·) := by
      rw [← hl']
      have := List.pairwise_mergeSort (le := fun x y : Int => decide (x ≤ y)) (fun a b c h1 h2 => by simp only [decide_eq_true_eq] at *; omega) (fun a b => by simp only [Bool.or_eq_true, decide_eq_true_eq]; omega) l
      exact this.imp fun h => by simpa using h
    have hll := hp.length_eq
    refine ⟨_, _, rfl, ⟨l', hp, hso, rfl, rfl⟩, ?_⟩
    have hkeep : ∀ k, k < w.heap.size → w'.heap[k]? = if g = k then some (.cells (Sort.putCells (Value.int .i64) 0 l'.toArray cur) 3 (0, 0)) else w.heap[k]? := fun k hk => by
      rw [hw', Sort.heap_grow_old _ _ (by simpa using hk), heap_putRow]
      split
      · rename_i e
        subst e
        show (w.heap[g]?).map _ = _
        rw [hcur]
        rfl
      · rfl
    refine s.turn (by rw [hw']; rfl) (by rw [hw']; rfl) (by rw [hw']; rfl) (by rw [hw']; simp) fun m2 a2 hA2 hm2 ha2 _ => ?_
    obtain ⟨css2, hall2, hd2⟩ := hA2
    rcases hd2 with ⟨_, e⟩ | ⟨g2, cap2, cur2, hv2, hg2, _⟩
    · exact absurd e h0
    injection hv2 with e1 e2 e3
    injection e1 with e1
    injection e1 with e1
    subst e1
    have hgk : g < w.heap.size := Hp.of_lt hcur
    refine ⟨Hp.one g (.cells (Sort.putCells (Value.int .i64) 0 l'.toArray cur) 3 (0, 0)), ⟨l'.map fun x => [Value.int .i64 x], all2_e1.2 rfl, .inr ⟨g, c, Sort.putCells (Value.int .i64) 0 l'.toArray cur, by rw [hll], by simp [Hp.one], by omega, hcm, ?_, ?_⟩⟩, ?_, ?_⟩
    · rw [← hsz1, Nat.mul_one, ← hcs]
      unfold Sort.putCells
      simp
    · rw [← hsz1, Nat.mul_one, flat_one]
      apply List.ext_getElem?
      intro j
      rw [List.getElem?_take, List.getElem?_map]
      by_cases hj : j < l'.length
      · rw [if_pos hj, List.getElem?_eq_getElem hj]
        have hj2 : j < l.length := by omega
        have := putCells_get (enc := Value.int .i64) (d := l'.toArray) (c := cur) (k := j)
        rw [hget j hj2] at this
        simp only [Option.map_some, List.size_toArray, if_pos hj] at this
        simpa [hj] using this
      · rw [if_neg hj, List.getElem?_eq_none (by omega)]
        rfl
    · intro k o e
      unfold Hp.one at e
      split at e
      · rename_i hk
        cases e
        have := hkeep k (by rw [hk]; exact hgk)
        rw [if_pos hk.symm] at this
        exact this
      · cases e
    · intro k hk hn
      have hne : g ≠ k := by
        rintro rfl
        rw [hg2] at hn
        cases hn
      refine ⟨by rw [hkeep k hk, if_neg hne], ?_⟩
      unfold Hp.one
      rw [if_neg (fun h => hne h.symm)]
end
end Go.Proofs.Ytikdelkcpapgdaa
