/-
  Range over functions, with what is handed over not known ahead. No program.
-/
import Derived.Test.YtbjaecofccpahaaMJ
import Derived.Test.YtbjaecofccpahaaMC
import Derived.Test.YtbjaecofccpahaaMS
import Derived.Test.YtbjaecofccpahaaML
namespace Go.Proofs.Ytbjaecofccpahaa
open Go Go.RowKit
set_option linter.unusedVariables false
set_option linter.unusedSimpArgs false
section
variable {P : Program} {ops : Array Oper} {Q : Exit → Act → World → Prop} {rest : List Oper} {o : Oper} {a : Act} {W0 w : World} {L : List HP}
/-- An iterator's promise: it hands over ys one by one, each at some k, with what then holds. E: what it needs, and leaves. -/
def GivesR {β κ : Type} (P : Program) (gf : FuncId) (lb : Array Value) (arg : β → κ → Array Value) (hs : β → κ → List HP) (ys : List β) (E : List HP) : Prop :=
  ∀ (l : Nat) (W0 : World) (J : List β → HP),
    (∀ pre y post k W, ys = pre ++ y :: post → St W0 W (hs y k ++ (J pre :: E)) → Yields P l (arg y k) W fun e W' => e = .returned (.bool true) ∧ St W0 W' (J (pre ++ [y]) :: E)) →
    CT P gf (#[.func (.yield l) #[] #[]] ++ lb) W0 (J [] :: E) fun r L' => L' = J ys :: E
theorem C_rangeR {β κ : Type} {g : Operand} {ps : Array Tmp} {assign body : Code} {gf : FuncId} {lb : Array Value} (hg : a.eval g = .func (.func gf) #[] lb) (eg : Enters P gf)
    {arg : β → κ → Array Value} {hs : β → κ → List HP} {ys : List β} {E : List HP} (hit : GivesR P gf lb arg hs ys E) (hps : ∀ y k, (arg y k).size = ps.size) (I : List β → List HP) (hL : Sub L (I [] ++ E))
    (hbody : ∀ (l D : Nat) (rec : Obj) (pre : List β) (y : β) (post : List β) (k : κ), ys = pre ++ y :: post →
      ∃ a₁, (∀ W K, K a₁ W → assign.wpIn (Fr (some l)) 0 P (Exit.then K (fun _ _ _ => False)) { tmps := (ps.zip (arg y k)).foldl (fun t (p, v) => t.setIfInBounds p v) a.tmps, defers := [] } W) ∧
      ∀ W, St W0 W (blk l rec :: blk D (.deferred (some [])) :: (I pre ++ (hs y k ++ E))) → body.wpIn (Fr (some l)) 0 P (fun e _ W' => e = .normal ∧ St W0 W' (blk l rec :: blk D (.deferred (some [])) :: (I (pre ++ [y]) ++ E))) a₁ W)
    (hdone : ∀ D : Nat, EL W0 (blk D (.deferred (some [])) :: (I ys ++ E)) Q .normal { a with defers := { target := .collected D, args := #[] } :: a.defers }) :
    CL P W0 L (Code.rangeFunc g ps assign body) Q a := by
  refine ⟨fun w hS0 => ?_⟩
  have hS := hL.st hS0
  clear hS0
  refine (wpIn_wide (n := 0)).1 (wpIn_rangeFunc ?_)
  intro fn _
  obtain ⟨rec, hrec⟩ : ∃ rec : LoopState → Option Code → Loop, rec = fun st pe => { state := st, pending := pe, fn, tmps := a.tmps, params := ps, assign, body, defers := w.heap.size } := ⟨_, rfl⟩
  have hS1 := (hS.alloc (.deferred (some []))).alloc (.loop (rec .ready none))
  rw [World.size_alloc] at hS1
  generalize hl : w.heap.size + 1 = l at hS1
  generalize hD : w.heap.size = D at hS1 hl hrec
  have henter := run_enterLoop_outer (P := P) (w := w) fn a.tmps ps assign body
  rw [hD] at henter
  rw [hl] at henter
  have hr1 : (rec .ready none) = { state := .ready, pending := none, fn, tmps := a.tmps, params := ps, assign, body, defers := D } := by rw [hrec]
  rw [← hr1] at henter
  generalize hw1 : (w.alloc (.deferred (some []))).alloc (.loop (rec .ready none)) = w1 at henter hS1
  refine ⟨l, [{ target := .collected D, args := #[] }], w1, { target := .fn (.func gf) lb, args := #[.func (.yield l) #[] #[]] }, w1, gf,
    #[.func (.yield l) #[] #[]] ++ lb, w1, henter, ?_, fun _ _ => trivial, ?_, (fun hn => (by cases hn)), ?_⟩
  · simp only [resolve, hg]
    simp [go_sem]
  · exact eg _ _
  · have hJ : St W0 w1 (sp (blk l (.loop (rec .ready none)) :: blk D (.deferred (some [])) :: I []) :: E) := St.close_ (L := blk l (.loop (rec .ready none)) :: blk D (.deferred (some [])) :: I []) hS1
    refine callsIn_wide.2 (Calls.mono ((hit l W0 (fun pre => sp (blk l (.loop (rec .ready none)) :: blk D (.deferred (some [])) :: I pre)) ?_).run w1 hJ) ?_)
    · intro pre y post k W hx hW0
      have hW : St W0 W (blk l (.loop (rec .ready none)) :: blk D (.deferred (some [])) :: (I pre ++ (hs y k ++ E))) := (hW0.perm List.perm_middle).open_
      clear hW0
      have hblk : W.heap[l]? = some (.loop (rec .ready none)) := St.blk_ hW
      have hrp : (rec .ready none).params = ps := by rw [hrec]
      refine ⟨fn, (ps.zip (arg y k)).foldl (fun t (p, v) => t.setIfInBounds p v) a.tmps, assign, body, ?_, ?_⟩
      · have := run_yield (P := P) (args := arg y k) hblk (by rw [hrp]; exact hps y k)
        rw [this, hrec]
      · refine roundIn_of_wpIn trivial ?_
        obtain ⟨a₁, has, hb⟩ := hbody l D (.loop (rec .busy none)) pre y post k hx
        refine has W _ ?_
        refine ⟨W.putObj l (.loop (rec .busy none)), ?_, ?_⟩
        · have := run_beginRound (P := P) hblk (by rw [hrec])
          rw [this, hrec]
        · refine wpIn_mono (hb _ (St.putObj hW)) ?_
          rintro e a' W' ⟨rfl, hW'⟩
          have hblk' : W'.heap[l]? = some (.loop (rec .busy none)) := St.blk_ hW'
          refine ⟨_, _, run_endRound (P := P) none hblk', rfl, ?_⟩
          have h2 := St.putObj (o' := .loop (rec .ready none)) hW'
          have h3 : St W0 (W'.putObj l (.loop (rec .ready none))) (sp (blk l (.loop (rec .ready none)) :: blk D (.deferred (some [])) :: I (pre ++ [y])) :: E) := St.close_ (L := blk l (.loop (rec .ready none)) :: blk D (.deferred (some [])) :: I (pre ++ [y])) h2
          rw [hrec] at h3 ⊢
          exact h3
    · rintro e W' ⟨v, L', rfl, rfl, hW0⟩
      have hW' : St W0 W' (blk l (.loop (rec .ready none)) :: blk D (.deferred (some [])) :: (I ys ++ E)) := hW0.open_
      have hblk' : W'.heap[l]? = some (.loop (rec .ready none)) := St.blk_ hW'
      refine ⟨none, W'.putObj l (.loop { rec .ready none with state := .exhausted }), ?_, ?_⟩
      · rw [run_endLoop (P := P) hblk' (by rw [hrec]; simp), hrec]
      · exact (hdone D).run _ (St.drop (St.putObj hW'))
/-- 'if !yield(x, y)': the region of the call -/
theorem C_yield2 {id : Nat} {d1 d2 d3 d4 d5 : Tmp} {f x y : Operand} {t1 t2 t3 t4 t5 u5 : TypeId} {p1 p2 p3 p4 p5 : String} {q1 q2 q3 q4 q5 : Array Edge} {ats : Array TypeId} {l : Nat} {v1 v2 w1 w2 w3 : Value} {L' : List HP} {a1 a2 a3 a4 a5 : Act}
    (e1 : a.eval f = w1) (h1 : a.put (some d1) w1 = a1) (e2 : a1.eval x = w2) (h2 : a1.put (some d2) w2 = a2) (e3 : a2.eval y = w3) (h3 : a2.put (some d3) w3 = a3) (h4 : a3.put (some d4) (.bool true) = a4) (h5 : a4.put (some d5) (.bool false) = a5)
    (hF : a3.eval (.tmp d1) = .func (.yield l) #[] #[]) (hX : a3.eval (.tmp d2) = v1) (hY : a3.eval (.tmp d3) = v2) (hB : a4.eval (.tmp d4) = .bool true)
    (hy : ∀ w, St W0 w L → Yields P l #[v1, v2] w fun e w' => e = .returned (.bool true) ∧ St W0 w' L')
    (k : EL W0 L' Q .normal a5) :
    CL P W0 L (Code.region id #[⟨some d1, .move f, t1, p1, q1, none⟩, ⟨some d2, .move x, t2, p2, q2, none⟩, ⟨some d3, .move y, t3, p3, q3, none⟩, ⟨some d4, .call { callee := .value (.tmp d1), args := #[.tmp d2, .tmp d3], argTypes := ats }, t4, p4, q4, none⟩, ⟨some d5, .unOp .not u5 (.tmp d4), t5, p5, q5, none⟩] false) Q a := by
  refine ⟨fun w hS => ?_⟩
  subst h1 h2 h3 h4 h5
  subst e1 e2 e3
  refine (wpIn_wide (n := 0)).1 (wpIn_region_lit ?_)
  refine wlIn_move (wlIn_move (wlIn_move (wlIn_yield (l := l) (args := #[v1, v2]) (R := fun e w' => e = .returned (.bool true) ∧ St W0 w' L') rfl rfl hF (by rw [← hX, ← hY]; simp only [List.map_toArray, List.map_cons, List.map_nil]) (hy w hS) (fun e w' h => ⟨_, h.1⟩) ?_)))
  rintro v' w' ⟨hv, h⟩
  injection hv with hv
  subst hv
  exact wlIn_not (b := true) hB (wpListIn_nil (k.run w' h))
/-- the body of a range over a function, at round l -/
structure CI (l : Nat) (P : Program) (W0 : World) (L : List HP) (c : Code) (Q : Exit → Act → World → Prop) (a : Act) : Prop where
  run : ∀ w, St W0 w L → c.wpIn (Fr (some l)) 0 P Q a w
theorem CI_block {l id : Nat} {c : Code} (h : CI l P W0 L c (Exit.inBlock id Q) a) : CI l P W0 L (.block id c) Q a := ⟨fun w s => wpIn_block (h.run w s)⟩
theorem CI_seq {l : Nat} {x y : Code} (h : CI l P W0 L x (Exit.then (y.wpIn (Fr (some l)) 0 P Q) Q) a) : CI l P W0 L (.seq x y) Q a := ⟨fun w s => wpIn_seq (h.run w s)⟩
theorem CI_region {l id : Nat} {ls : List Oper} (hout : ∀ a w, ¬ Q .outgrown a w) (hd : (ls.all fun o => match o.op with | .defer _ => false | _ => true) = true) (h : OL P W0 L ls.toArray Q ls a) : CI l P W0 L (.region id ls.toArray false) Q a :=
  ⟨fun w s => wpIn_region_frl hout (noDefer hd) (h.run w s)⟩
theorem EI_then {l : Nat} {y : Code} {Q' : Exit → Act → World → Prop} (h : CI l P W0 L y Q a) : EL W0 L (Exit.then (y.wpIn (Fr (some l)) 0 P Q) Q') .normal a := ⟨h.run⟩
theorem wpIn_assignG {r : Option Nat} {n id : Nat} {d : Tmp} {x : Operand} {v : Value} {a' : Act} {ty : TypeId} {pos : String} {aft : Array Edge} {W : World} (hx : a.eval x = v) (hp : a.put (some d) v = a') (hout : ∀ a w, ¬ Q .outgrown a w) (h : Q .normal a' W) :
    (Code.region id #[⟨some d, .assign x, ty, pos, aft, none⟩] false).wpIn (Fr r) n P Q a W := by
  subst hx hp
  refine wpIn_region_fr hout (fun o ho c => ?_) ?_
  · simp at ho; subst ho; simp
  · show wpList P _ _ [_] a W
    refine step_val (v := a.eval x) (w' := W) (by rfl) (by unfold execOp; simp) ?_
    exact h
theorem zip2 {p q : Tmp} {v u : Value} {t : Array Value} : (#[p, q].zip #[v, u]).foldl (fun t (p, v) => t.setIfInBounds p v) t = (t.setIfInBounds p v).setIfInBounds q u := by simp
theorem CT_enterM {f : FuncId} {fn : Func} {c : Code} {args : Array Value} {R : Value → List HP → Prop} (hf : P.funcs[f]? = some fn) (hb : fn.body = some c)
    (h : CL P W0 L c (bodyPostM Fence.wide 0 P fn (RR W0 R)) { tmps := args ++ Array.replicate (fn.ntmps - args.size) undef, defers := [] }) : CT P f args W0 L R :=
  ⟨fun w s => callsIn_wide.1 (callsIn_of_wp_marks (n := 0) hf hb trivial (wpIn_wide.2 (h.run w s)))⟩
theorem E_res1d {fn : Func} {R : Value → List HP → Prop} {t : Tmp} {v : Value} {D : Nat} {L2 : List HP} (hd : a.defers = [{ target := .collected D, args := #[] }]) (hr : fn.results = #[.tmp t]) (hv : a.eval (.tmp t) = v) (hR : R v L2) (hS : Sub L (blk D (.deferred (some [])) :: L2)) : EL W0 L (bodyPostM Fence.wide 0 P fn (RR W0 R)) .ret a := by
  refine ⟨fun w s => ?_⟩
  subst hv
  exact post_marks hd (hS.st s) (results_tmp hr _ _) (fun w' h => ⟨_, _, rfl, hR, h⟩)
theorem E_res2d {fn : Func} {R : Value → List HP → Prop} {t u : Tmp} {v v' : Value} {D : Nat} {L2 : List HP} (hd : a.defers = [{ target := .collected D, args := #[] }]) (hr : fn.results = #[.tmp t, .tmp u]) (hv : a.eval (.tmp t) = v) (hv' : a.eval (.tmp u) = v') (hR : R (.tuple #[v, v']) L2) (hS : Sub L (blk D (.deferred (some [])) :: L2)) : EL W0 L (bodyPostM Fence.wide 0 P fn (RR W0 R)) .ret a := by
  refine ⟨fun w s => ?_⟩
  subst hv hv'
  exact post_marks hd (hS.st s) (results_tmp2 hr _ _) (fun w' h => ⟨_, _, rfl, hR, h⟩)
end
end Go.Proofs.Ytbjaecofccpahaa
namespace Go.Proofs.Ytbjaecofccpahaa
open Go Go.RowKit
set_option linter.unusedVariables false
set_option linter.unusedSimpArgs false
set_option maxRecDepth 20000
set_option synthInstance.maxSize 100000
set_option synthInstance.maxHeartbeats 400000
def lastP (p : Nat) (ys : List (List UInt8 × Nat)) : Nat := ys.foldl (fun _ y => y.2) p
theorem lastP_snoc (p : Nat) (ys : List (List UInt8 × Nat)) (y : List UInt8 × Nat) : lastP p (ys ++ [y]) = y.2 := by unfold lastP; rw [List.foldl_append]; rfl
def scanY : Nat → Nat → List UInt8 → Nat → List (List UInt8 × Nat)
  | 0, _, _, _ => []
  | n + 1, i, b, p => if p < b.length ∧ isF (i : Int) (b.drop p) = true then (recF (b.drop p), p + (frameF (i : Int) (recF (b.drop p))).length) :: scanY n (i + 1) b (p + (frameF (i : Int) (recF (b.drop p))).length) else []
theorem scanY_scanF : ∀ (n i : Nat) (b : List UInt8) (p : Nat) (xs : List (List UInt8)) (N : Nat), scanF n (i : Int) (b.drop p) = (xs, N) → (scanY n i b p).map Prod.fst = xs ∧ lastP p (scanY n i b p) = p + N
  | 0, i, b, p, xs, N, h => by
    simp only [scanF, Prod.mk.injEq] at h
    obtain ⟨rfl, rfl⟩ := h
    exact ⟨rfl, rfl⟩
  | n + 1, i, b, p, xs, N, h => by
    by_cases hp : p < b.length
    rotate_left
    · rw [List.drop_of_length_le (by omega), scanF_nil] at h
      simp only [Prod.mk.injEq] at h
      obtain ⟨rfl, rfl⟩ := h
      rw [scanY, if_neg (fun h => hp h.1)]
      exact ⟨rfl, rfl⟩
    have hne : b.drop p ≠ [] := by
      intro h
      have := congrArg List.length h
      rw [List.length_drop, List.length_nil] at this
      omega
    by_cases hf : isF (i : Int) (b.drop p) = true
    · rw [scanF_yes hne hf, List.drop_drop] at h
      obtain ⟨L, hL⟩ : ∃ L, (frameF (i : Int) (recF (b.drop p))).length = L := ⟨_, rfl⟩
      rw [hL] at h
      obtain ⟨xs', N', h'⟩ : ∃ xs' N', scanF n ((i + 1 : Nat) : Int) (b.drop (p + L)) = (xs', N') := ⟨_, _, rfl⟩
      have hc : ((i : Int) + 1) = ((i + 1 : Nat) : Int) := by push_cast; rfl
      rw [hc, h'] at h
      simp only [Prod.mk.injEq] at h
      obtain ⟨rfl, rfl⟩ := h
      have ih := scanY_scanF n (i + 1) b (p + L) xs' N' h'
      rw [scanY, if_pos ⟨hp, hf⟩, hL]
      refine ⟨by rw [List.map_cons, ih.1], ?_⟩
      have : lastP p ((recF (b.drop p), p + L) :: scanY n (i + 1) b (p + L)) = lastP (p + L) (scanY n (i + 1) b (p + L)) := rfl
      rw [this, ih.2]; omega
    · rw [scanF_no (by simpa using hf)] at h
      simp only [Prod.mk.injEq] at h
      obtain ⟨rfl, rfl⟩ := h
      rw [scanY, if_neg (fun h => hf h.2)]
      exact ⟨rfl, rfl⟩
theorem scanF_le : ∀ (n : Nat) (i : Int) (b : List UInt8), (scanF n i b).1.length ≤ n
  | 0, _, _ => Nat.le_refl _
  | n + 1, i, b => by
    rw [scanF]
    split
    · exact Nat.zero_le _
    · split
      · have := scanF_le n (i + 1) (b.drop (frameF i (recF b)).length)
        rw [List.length_cons]; omega
      · exact Nat.zero_le _
section
variable {W0 : World} {L : List HP}
/-- a variable that holds a list of slices -/
def bxS (c : Nat) (l : List (List UInt8)) : HP := ex fun v => sp [cel c [v] 27, own 23 (eSl eB) v l]
theorem bxS_open {ops : Array Oper} {Q : Exit → Act → World → Prop} {rest : List Oper} {a : Act} {p : Nat} {l : List (List UInt8)} (k : ∀ A c, OL Try.prog W0 (cel p [.slice A l.length c] 27 :: own 23 (eSl eB) (.slice A l.length c) l :: L) ops Q rest a) : OL Try.prog W0 (bxS p l :: L) ops Q rest a := by
  refine ⟨fun w st => ?_⟩
  obtain ⟨v, h⟩ := st.ex_
  have h := h.open_
  obtain ⟨A, c, rfl, hc⟩ := (h.rdo (.tail _ (.head _))).form
  exact (k A c).run w h
theorem bxS_openE {Q : Exit → Act → World → Prop} {e : Exit} {a : Act} {p : Nat} {l : List (List UInt8)} (k : ∀ A c, EL W0 (cel p [.slice A l.length c] 27 :: own 23 (eSl eB) (.slice A l.length c) l :: L) Q e a) : EL W0 (bxS p l :: L) Q e a := by
  refine ⟨fun w st => ?_⟩
  obtain ⟨v, h⟩ := st.ex_
  have h := h.open_
  obtain ⟨A, c, rfl, hc⟩ := (h.rdo (.tail _ (.head _))).form
  exact (k A c).run w h
theorem bxS_sub {p : Nat} {v : Value} {l : List (List UInt8)} : Sub (cel p [v] 27 :: own 23 (eSl eB) v l :: L) (bxS p l :: L) := (sub_close (Ls := [cel p [v] 27, own 23 (eSl eB) v l])).trans (sub_ex (F := fun v => sp [cel p [v] 27, own 23 (eSl eB) v l]) v)
theorem records_any {W0 w : World} {L : List HP} (hS : St W0 w L) {A : Option Addr} {n c : Nat} :
    Calls Try.prog 51 #[.slice A n c] w fun e w' => ∃ b, e = .returned (.func (.func 67) #[] #[.pointer (some ⟨b, 0, none⟩)]) ∧ St W0 w' (cel b [.slice A n c] 23 :: L) := by
  go_enter Try.func51, Try.ntmps51
  go_wp2_with ((with_reducible refine g_box ?_); refine wl_box hS (by rfl) (by rfl) ?_; clear hS; intro b w' hS)
  go_ret
  exact ⟨_, rfl, hS⟩
theorem records_ct {A : Option Addr} {n c : Nat} : CT Try.prog 51 #[.slice A n c] W0 L fun r L' => ∃ p, r = .func (.func 67) #[] #[.pointer (some ⟨p, 0, none⟩)] ∧ L' = cel p [.slice A n c] 23 :: L :=
  ⟨fun w s => (records_any s).mono fun e w' ⟨b, he, hs⟩ => ⟨_, _, he, ⟨b, rfl, rfl⟩, hs⟩⟩
theorem records1_gives {A : Option Addr} {c p : Nat} {b : List UInt8} {E0 : List HP} (hb : rd eB (.slice A b.length c) b ∈ E0) (hl : b.length ≤ 1000000) (hc : b.length ≤ c) :
    GivesR Try.prog 67 #[.pointer (some ⟨p, 0, none⟩)] (fun (y : List UInt8 × Nat) (k : Value) => #[k, .int .i64 (y.2 : Int)]) (fun y k => [rd eB k y.1]) (scanY b.length 0 b 0) (cel p [.slice A b.length c] 23 :: E0) := by
  intro l W0 J hround
  obtain ⟨ys, hys⟩ : ∃ ys, scanY b.length 0 b 0 = ys := ⟨_, rfl⟩
  rw [hys] at hround ⊢
  have hbm : ∀ {X : HP}, rd eB (.slice A b.length c) b ∈ X :: cel p [.slice A b.length c] 23 :: E0 := fun {X} => .tail _ (.tail _ hb)
  refine CT_enter Try.func67 rfl ?_; (simp only [Try.ntmps67, List.size_toArray, List.length_cons, List.length_nil, Nat.reduceAdd, Nat.reduceSub, Array.replicate_succ, Array.replicate_zero, List.push_toArray, List.append_toArray, List.nil_append, List.cons_append])
  refine C_sub (sub_dup hbm) ?_
  repeat' (first | refine go ?_ | intro _ | (apply cG; first | refine cT ?_ | refine cF ?_ | refine cS (fun _ => ?_) fun _ => ?_) | (apply gW; refine sW ?_) | (apply gI; refine sI ?_) | (apply gE; refine sE ?_) | (apply gP; refine sP ?_) | (apply gC; refine sC ?_) | (apply gD; refine sD ?_) | fail)
  refine C_loopS (κ := List (List UInt8 × Nat) × List (List UInt8 × Nat)) [false, false, false, true, true, true, true, true, true, true, true, true, true, true, true, true, true, true, true, true, true, true, true, true, true, true, true, true, true, true, true, true, true, true, true] (fun k => [(3, .int .i64 (lastP 0 k.1 : Int)), (4, .int .i64 (k.1.length : Int))]) (fun k => [(1, J k.1)]) (fun k => ys = k.1 ++ k.2 ∧ k.2 = scanY (b.length - k.1.length) k.1.length b (lastP 0 k.1) ∧ k.1.length ≤ lastP 0 k.1 ∧ lastP 0 k.1 ≤ b.length) (fun k => b.length - k.1.length) ([], ys) ⟨rfl, hys.symm, Nat.zero_le _, Nat.zero_le _⟩ ⟨rfl, rfl, trivial⟩ ?_
  rintro ⟨pre, post⟩ u ⟨h1, h2, h3, h4⟩
  dsimp only at h1 h2 h3 h4
  obtain ⟨q, hq⟩ : ∃ q, lastP 0 pre = q := ⟨_, rfl⟩
  rw [hq] at h2 h3 h4 ⊢
  ((try dsimp only); refine C_n ?_; (try simp only [Nat.reduceAdd, Nat.zero_add]))
  by_cases hlt : q < b.length
  · obtain ⟨ok, hok⟩ : ∃ ok, isF (pre.length : Int) (b.drop q) = ok := ⟨_, rfl⟩
    obtain ⟨x, hx⟩ : ∃ x, recF (b.drop q) = x := ⟨_, rfl⟩
    have hxl := recF_len (b.drop q)
    rw [hx, List.length_drop] at hxl
    have hd : (b.drop q).take (b.length - q) = b.drop q := List.take_of_length_le (by rw [List.length_drop]; omega)
    have hfl := frameF_len (i := (pre.length : Int)) (x := x) (by omega) (by omega) (by omega)
    have hmin := frameF_min (pre.length : Int) x
    repeat' (first | refine go ?_ | intro _ | (apply cG; first | refine cT ?_ | refine cF ?_ | refine cS (fun _ => ?_) fun _ => ?_) | (apply gW; refine sW ?_) | (apply gI; refine sI ?_) | (apply gE; refine sE ?_) | (apply gP; refine sP ?_) | (apply gC; refine sC ?_) | (apply gD; refine sD ?_) | fail)
    rw [hd]
    refine O_d (dy_call ArgsI.pf (by first | exact rfl | trivial | (intro a b; rfl)) (record_ct (.head _) (by rw [List.length_drop]; omega) hx)) ?_; rintro _ _ ⟨_, ⟨A1, c1, rfl, rfl⟩, rfl⟩; refine O_n ?_
    refine O_frz 0 ?_
    repeat' (first | refine go ?_ | intro _ | (apply cG; first | refine cT ?_ | refine cF ?_ | refine cS (fun _ => ?_) fun _ => ?_) | (apply gW; refine sW ?_) | (apply gI; refine sI ?_) | (apply gE; refine sE ?_) | (apply gP; refine sP ?_) | (apply gC; refine sC ?_) | (apply gD; refine sD ?_) | fail)
    refine O_d (dy_call ArgsI.pf (by first | exact rfl | trivial | (intro a b; rfl)) (Frame_ct (x := x) (.inl (.head _)) (by omega) (by omega) (by omega))) ?_; rintro _ _ ⟨_, ⟨A2, c2, rfl, rfl⟩, rfl⟩; refine O_n ?_
    repeat' (first | refine go ?_ | intro _ | (apply cG; first | refine cT ?_ | refine cF ?_ | refine cS (fun _ => ?_) fun _ => ?_) | (apply gW; refine sW ?_) | (apply gI; refine sI ?_) | (apply gE; refine sE ?_) | (apply gP; refine sP ?_) | (apply gC; refine sC ?_) | (apply gD; refine sD ?_) | fail)
    rw [hd]
    refine O_d (dy_call ArgsI.pf (by first | exact rfl | trivial | (intro a b; rfl)) (HasPrefix_ct (la := b.drop q) (lb := frameF (pre.length : Int) x) (q := ok) (.head _) Sc.pf (by rw [← hok, ← hx]; rfl))) ?_; rintro _ _ ⟨_, ⟨rfl, hLL⟩, rfl⟩; replace hLL := hLL.symm; subst hLL; refine O_n ?_
    obtain ⟨m, hm⟩ : ∃ m, b.length - pre.length = m + 1 := ⟨b.length - pre.length - 1, by omega⟩
    rw [hm, scanY] at h2
    cases ok
    · rw [if_neg (fun h => by rw [hok] at h; exact absurd h.2 (by decide))] at h2
      subst h2
      rw [List.append_nil] at h1
      subst h1
      repeat' (first | refine go ?_ | intro _ | (apply cG; first | refine cT ?_ | refine cF ?_ | refine cS (fun _ => ?_) fun _ => ?_) | (apply gW; refine sW ?_) | (apply gI; refine sI ?_) | (apply gE; refine sE ?_) | (apply gP; refine sP ?_) | (apply gC; refine sC ?_) | (apply gD; refine sD ?_) | fail)
      refine E_sub (S := J ys :: cel p [.slice A b.length c] 23 :: E0) Sb ?_
      refine E_end0 (by first | exact .inl rfl | exact .inr rfl) (by rfl) (by rfl) rfl
    · rw [if_pos ⟨hlt, hok⟩, hx] at h2
      have hfq : (frameF (pre.length : Int) x).length + q ≤ b.length := by
        obtain ⟨t, ht⟩ := isF_iff.1 hok
        rw [hx] at ht
        have := congrArg List.length ht
        rw [List.length_append, List.length_drop] at this
        omega
      repeat' (first | ((fail_if_success apply AtE); refine go ?_) | intro _ | (apply cG; first | refine cT ?_ | refine cF ?_ | refine cS (fun _ => ?_) fun _ => ?_) | (apply gW; refine sW ?_) | (apply gI; refine sI ?_) | (apply gE; refine sE ?_) | (apply gP; refine sP ?_) | (apply gC; refine sC ?_) | (apply gD; refine sD ?_) | fail)
      refine go ?_
      repeat' (first | ((fail_if_success apply AtE); refine go ?_) | intro _ | (apply cG; first | refine cT ?_ | refine cF ?_ | refine cS (fun _ => ?_) fun _ => ?_) | (apply gW; refine sW ?_) | (apply gI; refine sI ?_) | (apply gE; refine sE ?_) | (apply gP; refine sP ?_) | (apply gC; refine sC ?_) | (apply gD; refine sD ?_) | fail)
      refine go ?_
      repeat' (first | ((fail_if_success apply AtE); refine go ?_) | intro _ | (apply cG; first | refine cT ?_ | refine cF ?_ | refine cS (fun _ => ?_) fun _ => ?_) | (apply gW; refine sW ?_) | (apply gI; refine sI ?_) | (apply gE; refine sE ?_) | (apply gP; refine sP ?_) | (apply gC; refine sC ?_) | (apply gD; refine sD ?_) | fail)
      refine go ?_
      refine go ?_
      refine C_sub (S := rd eB (.slice A1 x.length c1) x :: J pre :: cel p [.slice A b.length c] 23 :: E0) Sb ?_
      refine C_yield2 (l := l) (v1 := .slice A1 x.length c1) (v2 := .int .i64 ((q + (frameF (pre.length : Int) x).length : Nat) : Int)) (L' := J (pre ++ [(x, q + (frameF (pre.length : Int) x).length)]) :: cel p [.slice A b.length c] 23 :: E0)
        Ev.pf Put.pf Ev.pf Put.pf Ev.pf Put.pf Put.pf Put.pf Ev.pf Ev.pf (Eq.trans Ev.pf (by push_cast; rfl)) Ev.pf ?_ ?_
      · intro w hw
        exact hround pre (x, q + (frameF (pre.length : Int) x).length) _ (.slice A1 x.length c1) w (by rw [h1, h2]) hw
      refine E_sub (sub_dup hbm) ?_
      repeat' (first | refine go ?_ | intro _ | (apply cG; first | refine cT ?_ | refine cF ?_ | refine cS (fun _ => ?_) fun _ => ?_) | (apply gW; refine sW ?_) | (apply gI; refine sI ?_) | (apply gE; refine sE ?_) | (apply gP; refine sP ?_) | (apply gC; refine sC ?_) | (apply gD; refine sD ?_) | fail)
      have hlp : lastP 0 (pre ++ [(x, q + (frameF (pre.length : Int) x).length)]) = q + (frameF (pre.length : Int) x).length := lastP_snoc _ _ _
      have hpl : (pre ++ [(x, q + (frameF (pre.length : Int) x).length)]).length = pre.length + 1 := by rw [List.length_append]; rfl
      have hm' : b.length - (pre.length + 1) = m := by omega
      exact E_round (pre ++ [(x, q + (frameF (pre.length : Int) x).length)], scanY m (pre.length + 1) b (q + (frameF (pre.length : Int) x).length)) ⟨by rw [h1, h2, List.append_assoc]; rfl, by dsimp only; rw [hlp, hpl, hm'], by dsimp only; rw [hlp, hpl]; omega, by dsimp only; rw [hlp]; omega⟩ (by dsimp only; rw [hpl]; omega) ⟨by dsimp only; rw [hlp]; push_cast; rfl, by dsimp only; rw [hpl]; push_cast; rfl, trivial⟩ Sb
  · obtain rfl : q = b.length := by omega
    have h2' : post = [] := by
      rw [h2]
      cases b.length - pre.length with
      | zero => rfl
      | succ n => rw [scanY, if_neg (fun h => hlt h.1)]
    subst h2'
    rw [List.append_nil] at h1
    subst h1
    repeat' (first | refine go ?_ | intro _ | (apply cG; first | refine cT ?_ | refine cF ?_ | refine cS (fun _ => ?_) fun _ => ?_) | (apply gW; refine sW ?_) | (apply gI; refine sI ?_) | (apply gE; refine sE ?_) | (apply gP; refine sP ?_) | (apply gC; refine sC ?_) | (apply gD; refine sD ?_) | fail)
    refine E_sub (S := J ys :: cel p [.slice A b.length c] 23 :: E0) Sb ?_
    refine E_end0 (by first | exact .inl rfl | exact .inr rfl) (by rfl) (by rfl) rfl
theorem Scan_ct {v : Value} {b : List UInt8} {xs : List (List UInt8)} {N : Nat} (hb : rd eB v b ∈ L) (hl : b.length ≤ 1000000) (h : scanF b.length 0 b = (xs, N)) :
    CT Try.prog 25 #[v] W0 L fun r L' => ∃ A c, r = .tuple #[.slice A xs.length c, .int .i64 (N : Int)] ∧ L' = own 23 (eSl eB) (.slice A xs.length c) xs :: L := by
  refine CT_fact (fun w s => ((Src.sl (.inl hb) s).form)) ?_
  rintro ⟨Aa, ca, rfl, hca⟩
  obtain ⟨hm1, hm2⟩ := scanY_scanF b.length 0 b 0 xs N (by rw [List.drop_zero]; exact h)
  refine CT_enterM Try.func25 rfl ?_; (simp only [Try.ntmps25, List.size_toArray, List.length_cons, List.length_nil, Nat.reduceAdd, Nat.reduceSub, Array.replicate_succ, Array.replicate_zero, List.push_toArray, List.append_toArray, List.nil_append, List.cons_append])
  repeat' (first | refine go ?_ | intro _ | (apply cG; first | refine cT ?_ | refine cF ?_ | refine cS (fun _ => ?_) fun _ => ?_) | (apply gW; refine sW ?_) | (apply gI; refine sI ?_) | (apply gE; refine sE ?_) | (apply gP; refine sP ?_) | (apply gC; refine sC ?_) | (apply gD; refine sD ?_) | fail)
  refine O_d (dy_call ArgsI.pf (by first | exact rfl | trivial | (intro a b; rfl)) (records_ct)) ?_; rintro _ _ ⟨_, ⟨p, rfl, rfl⟩, rfl⟩; refine O_n ?_
  repeat' (first | refine go ?_ | intro _ | (apply cG; first | refine cT ?_ | refine cF ?_ | refine cS (fun _ => ?_) fun _ => ?_) | (apply gW; refine sW ?_) | (apply gI; refine sI ?_) | (apply gE; refine sE ?_) | (apply gP; refine sP ?_) | (apply gC; refine sC ?_) | (apply gD; refine sD ?_) | fail)
  rename_i c1 c2
  refine C_ownnil 23 (eSl eB) ?_
  refine C_sub (S := cel c1 [.slice none 0 0] 27 :: own 23 (eSl eB) (.slice none 0 0) [] :: cel c2 [.int .i64 0] 3 :: cel p [.slice Aa b.length ca] 23 :: L) Sb ?_
  refine C_rangeR Ev.pf (by first | exact rfl | trivial | (intro a b; rfl)) (records1_gives (p := p) hb hl hca) (fun _ _ => rfl) (fun pre => [bxS c1 (pre.map Prod.fst), cel c2 [.int .i64 (lastP 0 pre : Int)] 3]) bxS_sub ?_ ?_
  · intro l D rec pre y post k hx
    simp only [zip2, List.setIfInBounds_toArray, List.set_cons_zero, List.set_cons_succ]
    refine ⟨_, fun W K hK => wpIn_seq (wpIn_assignG Ev.pf Put.pf (fun _ _ h => h) (wpIn_assignG Ev.pf Put.pf (fun _ _ h => h) hK)), ?_⟩
    simp only [List.cons_append, List.nil_append]
    refine CI.run ?_
    refine CI_block (CI_seq (CI_region (fun _ _ h => by cases h.1) rfl ?_))
    refine O_sub (S := bxS c1 (pre.map Prod.fst) :: rd eB k y.1 :: cel c2 [.int .i64 (lastP 0 pre : Int)] 3 :: blk l rec :: blk D (.deferred (some [])) :: cel p [.slice Aa b.length ca] 23 :: L) Sb ?_
    refine bxS_open fun A5 c5 => ?_
    have hpl : (pre.map Prod.fst).length ≤ 1000000 := by
      have e1 := congrArg List.length hm1
      have e2 := scanF_le b.length 0 b
      rw [h] at e2
      dsimp only at e2
      rw [hx, List.length_map, List.length_append] at e1
      rw [List.length_map]
      omega
    obtain ⟨out, hout⟩ : ∃ out, pre.map Prod.fst = out := ⟨_, rfl⟩
    rw [hout] at hpl ⊢
    refine O_fact (fun w s => ((Src.sl (.inl (.tail _ (.tail _ (.head _)))) s).form)) ?_
    rintro ⟨A6, c6, rfl, hc6⟩
    repeat' (first | refine go ?_ | intro _ | (apply cG; first | refine cT ?_ | refine cF ?_ | refine cS (fun _ => ?_) fun _ => ?_) | (apply gW; refine sW ?_) | (apply gI; refine sI ?_) | (apply gE; refine sE ?_) | (apply gP; refine sP ?_) | (apply gC; refine sC ?_) | (apply gD; refine sD ?_) | fail)
    refine O_d (dy_litS (R := eSl eB) [y.1] [.slice A6 y.1.length c6] (by rfl) (fun m h hs => ⟨⟨_, rfl, rd_mem hs (by repeat (first | exact .head _ | refine .tail _ ?_))⟩, trivial⟩)) ?_; rintro _ _ ⟨_, rfl, rfl⟩; refine O_n ?_
    refine O_d dy_append ?_; rintro _ _ ⟨A7, c7, rfl, rfl⟩; refine O_n ?_
    repeat' (first | refine go ?_ | intro _ | (apply cG; first | refine cT ?_ | refine cF ?_ | refine cS (fun _ => ?_) fun _ => ?_) | (apply gW; refine sW ?_) | (apply gI; refine sI ?_) | (apply gE; refine sE ?_) | (apply gP; refine sP ?_) | (apply gC; refine sC ?_) | (apply gD; refine sD ?_) | fail)
    refine EI_then ?_
    refine CI_region (fun _ _ h => by cases h.1) rfl ?_
    repeat' (first | refine go ?_ | intro _ | (apply cG; first | refine cT ?_ | refine cF ?_ | refine cS (fun _ => ?_) fun _ => ?_) | (apply gW; refine sW ?_) | (apply gI; refine sI ?_) | (apply gE; refine sE ?_) | (apply gP; refine sP ?_) | (apply gC; refine sC ?_) | (apply gD; refine sD ?_) | fail)
    have e1 : (pre ++ [y]).map Prod.fst = out ++ [y.1] := by rw [List.map_append, hout]; rfl
    rw [e1, lastP_snoc]
    refine E_sub (S := cel c1 [.slice A7 (out.length + 1) c7] 27 :: own 23 (eSl eB) (.slice A7 (out.length + 1) c7) (out ++ [y.1]) :: blk l rec :: blk D (.deferred (some [])) :: cel c2 [.int .i64 (y.2 : Int)] 3 :: cel p [.slice Aa b.length ca] 23 :: L) Sb ?_
    refine E_sub bxS_sub ?_
    refine E_sub (S := blk l rec :: blk D (.deferred (some [])) :: bxS c1 (out ++ [y.1]) :: cel c2 [.int .i64 (y.2 : Int)] 3 :: cel p [.slice Aa b.length ca] 23 :: L) Sb ?_
    exact ⟨fun w s => ⟨rfl, s⟩⟩
  · intro D
    simp only [List.cons_append, List.nil_append]
    rw [hm1, hm2, Nat.zero_add]
    refine E_sub (S := bxS c1 xs :: cel c2 [.int .i64 (N : Int)] 3 :: blk D (.deferred (some [])) :: L) Sb ?_
    refine bxS_openE fun A8 c8 => ?_
    repeat' (first | refine go ?_ | intro _ | (apply cG; first | refine cT ?_ | refine cF ?_ | refine cS (fun _ => ?_) fun _ => ?_) | (apply gW; refine sW ?_) | (apply gI; refine sI ?_) | (apply gE; refine sE ?_) | (apply gP; refine sP ?_) | (apply gC; refine sC ?_) | (apply gD; refine sD ?_) | fail)
    refine C_draw (n := 99) [cel c1 [.slice A8 xs.length c8] 27, cel c2 [.int .i64 (N : Int)] 3] [(0, 1), (1, 1), (2, 1), (3, 1)] (by kernel_rfl) (by kernel_rfl) Sb ?_
    repeat' (first | refine go ?_ | intro _ | (apply cG; first | refine cT ?_ | refine cF ?_ | refine cS (fun _ => ?_) fun _ => ?_) | (apply gW; refine sW ?_) | (apply gI; refine sI ?_) | (apply gE; refine sE ?_) | (apply gP; refine sP ?_) | (apply gC; refine sC ?_) | (apply gD; refine sD ?_) | fail)
    refine E_res2d rfl (by rfl) Ev.pf Ev.pf ⟨_, _, rfl, rfl⟩ Sb
end
end Go.Proofs.Ytbjaecofccpahaa
namespace Go.Proofs.Ytbjaecofccpahaa
open Go Go.RowKit
set_option linter.unusedVariables false
set_option linter.unusedSimpArgs false
set_option maxRecDepth 20000
set_option synthInstance.maxSize 100000
set_option synthInstance.maxHeartbeats 400000
theorem u8_any' (z : Int) : ∃ b : UInt8, IntKind.u8.wrap z = (b.toNat : Int) := by
  have h0 : 0 ≤ IntKind.u8.wrap z ∧ IntKind.u8.wrap z < 256 := by
    rw [show IntKind.u8.wrap z = z % 256 from IntKind.wrap_u8 z]
    omega
  refine ⟨UInt8.ofNat (IntKind.u8.wrap z).toNat, ?_⟩
  rw [UInt8.toNat_ofNat']
  omega
section
variable {W0 : World} {L : List HP}
theorem Records_ct {v : Value} {li : List Int} (hv : rd eI v li ∈ L) (hl : li.length ≤ 9223372036854775807) (hr : ∀ n ∈ li, -9223372036854775808 ≤ n ∧ n ≤ 9223372036854775807) :
    CT Try.prog 14 #[v] W0 L fun r L' => ∃ A c xs, r = .slice A (List.length xs) c ∧ L' = own 23 (eSl eB) (.slice A (List.length xs) c) xs :: L ∧ (∀ x ∈ xs, x.length ≤ 10) ∧ xs.length ≤ 6 := by
  refine CT_fact (fun w s => ((Src.sl (.inl hv) s).form)) ?_
  rintro ⟨A, cap, rfl, hcap⟩
  refine CT_enter Try.func14 rfl ?_; (simp only [Try.ntmps14, List.size_toArray, List.length_cons, List.length_nil, Nat.reduceAdd, Nat.reduceSub, Array.replicate_succ, Array.replicate_zero, List.push_toArray, List.append_toArray, List.nil_append, List.cons_append])
  refine C_sub (sub_dup hv) ?_
  repeat' (first | refine go ?_ | intro _ | (apply cG; first | refine cT ?_ | refine cF ?_ | refine cS (fun _ => ?_) fun _ => ?_) | (apply gW; refine sW ?_) | (apply gI; refine sI ?_) | (apply gE; refine sE ?_) | (apply gP; refine sP ?_) | (apply gC; refine sC ?_) | (apply gD; refine sD ?_) | fail)
  refine C_ownnil 23 (eSl eB) ?_
  refine C_loopS (κ := Nat × Value × List (List UInt8)) [false, false, false, true, true, true, true, true, true, true, true, true, true, true, true, true, true, true, true, true, true, true, true, true, true, true, true, true, true, true, true, true, true, true, true, true, true, true, true, true, true, true, true, false] (fun k => [(3, k.2.1), (4, .int .i64 (k.1 : Int))]) (fun k => [(0, own 23 (eSl eB) k.2.1 k.2.2)]) (fun k => k.1 ≤ 6 ∧ k.1 ≤ li.length ∧ (∃ A c, k.2.1 = .slice A k.2.2.length c) ∧ k.2.2.length = k.1 ∧ ∀ x ∈ k.2.2, x.length ≤ 10) (fun k => 6 - k.1) (0, .slice none 0 0, []) ⟨by decide, Nat.zero_le _, ⟨none, 0, rfl⟩, rfl, fun x hx => by cases hx⟩ ⟨rfl, rfl, trivial⟩ ?_
  rintro ⟨i, vo, out⟩ u ⟨h6, hi, ⟨A1, c1, hvo⟩, hlen, hall⟩
  dsimp only at h6 hi hvo hlen hall
  subst hvo
  ((try dsimp only); refine C_n ?_; (try simp only [Nat.reduceAdd, Nat.zero_add]))
  by_cases hlt : i < li.length ∧ i < 6
  · obtain ⟨hlt1, hlt2⟩ := hlt
    obtain ⟨x, hx⟩ : ∃ x, li[i]? = some x := ⟨_, List.getElem?_eq_getElem hlt1⟩
    have hxi := hr x (List.mem_of_getElem? hx)
    have hax : At li i x := ⟨hx⟩
    repeat' (first | refine go ?_ | intro _ | (apply cG; first | refine cT ?_ | refine cF ?_ | refine cS (fun _ => ?_) fun _ => ?_) | (apply gW; refine sW ?_) | (apply gI; refine sI ?_) | (apply gE; refine sE ?_) | (apply gP; refine sP ?_) | (apply gC; refine sC ?_) | (apply gD; refine sD ?_) | fail)
    refine O_d (dy_call ArgsI.pf (by first | exact rfl | trivial | (intro a b; rfl)) (Around_ct hxi.1 hxi.2 (by decide) (by decide))) ?_; rintro _ _ ⟨_, ⟨rfl, hLL⟩, rfl⟩; replace hLL := hLL.symm; subst hLL; refine O_n ?_
    obtain ⟨n, hn, hnl⟩ : ∃ n : Nat, around x 1000 = (n : Int) ∧ n < 1000 := by
      have := around_in (n := x) (most := 1000) (by decide)
      exact ⟨(around x 1000).toNat, by omega, by omega⟩
    rw [hn]
    repeat' (first | refine go ?_ | intro _ | (apply cG; first | refine cT ?_ | refine cF ?_ | refine cS (fun _ => ?_) fun _ => ?_) | (apply gW; refine sW ?_) | (apply gI; refine sI ?_) | (apply gE; refine sE ?_) | (apply gP; refine sP ?_) | (apply gC; refine sC ?_) | (apply gD; refine sD ?_) | fail)
    refine C_ownnil 5 eB ?_
    refine C_loopS (κ := Nat × Value × List UInt8) [false, false, false, false, false, false, true, true, false, false, false, false, false, false, false, false, false, false, false, false, false, false, false, true, true, true, true, true, true, true, true, true, true, true, true, true, true, true, true, false, false, false, false, false] (fun k => [(6, k.2.1), (7, .int .i64 (k.1 : Int))]) (fun k => [(0, own 5 eB k.2.1 k.2.2)]) (fun k => k.1 ≤ 10 ∧ (∃ A c, k.2.1 = .slice A k.2.2.length c) ∧ k.2.2.length = k.1) (fun k => 10 - k.1) (0, .slice none 0 0, []) ⟨by decide, ⟨none, 0, rfl⟩, rfl⟩ ⟨rfl, rfl, trivial⟩ ?_
    rintro ⟨j, vb, lb⟩ u2 ⟨g1, ⟨A3, c3, hvb⟩, hlb⟩
    dsimp only at g1 hvb hlb
    subst hvb
    ((try dsimp only); refine C_n ?_; (try simp only [Nat.reduceAdd, Nat.zero_add]))
    by_cases hjm : (j : Int) < (n : Int) % 11
    · have hmul : (j : Int) * (n : Int) = ((j * n : Nat) : Int) := by push_cast; rfl
      have hmb : j * n ≤ 10 * 1000 := Nat.mul_le_mul g1 (by omega)
      obtain ⟨y, hy⟩ : ∃ y, j * n = y := ⟨_, rfl⟩
      rw [hy] at hmul hmb
      obtain ⟨b, hb⟩ := u8_any' ((n : Int) / 11 + (j : Int) * (n : Int))
      repeat' (first | refine go ?_ | intro _ | (apply cG; first | refine cT ?_ | refine cF ?_ | refine cS (fun _ => ?_) fun _ => ?_) | (apply gW; refine sW ?_) | (apply gI; refine sI ?_) | (apply gE; refine sE ?_) | (apply gP; refine sP ?_) | (apply gC; refine sC ?_) | (apply gD; refine sD ?_) | fail)
      rw [hb]
      refine O_d (dy_lit1 (R := eB) b (hcs := by rfl) (hel := fun _ _ _ => by rfl)) ?_; rintro _ _ ⟨_, rfl, rfl⟩; refine O_n ?_
      refine O_d dy_append ?_; rintro _ _ ⟨A4, c4, rfl, rfl⟩; refine O_n ?_
      repeat' (first | refine go ?_ | intro _ | (apply cG; first | refine cT ?_ | refine cF ?_ | refine cS (fun _ => ?_) fun _ => ?_) | (apply gW; refine sW ?_) | (apply gI; refine sI ?_) | (apply gE; refine sE ?_) | (apply gP; refine sP ?_) | (apply gC; refine sC ?_) | (apply gD; refine sD ?_) | fail)
      exact E_round (j + 1, .slice A4 (lb.length + 1) c4, lb ++ [b]) ⟨by omega, ⟨A4, c4, by rw [List.length_append]; rfl⟩, by rw [List.length_append, hlb]; rfl⟩ (by show 10 - (j + 1) < 10 - j; omega) ⟨rfl, rfl, trivial⟩ Sb
    · repeat' (first | refine go ?_ | intro _ | (apply cG; first | refine cT ?_ | refine cF ?_ | refine cS (fun _ => ?_) fun _ => ?_) | (apply gW; refine sW ?_) | (apply gI; refine sI ?_) | (apply gE; refine sE ?_) | (apply gP; refine sP ?_) | (apply gC; refine sC ?_) | (apply gD; refine sD ?_) | fail)
      refine O_frz 0 ?_
      refine O_d (dy_litS (R := eSl eB) [lb] [.slice A3 lb.length c3] (by rfl) (fun m h hs => ⟨⟨_, rfl, rd_mem hs (by repeat (first | exact .head _ | refine .tail _ ?_))⟩, trivial⟩)) ?_; rintro _ _ ⟨_, rfl, rfl⟩; refine O_n ?_
      refine O_d dy_append ?_; rintro _ _ ⟨A4, c4, rfl, rfl⟩; refine O_n ?_
      repeat' (first | refine go ?_ | intro _ | (apply cG; first | refine cT ?_ | refine cF ?_ | refine cS (fun _ => ?_) fun _ => ?_) | (apply gW; refine sW ?_) | (apply gI; refine sI ?_) | (apply gE; refine sE ?_) | (apply gP; refine sP ?_) | (apply gC; refine sC ?_) | (apply gD; refine sD ?_) | fail)
      exact E_round (i + 1, .slice A4 (out.length + 1) c4, out ++ [lb]) ⟨by omega, by omega, ⟨A4, c4, by rw [List.length_append]; rfl⟩, by rw [List.length_append, hlen]; rfl, fun z hz => by
        rcases List.mem_append.1 hz with hz | hz
        · exact hall z hz
        · simp only [List.mem_cons, List.not_mem_nil, or_false] at hz
          subst hz
          omega⟩ (by show 6 - (i + 1) < 6 - i; omega) ⟨rfl, rfl, trivial⟩ Sb
  · by_cases hlt1 : i < li.length
    · have hlt2 : ¬ i < 6 := fun h => hlt ⟨hlt1, h⟩
      repeat' (first | refine go ?_ | intro _ | (apply cG; first | refine cT ?_ | refine cF ?_ | refine cS (fun _ => ?_) fun _ => ?_) | (apply gW; refine sW ?_) | (apply gI; refine sI ?_) | (apply gE; refine sE ?_) | (apply gP; refine sP ?_) | (apply gC; refine sC ?_) | (apply gD; refine sD ?_) | fail)
      refine E_res1 (by rfl) (by rfl) ⟨_, _, _, rfl, rfl, hall, by omega⟩ Sb
    · repeat' (first | refine go ?_ | intro _ | (apply cG; first | refine cT ?_ | refine cF ?_ | refine cS (fun _ => ?_) fun _ => ?_) | (apply gW; refine sW ?_) | (apply gI; refine sI ?_) | (apply gE; refine sE ?_) | (apply gP; refine sP ?_) | (apply gC; refine sC ?_) | (apply gD; refine sD ?_) | fail)
      refine E_res1 (by rfl) (by rfl) ⟨_, _, _, rfl, rfl, hall, by omega⟩ Sb
end
end Go.Proofs.Ytbjaecofccpahaa
