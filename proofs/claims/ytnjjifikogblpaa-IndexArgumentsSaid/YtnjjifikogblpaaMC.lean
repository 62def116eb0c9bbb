/-
  My own layer over the kit's walk, part 5: assertions over disjoint parts of memory, and one law an operation. Nothing of a program stands here.
-/
import Derived.RangeFuncRecord
import Derived.TacticsIn
import Derived.Shelf.Abstract
import Derived.Deep.Quiet
import Derived.Lib.AppendStr
import Derived.Lib.SliceRun
import Derived.Test.YtnjjifikogblpaaMB
namespace Go.Proofs.Ytnjjifikogblpaa
open Go Go.RowKit
set_option linter.unusedVariables false
set_option linter.unusedSimpArgs false
variable {P : Program} {ops : Array Oper} {Q : Exit → Act → World → Prop} {rest : List Oper} {o : Oper} {a : Act}
variable {W0 w w' : World} {L L' : List HP}

theorem sliceBounds_run' {n cap : Nat} {lo hi : Option Value} {l h : Int} (hl : (lo = none ∧ l = 0) ∨ ∃ k, lo = some (.int k l)) (hh : (hi = none ∧ h = n) ∨ ∃ k, hi = some (.int k h)) (h0 : 0 ≤ l) (h1 : l ≤ h) (h2 : h ≤ cap) :
    (Instr.sliceBounds true n cap lo hi none).run P w = .ok (l.toNat, h.toNat, cap) w := by
  have h3 : 0 ≤ h := by omega
  have h4 : max h 0 = h := by omega
  rcases hl with ⟨rfl, rfl⟩ | ⟨k, rfl⟩ <;> rcases hh with ⟨rfl, rfl⟩ | ⟨k', rfl⟩ <;>
    simp [Instr.sliceBounds, Instr.sliceBound, asIntOf, h0, h1, h2, h3, h4] <;> (intros; omega)
theorem sliceAt_run {t e : TypeId} {z : Value} {s by_ : Nat} [u : UL P t (.slice e)] [TI P e z s by_] {A : Option Addr} {n cap : Nat} {lo hi : Option Value} {l h : Int}
    (hl : (lo = none ∧ l = 0) ∨ ∃ k, lo = some (.int k l)) (hh : (hi = none ∧ h = n) ∨ ∃ k, hi = some (.int k h)) (h0 : 0 ≤ l) (h1 : l ≤ h) (h2 : h ≤ cap) :
    (Instr.sliceAt t (.slice A n cap) lo hi none).run P w = .ok (.slice (if cap = l.toNat then A else A.map (·.add (l.toNat * s))) (h.toNat - l.toNat) (cap - l.toNat)) w := by
  simp [Instr.sliceAt, run_underlying u.pf, Instr.slice, sliceBounds_run' hl hh h0 h1 h2, sizeOf_run (P := P) (t := e)]

/-- s[lo:hi] of what reads -/
theorem wl_slice (hS : St W0 w L) {t : TypeId} {x : Operand} {lo hi : Option Operand} (hop : o.op = .slice t x lo hi none) (hw : Region.wanted o (yielded ops a.tmps) = true) {A : Option Addr} {n cap : Nat} (hx : a.eval x = .slice A n cap)
    {l h : Int} (hl : (lo.map a.eval = none ∧ l = 0) ∨ ∃ k, lo.map a.eval = some (.int k l)) (hh : (hi.map a.eval = none ∧ h = n) ∨ ∃ k, hi.map a.eval = some (.int k h))
    {e : TypeId} {z : Value} {s by_ : Nat} [UL P t (.slice e)] [TI P e z s by_] {α : Type} {R : Enc α} (hR : R.sz = s) {xs : List α} (hm : Go.Proofs.Ytnjjifikogblpaa.rd R (.slice A n cap) xs ∈ L) (h0 : 0 ≤ l) (h1 : l ≤ h) (h2 : h ≤ n)
    {n2 : Nat} (hn2 : h.toNat - l.toNat = n2) {xs2 : List α} (hxs : (xs.take h.toNat).drop l.toNat = xs2)
    (k : ∀ A' c', St W0 w (Go.Proofs.Ytnjjifikogblpaa.rd R (.slice A' n2 c') xs2 :: L) → wpList P ops Q rest (a.put o.dst (.slice A' n2 c')) w) : wpList P ops Q (o :: rest) a w := by
  have hc := (hS.rd hm).cap_
  subst hn2; subst hxs
  refine step_val (w' := w) (v := .slice (if cap = l.toNat then A else A.map (·.add (l.toNat * s))) (h.toNat - l.toNat) (cap - l.toNat)) hw (by unfold execOp; simp [hop, hx, sliceAt_run (P := P) (t := t) (e := e) hl hh h0 h1 (by omega : h ≤ cap)]) (k _ _ ?_)
  subst hR
  refine hS.weak fun m hp hs => ?_
  obtain ⟨y, hy, hA⟩ := hs.mem hm
  exact ⟨Hp.none, hp, Hp.none_dj _, Hp.none_le _, Hp.le_refl _, Sl.cut hA (by omega) (by omega) (by omega), hs⟩

theorem L_slice (hS : St W0 w L) {dst : Option Tmp} {t : TypeId} {x : Operand} {lo hi : Option Operand} {ty : TypeId} {pos : String} {aft : Array Edge} {gd : Option (Nat × Bool)}
    {e : TypeId} {z : Value} {s by_ : Nat} [UL P t (.slice e)] [TI P e z s by_] (hw : Region.wanted ⟨dst, .slice t x lo hi none, ty, pos, aft, gd⟩ (yielded ops a.tmps) = true) {A : Option Addr} {n cap : Nat} (hx : a.eval x = .slice A n cap)
    {l h : Int} (hl : (lo.map a.eval = none ∧ l = 0) ∨ ∃ k, lo.map a.eval = some (.int k l)) (hh : (hi.map a.eval = none ∧ h = n) ∨ ∃ k, hi.map a.eval = some (.int k h))
    {α : Type} {R : Enc α} {xs : List α} (hm : Go.Proofs.Ytnjjifikogblpaa.rd R (.slice A n cap) xs ∈ L) (hR : R.sz = s) (h0 : 0 ≤ l) (h1 : l ≤ h) (h2 : h ≤ n)
    (k : ∀ A' c', St W0 w (Go.Proofs.Ytnjjifikogblpaa.rd R (.slice A' (h.toNat - l.toNat) c') ((xs.take h.toNat).drop l.toNat) :: L) → wpList P ops Q rest (a.put dst (.slice A' (h.toNat - l.toNat) c')) w) :
    wpList P ops Q (⟨dst, .slice t x lo hi none, ty, pos, aft, gd⟩ :: rest) a w :=
  wl_slice hS rfl hw hx hl hh hR hm h0 h1 h2 rfl rfl k
/-! ### in a round -/
/-- the fence that lets everything in -/
theorem range_1 : Array.range 1 = #[0] := by decide
theorem range_2 : Array.range 2 = #[0, 1] := by decide
theorem L_lit1 (hS : St W0 w L) {dst : Option Tmp} {t : TypeId} {x : Operand} {ty : TypeId} {pos : String} {aft : Array Edge} {gd : Option (Nat × Bool)} {e : TypeId} {z : Value} {by_ : Nat} [u : UL P t (.slice e)] [ti : TI P e z 1 by_]
    {α : Type} {R : Enc α} {el : α} {v : Value} (hw : Region.wanted ⟨dst, .buildSlice t 1 #[(0, x)], ty, pos, aft, gd⟩ (yielded ops a.tmps) = true) (hx : a.eval x = v) (hz : z.cells.size = 1) (hR : R.sz = 1) (hv : v.cells = #[v]) (hel : ∀ m h, SepL m L h → R.r m el [v])
    (k : ∀ A w', St W0 w' (own e R (.slice A 1 1) [el] :: L) → wpList P ops Q rest (a.put dst (.slice A 1 1)) w') : wpList P ops Q (⟨dst, .buildSlice t 1 #[(0, x)], ty, pos, aft, gd⟩ :: rest) a w := by
  refine wl_lit (R := R) (l := [el]) (css := [[v]]) (cells := [v]) hS rfl hw (e := e) (s := 1) ?_ (by decide) (by decide) rfl hR (fun m h hL => ⟨hel m h hL, trivial⟩) rfl (by decide) k
  simp [Instr.fill, hx, hv, range_1]
theorem L_lit2 (hS : St W0 w L) {dst : Option Tmp} {t : TypeId} {x y : Operand} {ty : TypeId} {pos : String} {aft : Array Edge} {gd : Option (Nat × Bool)} {e : TypeId} {z : Value} {by_ : Nat} [u : UL P t (.slice e)] [ti : TI P e z 1 by_]
    {α : Type} {R : Enc α} {el el2 : α} {v v2 : Value} (hw : Region.wanted ⟨dst, .buildSlice t 2 #[(0, x), (1, y)], ty, pos, aft, gd⟩ (yielded ops a.tmps) = true) (hx : a.eval x = v) (hy : a.eval y = v2) (hz : z.cells.size = 1) (hR : R.sz = 1) (hv : v.cells = #[v]) (hv2 : v2.cells = #[v2])
    (hel : ∀ m h, SepL m L h → R.r m el [v]) (hel2 : ∀ m h, SepL m L h → R.r m el2 [v2])
    (k : ∀ A w', St W0 w' (own e R (.slice A 2 2) [el, el2] :: L) → wpList P ops Q rest (a.put dst (.slice A 2 2)) w') : wpList P ops Q (⟨dst, .buildSlice t 2 #[(0, x), (1, y)], ty, pos, aft, gd⟩ :: rest) a w := by
  refine wl_lit (R := R) (l := [el, el2]) (css := [[v], [v2]]) (cells := [v, v2]) hS rfl hw (e := e) (s := 1) ?_ (by decide) (by decide) rfl hR (fun m h hL => ⟨hel m h hL, hel2 m h hL, trivial⟩) rfl (by decide) k
  simp [Instr.fill, hx, hy, hv, hv2, range_2]
def Fr (r : Option Nat) : Fence := { Fence.wide with round := r }
theorem callsIn_fr {r : Option Nat} {n : Nat} {f : FuncId} {args : Array Value} {R : Ending → World → Prop} (h : Calls P f args w R) : CallsIn (Fr r) n P f args w R := (callsIn_wide.2 h : CallsIn Fence.wide n P f args w R)
theorem listIn_of_list {r : Option Nat} {n : Nat} (hout : ∀ a w, ¬ Q .outgrown a w) : ∀ {l : List Oper} {a : Act} {w : World}, (∀ o ∈ l, ∀ c, o.op ≠ .defer c) → wpList P ops Q l a w → wpListIn (Fr r) n P ops Q l a w
  | [], _, _, _, h => h
  | o :: l, a, w, hd, h => by
    have ih : ∀ a w, wpList P ops Q l a w → wpListIn (Fr r) n P ops Q l a w := fun a w k => listIn_of_list hout (fun o ho => hd o (.tail _ ho)) k
    unfold wpList at h
    unfold wpListIn
    split at h
    · rename_i hw
      rw [if_pos hw]
      rcases h with h | ⟨_, a', w', hq⟩
      case inr => exact (hout a' w' hq).elim
      refine ⟨fun _ _ => trivial, ?_⟩
      have hs : o.semAt (Fr r).round a.eval = execOp a.eval o := by
        cases r with
        | none => rfl
        | some l => exact Oper.semAt_some l a.eval o (hd o (.head _))
      rw [hs]
      unfold Oper.wp at h
      revert h
      cases hr : (execOp a.eval o).run P w with
      | halt x w' => cases x <;> exact fun h => h
      | ok x w' =>
        cases x with
        | value v => exact fun h => ih _ _ h
        | skip => exact fun h => ih _ _ h
        | defer d => exact fun h => ih _ _ h
        | enter f args =>
          intro h
          refine ⟨(fun hn => (by cases hn)), callsIn_fr (Calls.mono h ?_)⟩
          intro e w'' he
          cases e with
          | returned v => exact ih _ _ he
          | panicked c => exact he
          | outgrown => exact he
        | row row args =>
          intro h
          refine ⟨(fun hn => (by cases hn)), fun c cs _ => ?_⟩
          obtain ⟨v, w'', hR, hst⟩ := h c cs
          exact ⟨v, w'', ih _ _ hR, stepsIn_wide.2 hst⟩
        | _ => exact fun h => h.elim
    · rename_i hw
      rw [if_neg hw]
      exact ⟨fun _ _ => trivial, ih _ _ h⟩

/-- a call of yield, in the iterator's own text -/
def Yields (P : Program) (l : Nat) (args : Array Value) (W : World) (R : Ending → World → Prop) : Prop :=
  ∃ fn tmps assign body, (Instr.yield l args).run P W = .ok (.round l fn tmps assign body) W ∧ RoundIn Fence.wide 0 P l fn tmps assign body W R
theorem wlIn_yield {n : Nat} {f : Operand} {xs : Array Operand} {ats : Array TypeId} (hop : o.op = .call { callee := .value f, args := xs, argTypes := ats }) (hw : Region.wanted o (yielded ops a.tmps) = true) {l : Nat}
    (hf : a.eval f = .func (.yield l) #[] #[]) {args : Array Value} (ha : xs.map a.eval = args) {R : Ending → World → Prop} (hy : Yields P l args w R) (hret : ∀ e w', R e w' → ∃ v, e = .returned v)
    (k : ∀ v w', R (.returned v) w' → wpListIn Fence.wide n P ops Q rest (a.put o.dst v) w') : wpListIn Fence.wide n P ops Q (o :: rest) a w := by
  obtain ⟨fn, tmps, assign, body, hyy, hR⟩ := hy
  unfold wpListIn
  rw [if_pos hw]
  refine ⟨fun _ _ => trivial, ?_⟩
  have hs : o.semAt Fence.wide.round a.eval = execOp a.eval o := rfl
  rw [hs]
  have hrun : (execOp a.eval o).run P w = .ok (.round l fn tmps assign body) w := by
    unfold execOp
    simp only [hop, resolve, hf, ha, Deferred.ofValue, Sem.run_bind]
    simp [invoke, hyy]
  rw [hrun]
  refine ⟨(fun hn => (by cases hn)), ?_⟩
  refine ⟨trivial, fun c cs _ => ?_⟩
  obtain ⟨e, w', hRe, hst⟩ := hR.2 c cs (room_wide _)
  obtain ⟨v, rfl⟩ := hret e w' hRe
  exact ⟨.returned v, w', k v w' hRe, hst⟩

theorem wanted_pos {b : Bool} {p q : Prop} (hb : b = true) (h : p) : if b = true then p else q := by rw [if_pos hb]; exact h
theorem wlIn_move {n : Nat} {dst : Option Tmp} {x : Operand} {ty : TypeId} {pos : String} {aft : Array Edge} {Q : Exit → Act → World → Prop}
    (k : wpListIn Fence.wide n P ops Q rest (a.put dst (a.eval x)) w) : wpListIn Fence.wide n P ops Q (⟨dst, .move x, ty, pos, aft, none⟩ :: rest) a w := by
  unfold wpListIn
  refine wanted_pos (by rfl) ?_
  exact ⟨fun _ _ => trivial, k⟩
theorem wlIn_not {n : Nat} {dst : Option Tmp} {x : Operand} {t ty : TypeId} {pos : String} {aft : Array Edge} {Q : Exit → Act → World → Prop} {b : Bool} (hx : a.eval x = .bool b)
    (k : wpListIn Fence.wide n P ops Q rest (a.put dst (.bool !b)) w) : wpListIn Fence.wide n P ops Q (⟨dst, .unOp .not t x, ty, pos, aft, none⟩ :: rest) a w := by
  unfold wpListIn
  refine wanted_pos (by rfl) ?_
  refine ⟨fun _ _ => trivial, ?_⟩
  have hs : Oper.semAt Fence.wide.round a.eval ⟨dst, .unOp .not t x, ty, pos, aft, none⟩ = execOp a.eval ⟨dst, .unOp .not t x, ty, pos, aft, none⟩ := rfl
  rw [hs]
  have hrun : (execOp a.eval ⟨dst, .unOp .not t x, ty, pos, aft, none⟩).run P w = .ok (.value (.bool !b)) w := by
    unfold execOp
    simp [hx, Op.unary]
  rw [hrun]
  exact k
/-- 'if !yield(x)': the region of the call -/
theorem wp_yield1 {id : Nat} {d1 d2 d3 d4 : Tmp} {f x : Operand} {t1 t2 t3 t4 u4 : TypeId} {p1 p2 p3 p4 : String} {a3 a4 : Array Edge} {ats : Array TypeId} {Q : Exit → Act → World → Prop} {l : Nat} {v : Value}
    (hf : (({ a with tmps := (a.tmps.setIfInBounds d1 (a.eval f)) } : Act).put (some d2) (({ a with tmps := (a.tmps.setIfInBounds d1 (a.eval f)) } : Act).eval x)).eval (.tmp d1) = .func (.yield l) #[] #[])
    (hx : (({ a with tmps := (a.tmps.setIfInBounds d1 (a.eval f)) } : Act).put (some d2) (({ a with tmps := (a.tmps.setIfInBounds d1 (a.eval f)) } : Act).eval x)).eval (.tmp d2) = v)
    (hd3 : d3 < a.tmps.size) {R : Ending → World → Prop} (hy : Yields P l #[v] w R) (hret : ∀ e w', R e w' → e = .returned (.bool true))
    (k : ∀ w', R (.returned (.bool true)) w' → Q .normal ((((a.put (some d1) (a.eval f)).put (some d2) ((a.put (some d1) (a.eval f)).eval x)).put (some d3) (.bool true)).put (some d4) (.bool false)) w') :
    (Code.region id #[⟨some d1, .move f, t1, p1, #[], none⟩, ⟨some d2, .move x, t2, p2, #[], none⟩, ⟨some d3, .call { callee := .value (.tmp d1), args := #[.tmp d2], argTypes := ats }, t3, p3, a3, none⟩, ⟨some d4, .unOp .not u4 (.tmp d3), t4, p4, a4, none⟩] false).wp P Q a w := by
  refine (wpIn_wide (n := 0)).1 (wpIn_region_lit ?_)
  refine wlIn_move (wlIn_move (wlIn_yield (l := l) (args := #[v]) (R := R) rfl rfl hf (by rw [← hx]; simp only [List.map_toArray, List.map_cons, List.map_nil]; rfl) hy (fun e w' h => ⟨_, hret e w' h⟩) ?_))
  intro v' w' h
  have hv := hret _ _ h
  injection hv with hv
  subst hv
  refine wlIn_not (b := true) ?_ (wpListIn_nil (k w' h))
  simp [Act.put, Act.eval, hd3]

/-- An iterator's promise: called at a loop's yield, it hands over xs, one by one, in this order. E: what it needs, and leaves. -/
def Gives {α : Type} (P : Program) (gf : FuncId) (lb : Array Value) (enc : α → Array Value) (xs : List α) (E : List HP) : Prop :=
  ∀ (l : Nat) (W0 w : World) (J : List α → List HP),
    (∀ pre x post W, xs = pre ++ x :: post → St W0 W (J pre ++ E) → Yields P l (enc x) W fun e W' => e = .returned (.bool true) ∧ St W0 W' (J (pre ++ [x]) ++ E)) →
    St W0 w (J [] ++ E) → Calls P gf (#[.func (.yield l) #[] #[]] ++ lb) w fun e W' => (∃ v, e = .returned v) ∧ St W0 W' (J xs ++ E)

theorem St.putObj {b : Nat} {o o' : Obj} (s : St W0 w (blk b o :: L)) : St W0 (w.putObj b o') (blk b o' :: L) :=
  St.set_ s ⟨rfl, rfl, rfl, by simp, fun k _ hk => World.putObj_heap_other (fun e => hk (by rw [e]))⟩ (World.putObj_heap_same (Array.getElem?_eq_some_iff.1 s.blk_).1)

theorem wp_range {α : Type} {g : Operand} {ps : Array Tmp} {assign body : Code} {gf : FuncId} {lb : Array Value} (hg : a.eval g = .func (.func gf) #[] lb) (eg : Enters P gf)
    {enc : α → Array Value} {xs : List α} {E : List HP} (hit : Gives P gf lb enc xs E) (hps : ∀ x, (enc x).size = ps.size) (I : List α → List HP) (hS : St W0 w (I [] ++ E))
    (hbody : ∀ (l D : Nat) (rec : Obj) (pre : List α) (x : α) (post : List α), xs = pre ++ x :: post →
      ∃ a₁, (∀ W K, K a₁ W → assign.wpIn (Fr (some l)) 0 P (Exit.then K (fun _ _ _ => False)) { tmps := (ps.zip (enc x)).foldl (fun t (p, v) => t.setIfInBounds p v) a.tmps, defers := [] } W) ∧
      ∀ W, St W0 W (blk l rec :: blk D (.deferred (some [])) :: (I pre ++ E)) → body.wpIn (Fr (some l)) 0 P (fun e _ W' => e = .normal ∧ St W0 W' (blk l rec :: blk D (.deferred (some [])) :: (I (pre ++ [x]) ++ E))) a₁ W)
    (hdone : ∀ (D : Nat) (W : World), St W0 W (blk D (.deferred (some [])) :: (I xs ++ E)) → Q .normal { a with defers := { target := .collected D, args := #[] } :: a.defers } W) :
    (Code.rangeFunc g ps assign body).wp P Q a w := by
  refine (wpIn_wide (n := 0)).1 (wpIn_rangeFunc ?_)
  intro fn _
  obtain ⟨rec, hrec⟩ : ∃ rec : LoopState → Option Code → Loop, rec = fun st pe => { state := st, pending := pe, fn, tmps := a.tmps, params := ps, assign, body, defers := w.heap.size } := ⟨_, rfl⟩
  have hS1 := (hS.alloc (.deferred (some []))).alloc (.loop (rec .ready none))
  rw [World.size_alloc] at hS1
  generalize hl : w.heap.size + 1 = l at hS1
  generalize hD : w.heap.size = D at hS1 hl hrec
  have henter := run_enterLoop_outer (P := P) (w := w) fn a.tmps ps assign body
  rw [hD] at henter
  rw [hl] at henter
  have hr1 : (rec .ready none) = { state := .ready, pending := none, fn, tmps := a.tmps, params := ps, assign, body, defers := D } := by rw [hrec]
  rw [← hr1] at henter
  generalize hw1 : (w.alloc (.deferred (some []))).alloc (.loop (rec .ready none)) = w1 at henter hS1
  refine ⟨l, [{ target := .collected D, args := #[] }], w1, { target := .fn (.func gf) lb, args := #[.func (.yield l) #[] #[]] }, w1, gf,
    #[.func (.yield l) #[] #[]] ++ lb, w1, henter, ?_, fun _ _ => trivial, ?_, (fun hn => (by cases hn)), ?_⟩
  · simp only [resolve, hg]
    simp [go_sem]
  · exact eg _ _
  · refine callsIn_wide.2 (Calls.mono (hit l W0 _ (fun pre => blk l (.loop (rec .ready none)) :: blk D (.deferred (some [])) :: I pre) ?_ hS1) ?_)
    · intro pre x post W hx hW
      have hblk : W.heap[l]? = some (.loop (rec .ready none)) := St.blk_ hW
      have hrp : (rec .ready none).params = ps := by rw [hrec]
      refine ⟨fn, (ps.zip (enc x)).foldl (fun t (p, v) => t.setIfInBounds p v) a.tmps, assign, body, ?_, ?_⟩
      · have := run_yield (P := P) (args := enc x) hblk (by rw [hrp]; exact hps x)
        rw [this, hrec]
      · refine roundIn_of_wpIn trivial ?_
        obtain ⟨a₁, has, hb⟩ := hbody l D (.loop (rec .busy none)) pre x post hx
        refine has W _ ?_
        refine ⟨W.putObj l (.loop (rec .busy none)), ?_, ?_⟩
        · have := run_beginRound (P := P) hblk (by rw [hrec])
          rw [this, hrec]
        · refine wpIn_mono (hb _ (St.putObj hW)) ?_
          rintro e a' W' ⟨rfl, hW'⟩
          have hblk' : W'.heap[l]? = some (.loop (rec .busy none)) := St.blk_ hW'
          refine ⟨_, _, run_endRound (P := P) none hblk', rfl, ?_⟩
          have := St.putObj (o' := .loop (rec .ready none)) hW'
          rw [hrec] at this ⊢
          exact this
    · rintro e W' ⟨⟨v, rfl⟩, hW'⟩
      have hblk' : W'.heap[l]? = some (.loop (rec .ready none)) := St.blk_ hW'
      refine ⟨none, W'.putObj l (.loop { rec .ready none with state := .exhausted }), ?_, ?_⟩
      · rw [run_endLoop (P := P) hblk' (by rw [hrec]; simp), hrec]
      · exact hdone D _ (St.drop (St.putObj hW'))

theorem zip1 {p : Tmp} {v : Value} {t : Array Value} : (#[p].zip #[v]).foldl (fun t (p, v) => t.setIfInBounds p v) t = t.setIfInBounds p v := by simp
theorem wp_range1 {α : Type} {g : Operand} {p : Tmp} {assign body : Code} {gf : FuncId} {lb : Array Value} (hg : a.eval g = .func (.func gf) #[] lb) (eg : Enters P gf)
    {en : α → Value} {xs : List α} {E : List HP} (hit : Gives P gf lb (fun x => #[en x]) xs E) (I : List α → List HP) (hS : St W0 w (I [] ++ E))
    (hbody : ∀ (l D : Nat) (rec : Obj) (pre : List α) (x : α) (post : List α), xs = pre ++ x :: post →
      ∃ a₁, (∀ W K, K a₁ W → assign.wpIn (Fr (some l)) 0 P (Exit.then K (fun _ _ _ => False)) { tmps := a.tmps.setIfInBounds p (en x), defers := [] } W) ∧
      ∀ W, St W0 W (blk l rec :: blk D (.deferred (some [])) :: (I pre ++ E)) → body.wpIn (Fr (some l)) 0 P (fun e _ W' => e = .normal ∧ St W0 W' (blk l rec :: blk D (.deferred (some [])) :: (I (pre ++ [x]) ++ E))) a₁ W)
    (hdone : ∀ (D : Nat) (W : World), St W0 W (blk D (.deferred (some [])) :: (I xs ++ E)) → Q .normal { a with defers := { target := .collected D, args := #[] } :: a.defers } W) :
    (Code.rangeFunc g #[p] assign body).wp P Q a w :=
  wp_range hg eg hit (fun _ => rfl) I hS (fun l D rec pre x post hx => by rw [zip1]; exact hbody l D rec pre x post hx) hdone
theorem wpIn_region_fr {r : Option Nat} {n id : Nat} (hout : ∀ a w, ¬ Q .outgrown a w) (hd : ∀ o ∈ ops.toList, ∀ c, o.op ≠ .defer c) (h : wpList P ops Q ops.toList a w) : (Code.region id ops false).wpIn (Fr r) n P Q a w :=
  wpIn_region_list (listIn_of_list hout hd h)
theorem wpIn_region_frl {r : Option Nat} {n id : Nat} {l : List Oper} (hout : ∀ a w, ¬ Q .outgrown a w) (hd : ∀ o ∈ l, ∀ c, o.op ≠ .defer c) (h : wpList P l.toArray Q l a w) : (Code.region id l.toArray false).wpIn (Fr r) n P Q a w :=
  wpIn_region_list (listIn_of_list hout hd h)
theorem wpIn_assign1 {r : Option Nat} {n id : Nat} {d : Tmp} {x : Operand} {ty : TypeId} {pos : String} {aft : Array Edge} {K : Act → World → Prop} {W : World} (h : K (a.put (some d) (a.eval x)) W) :
    (Code.region id #[⟨some d, .assign x, ty, pos, aft, none⟩] false).wpIn (Fr r) n P (Exit.then K fun _ _ _ => False) a W := by
  refine wpIn_region_fr (fun _ _ h => h) (fun o ho c => ?_) ?_
  · simp at ho; subst ho; simp
  · show wpList P _ _ [_] a W
    refine step_val (v := a.eval x) (w' := W) (by rfl) (by unfold execOp; simp) ?_
    exact h
theorem noDefer {l : List Oper} (h : (l.all fun o => match o.op with | .defer _ => false | _ => true) = true) : ∀ o ∈ l, ∀ c, o.op ≠ .defer c := by
  intro o ho c e
  have := List.all_eq_true.1 h o ho
  rw [e] at this
  cases this
/-- a function that has ranged over functions returns -/
theorem post_marks {n : Nat} {fn : Func} {R : Ending → World → Prop} {a : Act} {D : Nat} {v : Value} (hd : a.defers = [{ target := .collected D, args := #[] }])
    (hS : St W0 w (blk D (.deferred (some [])) :: L)) (hres : ∀ w, (results fn a.tmps).run P w = .ok v w) (hR : ∀ w', St W0 w' L → R (.returned v) w') : bodyPostM Fence.wide n P fn R .ret a w := by
  show LeavesInM Fence.wide n P fn a.tmps R a.defers .returning w
  rw [hd]
  refine ⟨by simp, .inl ⟨D, w.putObj D (.deferred none), rfl, run_takeDeferred hS.blk_, ?_⟩⟩
  exact ⟨v, hres _, hR _ (St.drop (St.putObj hS))⟩
end Go.Proofs.Ytnjjifikogblpaa
namespace Go.Proofs.Ytnjjifikogblpaa
open Go Go.RowKit
set_option linter.unusedVariables false
set_option linter.unusedSimpArgs false
variable {W0 w : World} {L : List HP}
theorem wl_idxOwn1 {P : Program} {ops : Array Oper} {rest : List Oper} {o : Oper} {a : Act} {Q : Exit → Act → World → Prop} {t e : TypeId} {x ix : Operand} (hop : o.op = .indexAddr t x ix) (hw : Region.wanted o (yielded ops a.tmps) = true) {g n cap : Nat} (hx : a.eval x = .slice (some ⟨g, 0, none⟩) n cap)
    {k : IntKind} {zi : Nat} (hi : a.eval ix = .int k (zi : Int)) [UL P t (.slice e)] {z : Value} {by_ : Nat} [TI P e z 1 by_] (h1 : zi < n)
    (kk : wpList P ops Q rest (a.put o.dst (.pointer (some ⟨g, zi, none⟩))) w) : wpList P ops Q (o :: rest) a w :=
  wl_idxOwn (z := z) (s := 1) (by_ := by_) (e := e) hop hw hx hi (by omega) (by omega) (by simpa using kk)
theorem St.own_cel {α : Type} {f : α → Value} {hf : ∀ a, (f a).oneCell' = true} {E : TypeId} {v : Value} {l : List α} (s : St W0 w (own E (e1 f hf) v l :: L)) (hl : l ≠ []) :
    ∃ g cap sp, v = .slice (some ⟨g, 0, none⟩) l.length cap ∧ l.length ≤ cap ∧ cap ≤ maxLen ∧ sp.length = cap - l.length ∧ St W0 w (cel g (l.map f ++ sp) E :: L) := by
  have s1 : St W0 w (ex (fun q : Nat × Nat × List Value => Go.Proofs.Ytnjjifikogblpaa.sp [pur (v = .slice (some ⟨q.1, 0, none⟩) l.length q.2.1 ∧ l.length ≤ q.2.1 ∧ q.2.1 ≤ maxLen ∧ q.2.2.length = q.2.1 - l.length), cel q.1 (l.map f ++ q.2.2) E]) :: L) := by
    refine s.imp ?_
    rintro m h ⟨css, ha, k⟩
    rcases k with ⟨_, h0⟩ | ⟨g, cap, cur, hv, hg, hc, hm, hs, ht⟩
    · exact absurd h0 hl
    · have hcs := all2_e1.1 ha
      subst hcs
      rw [flat_one] at ht
      have hsz : (e1 f hf).sz = 1 := rfl
      rw [hsz] at hs ht
      simp only [Nat.mul_one] at hs ht
      have hcur : cur.toList = l.map f ++ cur.toList.drop l.length := by rw [← ht, List.take_append_drop]
      have hcell : Obj.cells (List.map f l ++ List.drop l.length cur.toList).toArray E (0, 0) = Obj.cells cur E (0, 0) := by rw [← hcur]
      refine ⟨(g, cap, cur.toList.drop l.length), Hp.none, h, Hp.none_dj _, Hp.none_le _, Hp.le_refl _, ⟨hv, hc, hm, by simp [hs]⟩, h, Hp.none, Hp.dj_none _, Hp.le_refl _, Hp.none_le _, ?_, trivial⟩
      show h g = some (Obj.cells (List.map f l ++ List.drop l.length cur.toList).toArray E (0, 0))
      rw [hcell, hg]
  obtain ⟨q, h⟩ := s1.ex_
  have h2 := h.open_
  have hp := h2.pur_
  exact ⟨q.1, q.2.1, q.2.2, hp.1, hp.2.1, hp.2.2.1, hp.2.2.2, h2.drop⟩
theorem St.cel_own {α : Type} {f : α → Value} {hf : ∀ a, (f a).oneCell' = true} {E : TypeId} {l : List α} {g cap : Nat} {sp : List Value} (s : St W0 w (cel g (l.map f ++ sp) E :: L)) (h1 : l.length ≤ cap) (h2 : cap ≤ maxLen) (h3 : sp.length = cap - l.length) :
    St W0 w (own E (e1 f hf) (.slice (some ⟨g, 0, none⟩) l.length cap) l :: L) := by
  refine s.imp ?_
  intro m h hc
  refine ⟨l.map fun b => [f b], all2_e1.2 rfl, .inr ⟨g, cap, (l.map f ++ sp).toArray, rfl, ?_, h1, h2, ?_, ?_⟩⟩
  · exact hc
  · simp [e1]; omega
  · rw [flat_one]; simp [e1]
end Go.Proofs.Ytnjjifikogblpaa
namespace Go.Proofs.Ytnjjifikogblpaa
open Go Go.RowKit
set_option linter.unusedVariables false
set_option linter.unusedSimpArgs false
section
variable {P : Program} {W0 w : World} {L : List HP} {ops : Array Oper} {rest : List Oper} {o : Oper} {a : Act} {Q : Act → Prop}
/-- the lexical walk in the class of my assertions -/
def wq (P : Program) (W0 : World) (L : List HP) (ops : Array Oper) (Q : Act → Prop) (l : List Oper) (a : Act) : Prop := wpQuiet P ops (fun w' => St W0 w' L) Q l a
theorem wp_region_st {id : Nat} {Q : Exit → Act → World → Prop} {l : List Oper} (hS : St W0 w L) (hm : P.follows .mixedOrders = true) (hB : Region.lexB .any l.toArray = true)
    (h : wq P W0 L l.toArray (fun a' => ∀ w', St W0 w' L → Q .normal a' w') l a) : (Code.region id l.toArray true).wp P Q a w :=
  wp_region_quiet (C := fun w' => St W0 w' L) hm hB hS.drew (by simpa [wq] using h)
theorem wq_nil (h : Q a) : wq P W0 L ops Q [] a := h
theorem q_run (hw : Region.wanted o (yielded ops a.tmps) = true) {v : Value} (hr : ∀ w, St W0 w L → (execOp a.eval o).run P w = .ok (.value v) w) (k : wq P W0 L ops Q rest (a.put o.dst v)) : wq P W0 L ops Q (o :: rest) a := by
  show (if Region.wanted o (yielded ops a.tmps) then _ else _)
  rw [if_pos hw]
  refine ⟨v, fun w' h' => ?_, k⟩
  show Oper.quietUpon P _ w' v ((execOp a.eval o).run P w')
  rw [hr w' h']
  exact ⟨rfl, rfl⟩
theorem q_off (hw : Region.wanted o (yielded ops a.tmps) = false) (k : wq P W0 L ops Q rest (a.put o.dst undef)) : wq P W0 L ops Q (o :: rest) a := by
  show (if Region.wanted o (yielded ops a.tmps) then _ else _)
  rw [if_neg (by rw [hw]; simp)]
  exact k
theorem q_call {f : FuncId} (eg : Enters P f) {args : List Value} {xs : Array Operand} {ats : Array TypeId} {dst : Option Tmp} {ty : TypeId} {pos : String} {aft : Array Edge} {gd : Option (Nat × Bool)}
    (hw : Region.wanted ⟨dst, .call { callee := .value (.func f), args := xs, argTypes := ats }, ty, pos, aft, gd⟩ (yielded ops a.tmps) = true) (ha : xs.toList.map a.eval = args) {v : Value}
    (hc : ∀ w, St W0 w L → Calls P f args.toArray w fun e w' => e = .returned v ∧ St W0 w' L)
    (k : wq P W0 L ops Q rest (a.put dst v)) : wq P W0 L ops Q (⟨dst, .call { callee := .value (.func f), args := xs, argTypes := ats }, ty, pos, aft, gd⟩ :: rest) a := by
  show (if Region.wanted _ (yielded ops a.tmps) then _ else _)
  rw [if_pos hw]
  refine ⟨v, fun w' h' => ?_, k⟩
  show Oper.quietUpon P _ w' v ((execOp a.eval _).run P w')
  have hr : (execOp a.eval (⟨dst, .call { callee := .value (.func f), args := xs, argTypes := ats }, ty, pos, aft, gd⟩ : Oper)).run P w' = .ok (.enter f args.toArray) w' := by
    have e : args.toArray = xs.map a.eval := by rw [← ha, ← Array.toList_map]
    rw [e]
    unfold execOp
    simp [resolve, Act.eval, Deferred.ofValue, invoke]
    exact eg _ _
  rw [hr]
  exact ⟨rfl, hc w' h'⟩
theorem q_move {x : Operand} {v : Value} {dst : Option Tmp} {ty : TypeId} {pos : String} {aft : Array Edge} {gd : Option (Nat × Bool)} (hw : Region.wanted ⟨dst, .move x, ty, pos, aft, gd⟩ (yielded ops a.tmps) = true) (hx : a.eval x = v)
    (k : wq P W0 L ops Q rest (a.put dst v)) : wq P W0 L ops Q (⟨dst, .move x, ty, pos, aft, gd⟩ :: rest) a :=
  q_run hw (fun w _ => by unfold execOp; simp [hx]) k
theorem q_assign {x : Operand} {v : Value} {dst : Option Tmp} {ty : TypeId} {pos : String} {aft : Array Edge} {gd : Option (Nat × Bool)} (hw : Region.wanted ⟨dst, .assign x, ty, pos, aft, gd⟩ (yielded ops a.tmps) = true) (hx : a.eval x = v)
    (k : wq P W0 L ops Q rest (a.put dst v)) : wq P W0 L ops Q (⟨dst, .assign x, ty, pos, aft, gd⟩ :: rest) a :=
  q_run hw (fun w _ => by unfold execOp; simp [hx]) k
theorem q_binop {b : BinOp} {t u : TypeId} {x y : Operand} {v1 v2 v : Value} {dst : Option Tmp} {ty : TypeId} {pos : String} {aft : Array Edge} {gd : Option (Nat × Bool)} (hw : Region.wanted ⟨dst, .binOp b t x y u, ty, pos, aft, gd⟩ (yielded ops a.tmps) = true)
    (hx : a.eval x = v1) (hy : a.eval y = v2) (hg : ∀ w, (eqGuard b t x y v1 v2).run P w = .ok () w) (hr : ∀ w, (binOp b t v1 v2).run P w = .ok v w)
    (k : wq P W0 L ops Q rest (a.put dst v)) : wq P W0 L ops Q (⟨dst, .binOp b t x y u, ty, pos, aft, gd⟩ :: rest) a :=
  q_run hw (fun w _ => by unfold execOp; simp [hx, hy, hg w, hr w]) k
theorem q_load {t : TypeId} {x : Operand} {p : Addr} {v : Value} {dst : Option Tmp} {ty : TypeId} {pos : String} {aft : Array Edge} {gd : Option (Nat × Bool)} (hw : Region.wanted ⟨dst, .load t x, ty, pos, aft, gd⟩ (yielded ops a.tmps) = true) (hx : a.eval x = .pointer (some p)) [AG P t false]
    (hc : ∀ w, St W0 w L → w.cell? p = some v) (k : wq P W0 L ops Q rest (a.put dst v)) : wq P W0 L ops Q (⟨dst, .load t x, ty, pos, aft, gd⟩ :: rest) a :=
  q_run hw (fun w h => by unfold execOp; simp [hx, load_run (hc w h)]) k
theorem q_idx1 {t e : TypeId} {x ix : Operand} {b off n cap : Nat} {kd : IntKind} {i : Nat} {dst : Option Tmp} {ty : TypeId} {pos : String} {aft : Array Edge} {gd : Option (Nat × Bool)} (hw : Region.wanted ⟨dst, .indexAddr t x ix, ty, pos, aft, gd⟩ (yielded ops a.tmps) = true)
    (hx : a.eval x = .slice (some ⟨b, off, none⟩) n cap) (hi : a.eval ix = .int kd (i : Int)) [UL P t (.slice e)] {z : Value} {by_ : Nat} [TI P e z 1 by_] (h1 : i < n)
    (k : wq P W0 L ops Q rest (a.put dst (.pointer (some ⟨b, off + i, none⟩)))) : wq P W0 L ops Q (⟨dst, .indexAddr t x ix, ty, pos, aft, gd⟩ :: rest) a :=
  q_run hw (fun w h => by unfold execOp; simp [hx, hi, indexAt_run (P := P) (t := t) (e := e) (s := 1) (by omega : (0 : Int) ≤ (i : Int)) (by omega : (i : Int) < (n : Int)), add0]) k
theorem St.cellsAt {α : Type} {f : α → Value} {hf : ∀ a, (f a).oneCell' = true} {b off n cap i : Nat} {l : List α} {x : α} (hsrc : Src L (e1 f hf) (.slice (some ⟨b, off, none⟩) n cap) l) (hi : l[i]? = some x) (w : World) (hS : St W0 w L) :
    w.cell? ⟨b, off + i, none⟩ = some (f x) := by
  obtain ⟨b', off', x', hx', hc, hA⟩ := (hsrc.sl hS).cell1 (List.getElem?_eq_some_iff.1 hi).1
  rw [hi] at hx'
  injection hx' with hx'
  injection hA with hA
  injection hA with h1 h2 _
  subst hx'; subst h1; subst h2
  exact hc
theorem q_string {t ts : TypeId} {x : Operand} {e : TypeId} {y : Value} {l : List UInt8} {dst : Option Tmp} {ty : TypeId} {pos : String} {aft : Array Edge} {gd : Option (Nat × Bool)} (hw : Region.wanted ⟨dst, .convert ts t x, ty, pos, aft, gd⟩ (yielded ops a.tmps) = true)
    (hx : a.eval x = y) [us : UL P t .string] [u : UL P ts (.slice e)] [ub : UL P e (.int .u8)] (hsrc : Src L eB y l)
    (k : wq P W0 L ops Q rest (a.put dst (.string ⟨l.toArray⟩))) : wq P W0 L ops Q (⟨dst, .convert ts t x, ty, pos, aft, gd⟩ :: rest) a := by
  refine q_run hw (fun w hS => ?_) k
  have hsl : Sl (Hp.of w) eB y l := hsrc.sl hS
  obtain ⟨A, c, css, rfl, hc, ha, hr⟩ := hsl
  unfold execOp
  simp only [hx, Sem.run_bind]
  rcases hr with h | ⟨b, off, cs, T, fr, hA, hb, hcs⟩
  · subst h
    have hz : (convert ts t (.slice A 0 c)).run P w = .ok (.string ⟨#[]⟩) w := by
      rcases A with _ | ad
      · rw [run_convert_bytes_string w ts t e none 0 c u.pf ub.pf us.pf]; rfl
      · exact run_convert_bytes_back (P := P) w ts t e ad c [] u.pf ub.pf us.pf (fun j hj => by simp at hj)
    simp [hz]
  · subst hA
    rw [run_convert_bytes_back (P := P) w ts t e ⟨b, off, none⟩ c l u.pf ub.pf us.pf (fun j hj => ?_)]
    · rfl
    · have ha := all2_e1.1 ha
      subst ha
      rw [flat_one] at hcs
      have := hcs j (bv l[j]) (by simp [List.getElem?_eq_getElem hj])
      have hb' : w.heap[b]? = some (.cells cs T fr) := hb
      rw [add0]
      simp [World.cell?, hb', this]
end
end Go.Proofs.Ytnjjifikogblpaa
namespace Go.Proofs.Ytnjjifikogblpaa
open Go Go.RowKit
set_option linter.unusedVariables false
set_option linter.unusedSimpArgs false
section
variable {P : Program} {W0 w : World} {L : List HP}
theorem append_str_run {t tu ty e : TypeId} {by_ : Nat} [u : UL P t (.slice e)] [us : UL P tu .string] [ti : TI P e (.int .u8 0) 1 1] {v : Value} {l : List UInt8} (S : St W0 w (own e eB v l :: L)) (s : ByteArray)
    (hb : l.length + s.size ≤ 140737488355328) :
    ∃ v' w', (Builtin.append_ #[t, tu] ty #[v, .string s]).run P w = .ok v' w' ∧ St W0 w' (own e eB v' (l ++ s.data.toList) :: L) := by
  obtain ⟨i, hi, hz, hsz, hby⟩ := ti.pf
  obtain ⟨css, hrow, hlens, hcl, k⟩ := S.own_turn
  have hr1 : eB.sz = 1 := rfl
  obtain ⟨v', w', hr, hown, hg, hnil⟩ := Lib.run_append_own_string (P := P) w 0 t tu ty e i u.pf us.pf hi hz hsz hby v l.length css.flatten hrow s (by unfold maxLen; omega) hb (Nat.zero_le _)
  refine ⟨v', w', hr, k (css' := css ++ (s.data.toList.map fun b => [bv b])) ?_ ?_ hg ?_⟩
  · intro m h _ ha
    exact ha.append (all2_e1.2 rfl)
  · rw [List.flatten_append, flat_one]
    have e1 : (l ++ s.data.toList).length = l.length + s.size := by rw [List.length_append]; rfl
    rw [e1]
    exact hown
  · rcases hrow.2 with ⟨rfl, hn⟩ | ⟨g, cap, cur, rfl, hbg, hg', hnc, hcm, hcs, htake⟩
    · by_cases hs : s.size = 0
      · rw [hnil.2 ⟨rfl, hs⟩]; exact .inl rfl
      · rw [run_append_nil_string w t tu ty e i _ u.pf us.pf hi hz s (by omega) (by omega) (by rw [hby]; omega)] at hr
        injection hr with h1 h2
        rw [← h1]
        exact .inr rfl
    · by_cases hroom : l.length + s.size ≤ cap
      · rw [Lib.run_append_room_string w t tu ty e i u.pf us.pf hi hsz g l.length cap cur hg' s hroom (by rw [hcs, hr1]; omega)] at hr
        injection hr with h1 h2
        rw [← h1]
        exact .inl rfl
      · have hcells : ∀ j v, css.flatten[j]? = some v → w.cell? ((⟨g, 0, none⟩ : Addr).add j) = some v := fun j u' hu' => hrow.cells (g := g) rfl j u' hu'
        rw [Lib.run_append_grow_string w t tu ty e i _ u.pf us.pf hi hz ⟨g, 0, none⟩ l.length cap css.flatten (by rw [hsz]; exact hrow.1) hcells s (by omega) (by omega) (by rw [hby]; have := nextslicecap_le (need := l.length + s.size) (old := cap) (by omega); omega)] at hr
        injection hr with h1 h2
        rw [← h1]
        exact .inr rfl
variable {ops : Array Oper} {rest : List Oper} {o : Oper} {a : Act} {Q : Exit → Act → World → Prop}
theorem L_lit0 (hS : St W0 w L) {dst : Option Tmp} {t : TypeId} {ty : TypeId} {pos : String} {aft : Array Edge} {gd : Option (Nat × Bool)} {e : TypeId} {z : Value} {sz by_ : Nat} [u : UL P t (.slice e)] [ti : TI P e z sz by_]
    {α : Type} {R : Enc α} (hw : Region.wanted ⟨dst, .buildSlice t 0 #[], ty, pos, aft, gd⟩ (yielded ops a.tmps) = true) (hR : R.sz = sz)
    (k : ∀ g w', St W0 w' (own e R (.slice (some ⟨g, 0, none⟩) 0 0) ([] : List α) :: L) → wpList P ops Q rest (a.put dst (.slice (some ⟨g, 0, none⟩) 0 0)) w') : wpList P ops Q (⟨dst, .buildSlice t 0 #[], ty, pos, aft, gd⟩ :: rest) a w := by
  obtain ⟨i, hi, hz, hsz, hby⟩ := ti.pf
  have hr : (Instr.buildSlice t 0 #[]).run P w = .ok (.slice (some ⟨w.heap.size, 0, none⟩) 0 0) (w.alloc (.cells #[] e)) := by
    simp [Instr.buildSlice, run_underlying u.pf, sizeOf, typeInfo, hi, Instr.fill, newRow]
    have e0 : Array.range 0 = #[] := by decide
    rw [e0]
    simp
  refine step_val (v := .slice (some ⟨w.heap.size, 0, none⟩) 0 0) (w' := w.alloc (.cells #[] e)) hw (by unfold execOp; simp [hr]) (k w.heap.size _ ?_)
  refine (hS.alloc (.cells #[] e)).imp ?_
  intro m h hb
  exact ⟨[], trivial, .inr ⟨w.heap.size, 0, #[], rfl, hb, Nat.le_refl _, by unfold maxLen; omega, by simp, by simp⟩⟩
theorem L_appstr (hS : St W0 w L) {dst : Option Tmp} {t tu : TypeId} {sx sy : Operand} {ty : TypeId} {pos : String} {aft : Array Edge} {gd : Option (Nat × Bool)}
    {e : TypeId} [u : UL P t (.slice e)] [us : UL P tu .string] [ti : TI P e (.int .u8 0) 1 1] {v : Value} {l : List UInt8} {sv : ByteArray} {i : Nat}
    (hw : Region.wanted ⟨dst, .call { callee := .builtin .append, args := #[sx, sy], argTypes := #[t, tu] }, ty, pos, aft, gd⟩ (yielded ops a.tmps) = true) (hv : a.eval sx = v) (hy : a.eval sy = .string sv) (hm : L[i]? = some (own e eB v l))
    (hb : l.length + sv.size ≤ 140737488355328)
    (k : ∀ A c w', St W0 w' (L.set i (own e eB (.slice A (l.length + sv.size) c) (l ++ sv.data.toList))) → wpList P ops Q rest (a.put dst (.slice A (l.length + sv.size) c)) w') :
    wpList P ops Q (⟨dst, .call { callee := .builtin .append, args := #[sx, sy], argTypes := #[t, tu] }, ty, pos, aft, gd⟩ :: rest) a w := by
  obtain ⟨v', w', hr, hS'⟩ := append_str_run (P := P) (t := t) (tu := tu) (ty := ty) (e := e) (by_ := 1) (hS.at_ hm) sv hb
  obtain ⟨A, c, rfl, _⟩ := (hS'.rdo (.head _)).form
  have hl : (l ++ sv.data.toList).length = l.length + sv.size := by rw [List.length_append]; rfl
  rw [hl] at hr hS'
  refine step_val (v := .slice A (l.length + sv.size) c) (w' := w') hw ?_ (k A c w' (hS'.back hm))
  unfold execOp
  simp only [resolve, invoke, builtin, Sem.run_bind, Sem.run_pure, Result.andThen_ok, List.map_toArray, List.map_cons, List.map_nil, hv, hy, hr]
theorem L_eqnil {dst : Option Tmp} {t u' : TypeId} {x : Operand} {n' c' : Nat} {ty : TypeId} {pos : String} {aft : Array Edge} {gd : Option (Nat × Bool)} {e : TypeId} [u : UL P t (.slice e)] {A : Option Addr} {n c : Nat}
    (hw : Region.wanted ⟨dst, .binOp .eql t x (.const (.slice none n' c')) u', ty, pos, aft, gd⟩ (yielded ops a.tmps) = true) (hx : a.eval x = .slice A n c)
    (k : wpList P ops Q rest (a.put dst (.bool A.isNone)) w) : wpList P ops Q (⟨dst, .binOp .eql t x (.const (.slice none n' c')) u', ty, pos, aft, gd⟩ :: rest) a w := by
  refine step_val (v := .bool A.isNone) (w' := w) hw ?_ k
  have h := Lib.run_eql_slice_nil (P := P) w t e A n c n' c' u.pf
  unfold execOp
  have hg : (eqGuard .eql t x (.const (.slice none n' c')) (.slice A n c) (.slice none n' c')).run P w = .ok () w := by simp [eqGuard]
  have he : a.eval (.const (.slice none n' c')) = .slice none n' c' := rfl
  simp only [hx, he, Sem.run_bind, hg, h, Result.andThen_ok]
  rfl
end
end Go.Proofs.Ytnjjifikogblpaa
