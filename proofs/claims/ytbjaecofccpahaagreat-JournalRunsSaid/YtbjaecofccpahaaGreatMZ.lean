/-
  My own engine: drawn regions where two acting operations are ready at once: every way is walked. No program.
-/
import Derived.Test.YtbjaecofccpahaaGreatMJ
import Derived.Test.YtbjaecofccpahaaGreatMY
namespace Go.Proofs.YtbjaecofccpahaaGreat
open Go Go.RowKit
set_option linter.unusedVariables false
set_option linter.unusedSimpArgs false
section
variable {P : Program} {W0 w : World} {L L' S : List HP} {ops : Array Oper} {o : Oper} {a a' : Act} {Q : Exit → Act → World → Prop}
theorem Oper.wp_convN {K K' : Act → World → Prop} {Q Q' : Exit → Act → World → Prop} (hK : ∀ a w, K a w → K' a w) (hQ : ∀ e a w, e ≠ .normal → Q e a w → Q' e a w) (h : o.wp P a w K Q) : o.wp P a w K' Q' := by
  unfold Oper.wp at *
  generalize (execOp a.eval o).run P w = r at *
  cases r with
  | ok n w' =>
    cases n <;> simp only [Oper.upon] at h ⊢
    case value v => exact hK _ _ h
    case skip => exact hK _ _ h
    case defer d => exact hK _ _ h
    case enter f args =>
      exact Calls.mono h fun e w'' he => by
        cases e with
        | returned v => exact hK _ _ he
        | panicked c => exact hQ _ _ _ (by simp) he
        | outgrown => exact let ⟨a, w, hq⟩ := he; ⟨a, w, hQ _ _ _ (by simp) hq⟩
    case row r args => exact Rows.mono h fun v w'' he => hK _ _ he
  | halt x w' => cases x <;> simp only [Oper.upon] at h ⊢; exact hQ _ _ _ (by simp) h
theorem QN_off {K : Act → World → Prop} {e : Exit} (he : e ≠ .normal) {a : Act} {w : World} : ¬ QN K e a w := by
  cases e <;> first | exact absurd rfl he | exact fun h => h
theorem wpOp_QN {K K1 K2 : Act → World → Prop} {i : Nat} (h : wpOp P ops (QN K1) i K a w) : wpOp P ops (QN K2) i K a w := by
  unfold wpOp at *
  split
  · simpa [*] using h
  · rename_i o ho
    simp only [ho] at h
    split
    · rename_i hw
      simp only [hw, if_true] at h
      rcases h with h | ⟨_, a1, w1, hq⟩
      · exact .inl (Oper.wp_convN (fun _ _ h => h) (fun e a w he hq => absurd hq (QN_off he)) h)
      · exact absurd hq (QN_off (by simp))
    · rename_i hw
      simp only [hw] at h
      exact h
/-- a plan with ways -/
inductive PT where
  | leaf (pl : List (Nat × Nat)) : PT
  | two (pl : List (Nat × Nat)) (i : Nat) (t1 : PT) (j : Nat) (t2 : PT) : PT
def PT.len : PT → Nat
  | .leaf pl => pl.length
  | .two pl _ t1 _ _ => pl.length + (1 + t1.len)
def planC (md : Region.Mode) (ops : Array Oper) (n : Nat) (fin : Array Bool → Bool) : List (Nat × Nat) → Array Bool → Bool
  | [], listed => fin listed
  | (i, 0) :: r, listed => decide (Region.ready md ops listed = [i]) && planC md ops n fin r (listed.setIfInBounds i true)
  | (i, m + 1) :: r, listed => (Region.ready md ops listed).contains i && Region.free md ops listed i && decide (i ≠ n) && (decide (0 < m) || waitsT md ops ops.size n i || decide (ops.size ≤ n)) && planC md ops n fin r (listed.setIfInBounds i true)
def planT (md : Region.Mode) (ops : Array Oper) (n : Nat) : PT → Array Bool → Bool
  | .leaf pl, listed => planB md ops n pl listed
  | .two pl i t1 j t2, listed => planC md ops n (fun l => decide (Region.ready md ops l = [i, j]) && decide (t1.len = t2.len) && planT md ops n t1 (l.setIfInBounds i true) && planT md ops n t2 (l.setIfInBounds j true)) pl listed
def wpT (P : Program) (ops : Array Oper) (K : Act → World → Prop) (S : World → Prop) (n : Nat) : PT → Act → World → Prop
  | .leaf pl, a, w => wpPl P ops K S n false pl a w
  | .two pl i t1 j t2, a, w => wpPl P ops (fun a w => wpPl P ops (wpT P ops K S n t1) S n false [(i, 0)] a w ∧ wpPl P ops (wpT P ops K S n t2) S n false [(j, 0)] a w) S n false pl a w
theorem wpAnyB_planC {md : Region.Mode} {K K0 : Act → World → Prop} {S : World → Prop} {n f : Nat} {fin : Array Bool → Bool} (hsel : Region.noSelect ops = true) (hn : ops.size ≤ n)
    (hfin : ∀ listed a w, Inv md ops listed → fin listed = true → S w → K a w → wpAnyB P md ops (QN K0) S n f listed a w) : ∀ (pl : List (Nat × Nat)) (listed : Array Bool) (a : Act) (w : World), Inv md ops listed →
    planC md ops n fin pl listed = true → S w → wpPl P ops K S n false pl a w → wpAnyB P md ops (QN K0) S n (pl.length + f) listed a w
  | [], listed, a, w, inv, hB, hS, h => by
    rw [List.length_nil, Nat.zero_add]
    exact hfin listed a w inv hB hS h
  | (i, 0) :: r, listed, a, w, inv, hB, hS, h => by
    simp only [planC, Bool.and_eq_true, decide_eq_true_eq] at hB
    have e : ((i, 0) :: r).length + f = (r.length + f) + 1 := by simp only [List.length_cons]; omega
    rw [e]
    refine ⟨fun h0 => (by rw [h0] at hB; cases hB.1), fun j hj => ?_⟩
    have hji : j = i := by rw [hB.1] at hj; simpa using hj
    subst hji
    have hin : j < ops.size := let ⟨_, o, ho, _⟩ := mem_ready.1 hj; (Array.getElem?_eq_some_iff.1 ho).1
    have hjn : (j == n) = false := by simp; omega
    refine wpOp_QN (wpOp_mono (fun a' w' h' => ?_) h)
    obtain ⟨h1, h2⟩ := h'
    simp only [hjn, Bool.or_self] at h1 h2
    exact ⟨fun _ => h1 trivial, wpAnyB_planC hsel hn hfin r _ a' w' (inv.set hj) hB.2 (h1 trivial) h2⟩
  | (i, 1) :: r, listed, a, w, inv, hB, hS, h => by
    simp only [planC, Bool.and_eq_true, Bool.or_eq_true, decide_eq_true_eq] at hB
    obtain ⟨⟨⟨⟨hr, hf⟩, hne⟩, hT⟩, hB'⟩ := hB
    obtain ⟨o, v, hi, hy, h'⟩ := h
    have hr' : i ∈ Region.ready md ops listed := by simpa using hr
    have e : ((i, 1) :: r).length + f = (r.length + f) + 1 := by simp only [List.length_cons]; omega
    rw [e]
    exact wpAnyB_first (T := S) hi (Region.noSelect_spec hsel) (fun _ _ _ h => h.elim) hne (.inl ⟨rfl, .inr hn⟩) (r.length + f) listed a w inv (Region.free_spec hi hf) hr' hy (fun _ => hS) (wpAnyB_planC hsel hn hfin r _ _ w (inv.set hr') hB' hS h')
  | (i, m + 2) :: r, listed, a, w, inv, hB, hS, h => by
    simp only [planC, Bool.and_eq_true, Bool.or_eq_true, decide_eq_true_eq] at hB
    obtain ⟨⟨⟨⟨hr, hf⟩, hne⟩, hT⟩, hB'⟩ := hB
    obtain ⟨o, v, hi, hy, h'⟩ := h
    have hr' : i ∈ Region.ready md ops listed := by simpa using hr
    have e : ((i, m + 2) :: r).length + f = (r.length + f) + 1 := by simp only [List.length_cons]; omega
    rw [e]
    exact wpAnyB_first (T := fun _ => True) hi (Region.noSelect_spec hsel) (fun _ _ _ h => h.elim) hne (.inr rfl) (r.length + f) listed a w inv (Region.free_spec hi hf) hr' hy (fun _ => hS) (wpAnyB_planC hsel hn hfin r _ _ w (inv.set hr') hB' hS h')
theorem wpAnyB_planT {md : Region.Mode} {K : Act → World → Prop} {S : World → Prop} {n : Nat} (hsel : Region.noSelect ops = true) (hn : ops.size ≤ n) : ∀ (t : PT) (listed : Array Bool) (a : Act) (w : World), Inv md ops listed →
    planT md ops n t listed = true → S w → wpT P ops K S n t a w → wpAnyB P md ops (QN K) S n t.len listed a w
  | .leaf pl, listed, a, w, inv, hB, hS, h => by
    have hl : listed.getD n false = false := by
      have : ¬ n < listed.size := by rw [inv.size]; omega
      simp [this]
    exact wpAnyB_plan hsel pl listed a w false inv hB hl (fun _ => hS) h
  | .two pl i t1 j t2, listed, a, w, inv, hB, hS, h => by
    refine wpAnyB_planC (f := 1 + t1.len) hsel hn ?_ pl listed a w inv hB hS h
    intro listed a w inv hfin hS ⟨h1, h2⟩
    simp only [Bool.and_eq_true, decide_eq_true_eq] at hfin
    obtain ⟨⟨⟨hr, hlen⟩, hB1⟩, hB2⟩ := hfin
    rw [Nat.add_comm]
    refine ⟨fun h0 => (by rw [h0] at hr; cases hr), fun k hk => ?_⟩
    have hin : k < ops.size := let ⟨_, o, ho, _⟩ := mem_ready.1 hk; (Array.getElem?_eq_some_iff.1 ho).1
    have hkn : (k == n) = false := by simp; omega
    have hk2 := hk
    rw [hr] at hk2
    simp only [List.mem_cons, List.not_mem_nil, or_false] at hk2
    rcases hk2 with rfl | rfl
    · refine wpOp_QN (wpOp_mono (fun a' w' h' => ?_) h1)
      obtain ⟨g1, g2⟩ := h'
      simp only [hkn, Bool.or_self] at g1 g2
      exact ⟨fun _ => g1 trivial, wpAnyB_planT hsel hn t1 _ a' w' (inv.set hk) hB1 (g1 trivial) g2⟩
    · refine wpOp_QN (wpOp_mono (fun a' w' h' => ?_) h2)
      obtain ⟨g1, g2⟩ := h'
      simp only [hkn, Bool.or_self] at g1 g2
      rw [hlen]
      exact ⟨fun _ => g1 trivial, wpAnyB_planT hsel hn t2 _ a' w' (inv.set hk) hB2 (g1 trivial) g2⟩
/-- the walk of a plan with ways -/
structure DT (P : Program) (W0 : World) (S : List HP) (n : Nat) (l : List Oper) (Q : Exit → Act → World → Prop) (t : PT) (L : List HP) (a : Act) : Prop where
  run : ∀ w, St W0 w L → wpT P l.toArray (fun a w => Q .normal a w) (fun w => St W0 w S) n t a w
theorem C_drawT {id n : Nat} {l : List Oper} (S : List HP) (t : PT) (hm : P.follows .mixedOrders = true)
    (hB : (Region.noSelect l.toArray && decide (t.len = l.length) && decide (l.length ≤ n) && planT .any l.toArray n t (Array.replicate l.toArray.size false)) = true) (hS : Sub L S) (h : DT P W0 S n l Q t L a) : CL P W0 L (.region id l.toArray true) Q a := by
  refine ⟨fun w s => ?_⟩
  simp only [Bool.and_eq_true, decide_eq_true_eq] at hB
  obtain ⟨⟨⟨h1, h2⟩, hnl⟩, h3⟩ := hB
  refine Code.wp_mono (Q := QN fun a w => Q .normal a w) (fun e a w he => ?_) (wp_region_any hm ?_)
  · cases e <;> first | exact he | exact he.elim
  · have inv : Inv .any l.toArray (Array.replicate l.toArray.size false) := ⟨by simp, fun j oj _ hl => by
      exfalso
      by_cases hj : j < l.toArray.size
      · simp at hl; rename_i x; simp at hj; simp [hj] at hl
      · simp at hl; simp at hj; have : ¬ j < l.length := by omega
        simp [this] at hl⟩
    have s' : St W0 w.drew L := s.drew
    have := wpAnyB_planT (P := P) (K := fun a w => Q .normal a w) (S := fun w => St W0 w S) h1 (by simpa using hnl) t _ a w.drew inv h3 (hS.st s') (h.run _ s')
    rw [h2] at this
    exact wpAny_of_B _ _ _ _ (by simpa using this)
theorem DT_leaf {n : Nat} {l : List Oper} {pl : List (Nat × Nat)} (k : DL P W0 S n l Q false pl L a) : DT P W0 S n l Q (.leaf pl) L a := ⟨k.run⟩
/-- where two ways part -/
def QB (P : Program) (W0 : World) (S : List HP) (n : Nat) (l : List Oper) (Q : Exit → Act → World → Prop) (i : Nat) (t1 : PT) (j : Nat) (t2 : PT) : Exit → Act → World → Prop :=
  QN fun a w => wpPl P l.toArray (wpT P l.toArray (fun a w => Q .normal a w) (fun w => St W0 w S) n t1) (fun w => St W0 w S) n false [(i, 0)] a w ∧ wpPl P l.toArray (wpT P l.toArray (fun a w => Q .normal a w) (fun w => St W0 w S) n t2) (fun w => St W0 w S) n false [(j, 0)] a w
/-- where a way goes on -/
def QD (P : Program) (W0 : World) (S : List HP) (n : Nat) (l : List Oper) (Q : Exit → Act → World → Prop) (t : PT) : Exit → Act → World → Prop :=
  QN (wpT P l.toArray (fun a w => Q .normal a w) (fun w => St W0 w S) n t)
theorem DT_two {n : Nat} {l : List Oper} {pl : List (Nat × Nat)} {i j : Nat} {t1 t2 : PT} (k : DL P W0 S n l (QB P W0 S n l Q i t1 j t2) false pl L a) : DT P W0 S n l Q (.two pl i t1 j t2) L a := ⟨k.run⟩
theorem E_two {n : Nat} {l : List Oper} {i j : Nat} {t1 t2 : PT} (k1 : DL P W0 S n l (QD P W0 S n l Q t1) false [(i, 0)] L a) (k2 : DL P W0 S n l (QD P W0 S n l Q t2) false [(j, 0)] L a) : EL W0 L (QB P W0 S n l Q i t1 j t2) .normal a :=
  ⟨fun w s => ⟨k1.run w s, k2.run w s⟩⟩
theorem E_way {n : Nat} {l : List Oper} {t : PT} (k : DT P W0 S n l Q t L a) : EL W0 L (QD P W0 S n l Q t) .normal a := ⟨k.run⟩
end
end Go.Proofs.YtbjaecofccpahaaGreat
namespace Go.Proofs.YtbjaecofccpahaaGreat
open Go Go.RowKit
set_option linter.unusedVariables false
set_option linter.unusedSimpArgs false
set_option maxRecDepth 20000
set_option synthInstance.maxSize 100000
set_option synthInstance.maxHeartbeats 400000
/-- a slice of bytes and where it lies -/
structure RBy where
  A : Option Addr
  c : Nat
  b : List UInt8
def eRBy : Enc RBy := e1 (fun x => .slice x.A x.b.length x.c) fun _ => rfl
instance : Sz eRBy 1 := ⟨rfl⟩
instance : E1E eRBy (fun x => .slice x.A x.b.length x.c) := ⟨⟨_, rfl⟩⟩
section
variable {P : Program} {W0 w : World} {L : List HP}
def imR (Bs : List RBy) : HP := im ⟨fun m => ∀ x ∈ Bs, Sl m eB (.slice x.A x.b.length x.c) x.b, fun hm h x hx => (h x hx).mono hm⟩
theorem sub_imR {Bs : List RBy} {j : Nat} {x : RBy} (hm : imR Bs ∈ L) (hx : Bs[j]? = some x) : Sub L (rd eB (.slice x.A x.b.length x.c) x.b :: L) := fun m h s => by
  obtain ⟨y, hy, k⟩ := s.mem hm
  exact ⟨Hp.none, h, Hp.none_dj _, Hp.none_le _, Hp.le_refl _, k x (List.mem_of_getElem? hx), s⟩
theorem sub_imRset {Bs : List RBy} {j : Nat} {x : RBy} (hm : imR Bs ∈ L) (hx : rd eB (.slice x.A x.b.length x.c) x.b ∈ L) : Sub L (imR (Bs.set j x) :: L) := fun m h s => by
  obtain ⟨y, hy, k⟩ := s.mem hm
  have hr := rd_mem s hx
  refine ⟨Hp.none, h, Hp.none_dj _, Hp.none_le _, Hp.le_refl _, fun z hz => ?_, s⟩
  rcases mem_setC hz with rfl | hz
  · exact hr
  · exact k z (List.mem_of_mem_eraseIdx hz)
theorem sub_imR0 {n : Nat} : Sub L (imR (List.replicate n ⟨none, 0, []⟩) :: L) := fun m h s =>
  ⟨Hp.none, h, Hp.none_dj _, Hp.none_le _, Hp.le_refl _, fun z hz => by rw [(List.mem_replicate.1 hz).2]; exact Sl.nil _ _ _ _, s⟩
abbrev rdL (r : Nat) (ab af : Addr) (Bs : List RBy) (room : Int) (F : List Int) (off : Bool) (plan : Int) : List HP :=
  [cel r [.int .i64 room, .slice (some ab) 64 64, .slice (some af) 64 64, .bool off, .int .i64 plan] 50, own 39 eRBy (.slice (some ab) 64 64) Bs, own 3 eI (.slice (some af) 64 64) F, imR Bs]
def rdk (r : Nat) (K : RK) : HP := ex fun x : Addr × Addr × List RBy => sp (pur (x.2.2.map (fun y => y.b) = K.B ∧ x.2.2.length = 64 ∧ K.F.length = 64) :: rdL r x.1 x.2.1 x.2.2 K.room K.F K.off K.plan)
theorem sub_pur {φ : Prop} (h : φ) : Sub L (pur φ :: L) := fun m b k => ⟨Hp.none, b, Hp.none_dj _, Hp.none_le _, Hp.le_refl _, h, k⟩
theorem rdk_sub {r : Nat} {ab af : Addr} {Bs : List RBy} {K : RK} (h1 : Bs.map (fun y => y.b) = K.B) (h2 : Bs.length = 64) (h3 : K.F.length = 64) : Sub (rdL r ab af Bs K.room K.F K.off K.plan ++ L) (rdk r K :: L) :=
  (sub_pur ⟨h1, h2, h3⟩).trans ((sub_close (Ls := pur (Bs.map (fun y => y.b) = K.B ∧ Bs.length = 64 ∧ K.F.length = 64) :: rdL r ab af Bs K.room K.F K.off K.plan)).trans (sub_ex (F := fun x : Addr × Addr × List RBy => sp (pur (x.2.2.map (fun y => y.b) = K.B ∧ x.2.2.length = 64 ∧ K.F.length = 64) :: rdL r x.1 x.2.1 x.2.2 K.room K.F K.off K.plan)) (ab, af, Bs)))
theorem rdk_st {W0 w : World} {r : Nat} {K : RK} (st : St W0 w (rdk r K :: L)) : ∃ ab af Bs, Bs.map (fun y => y.b) = K.B ∧ Bs.length = 64 ∧ K.F.length = 64 ∧ St W0 w (rdL r ab af Bs K.room K.F K.off K.plan ++ L) := by
  obtain ⟨⟨ab, af, Bs⟩, h⟩ := st.ex_
  have h := h.open_
  have hp := St.pur_ h
  exact ⟨ab, af, Bs, hp.1, hp.2.1, hp.2.2, h.drop⟩
theorem rdk_ct {f : FuncId} {args : Array Value} {R' : Value → List HP → Prop} {r : Nat} {K : RK}
    (k : ∀ ab af Bs, Bs.map (fun y => y.b) = K.B → Bs.length = 64 → K.F.length = 64 → CT P f args W0 (rdL r ab af Bs K.room K.F K.off K.plan ++ L) R') : CT P f args W0 (rdk r K :: L) R' := by
  refine ⟨fun w st => ?_⟩
  obtain ⟨ab, af, Bs, h1, h2, h3, h⟩ := rdk_st st
  exact (k ab af Bs h1 h2 h3).run w h
theorem rdk_O {ops : Array Oper} {Q : Exit → Act → World → Prop} {rest : List Oper} {a : Act} {r : Nat} {K : RK} (i : Nat) (hi : L[i]? = some (rdk r K))
    (k : ∀ ab af Bs, Bs.map (fun y => y.b) = K.B → Bs.length = 64 → K.F.length = 64 → OL P W0 (rdL r ab af Bs K.room K.F K.off K.plan ++ L.eraseIdx i) ops Q rest a) : OL P W0 L ops Q rest a := by
  refine ⟨fun w st => ?_⟩
  obtain ⟨ab, af, Bs, h1, h2, h3, h⟩ := rdk_st (st.at_ hi)
  exact (k ab af Bs h1 h2 h3).run w h
theorem rdk_C {c : Code} {Q : Exit → Act → World → Prop} {a : Act} {r : Nat} {K : RK} (i : Nat) (hi : L[i]? = some (rdk r K))
    (k : ∀ ab af Bs, Bs.map (fun y => y.b) = K.B → Bs.length = 64 → K.F.length = 64 → CL P W0 (rdL r ab af Bs K.room K.F K.off K.plan ++ L.eraseIdx i) c Q a) : CL P W0 L c Q a := by
  refine ⟨fun w st => ?_⟩
  obtain ⟨ab, af, Bs, h1, h2, h3, h⟩ := rdk_st (st.at_ hi)
  exact (k ab af Bs h1 h2 h3).run w h
end
-- WALKS
theorem map_at {Bs : List RBy} {B : List (List UInt8)} (h : Bs.map (fun y => y.b) = B) {i : Nat} {x : RBy} (hx : Bs[i]? = some x) : B[i]? = some x.b := by rw [← h, List.getElem?_map, hx]; rfl
section
variable {W0 : World} {L : List HP}
set_option maxHeartbeats 1000000 in
theorem rNew_ct {room : Int} : CT Tryz.prog 6 #[.int .i64 room] W0 L fun r L' => ∃ p, r = .pointer (some ⟨p, 0, none⟩) ∧ L' = rdk p ⟨room, List.replicate 64 [], List.replicate 64 0, false, -1⟩ :: L := by
  refine CT_enter Tryz.func6 rfl ?_; (simp only [Tryz.ntmps6, List.size_toArray, List.length_cons, List.length_nil, Nat.reduceAdd, Nat.reduceSub, Array.replicate_succ, Array.replicate_zero, List.push_toArray, List.append_toArray, List.nil_append, List.cons_append])
  repeat' (first | refine go ?_ | intro _ | (apply cG; first | refine cT ?_ | refine cF ?_ | refine cS (fun _ => ?_) fun _ => ?_) | (apply gW; refine sW ?_) | (apply gI; refine sI ?_) | (apply gE; refine sE ?_) | (apply gP; refine sP ?_) | (apply gC; refine sC ?_) | (apply gD; refine sD ?_) | fail)
  refine C_drawT (n := 99) [] (.two [(0, 1)] 1 (.leaf [(2, 0), (3, 1), (4, 0), (5, 1)]) 2 (.leaf [(1, 0), (3, 1), (4, 0), (5, 1)])) (by kernel_rfl) (by kernel_rfl) Sb ?_
  refine DT_two ?_
  repeat' (first | refine go ?_ | intro _ | (apply cG; first | refine cT ?_ | refine cF ?_ | refine cS (fun _ => ?_) fun _ => ?_) | (apply gW; refine sW ?_) | (apply gI; refine sI ?_) | (apply gE; refine sE ?_) | (apply gP; refine sP ?_) | (apply gC; refine sC ?_) | (apply gD; refine sD ?_) | fail)
  refine E_two ?_ ?_
  · refine D_op rfl ?_; refine X_d (dy_make (n := 64) (f := fun x : RBy => .slice x.A x.b.length x.c) (hf := fun _ => rfl) ⟨none, 0, []⟩ rfl Ev.pf Ev.pf (by decide) (by decide)) ?_; rintro _ _ ⟨g1, rfl, rfl⟩; refine ⟨(by first | exact .inl rfl | exact .inr Sb), D_n ?_⟩
    repeat' (first | refine go ?_ | intro _ | (apply cG; first | refine cT ?_ | refine cF ?_ | refine cS (fun _ => ?_) fun _ => ?_) | (apply gW; refine sW ?_) | (apply gI; refine sI ?_) | (apply gE; refine sE ?_) | (apply gP; refine sP ?_) | (apply gC; refine sC ?_) | (apply gD; refine sD ?_) | fail)
    refine E_way (DT_leaf ?_)
    refine D_op rfl ?_; refine X_d (dy_make (n := 64) (f := iv) (hf := fun _ => rfl) (0 : Int) rfl Ev.pf Ev.pf (by decide) (by decide)) ?_; rintro _ _ ⟨g2, rfl, rfl⟩; refine ⟨(by first | exact .inl rfl | exact .inr Sb), D_n ?_⟩
    repeat' (first | refine go ?_ | intro _ | (apply cG; first | refine cT ?_ | refine cF ?_ | refine cS (fun _ => ?_) fun _ => ?_) | (apply gW; refine sW ?_) | (apply gI; refine sI ?_) | (apply gE; refine sE ?_) | (apply gP; refine sP ?_) | (apply gC; refine sC ?_) | (apply gD; refine sD ?_) | fail)
    repeat' (first | refine go ?_ | intro _ | (apply cG; first | refine cT ?_ | refine cF ?_ | refine cS (fun _ => ?_) fun _ => ?_) | (apply gW; refine sW ?_) | (apply gI; refine sI ?_) | (apply gE; refine sE ?_) | (apply gP; refine sP ?_) | (apply gC; refine sC ?_) | (apply gD; refine sD ?_) | fail)
    rename_i p
    refine E_sub (sub_imR0 (n := 64)) ?_
    refine E_sub (S := rdk p ⟨room, List.replicate 64 [], List.replicate 64 0, false, -1⟩ :: L) (Sub.trans (B := cel p [.int .i64 room, .slice (some ⟨g1, 0, none⟩) 64 64, .slice (some ⟨g2, 0, none⟩) 64 64, .bool false, .int .i64 (-1)] 50 :: own 39 eRBy (.slice (some ⟨g1, 0, none⟩) 64 64) (List.replicate 64 ⟨none, 0, []⟩) :: own 3 eI (.slice (some ⟨g2, 0, none⟩) 64 64) (List.replicate 64 0) :: imR (List.replicate 64 ⟨none, 0, []⟩) :: L) Sb (rdk_sub (K := ⟨room, List.replicate 64 [], List.replicate 64 0, false, -1⟩) (by rw [List.map_replicate]) List.length_replicate List.length_replicate)) ?_
    refine E_res1 (by rfl) (by rfl) ⟨p, rfl, rfl⟩ Sb
  · refine D_op rfl ?_; refine X_d (dy_make (n := 64) (f := iv) (hf := fun _ => rfl) (0 : Int) rfl Ev.pf Ev.pf (by decide) (by decide)) ?_; rintro _ _ ⟨g2, rfl, rfl⟩; refine ⟨(by first | exact .inl rfl | exact .inr Sb), D_n ?_⟩
    repeat' (first | refine go ?_ | intro _ | (apply cG; first | refine cT ?_ | refine cF ?_ | refine cS (fun _ => ?_) fun _ => ?_) | (apply gW; refine sW ?_) | (apply gI; refine sI ?_) | (apply gE; refine sE ?_) | (apply gP; refine sP ?_) | (apply gC; refine sC ?_) | (apply gD; refine sD ?_) | fail)
    refine E_way (DT_leaf ?_)
    refine D_op rfl ?_; refine X_d (dy_make (n := 64) (f := fun x : RBy => .slice x.A x.b.length x.c) (hf := fun _ => rfl) ⟨none, 0, []⟩ rfl Ev.pf Ev.pf (by decide) (by decide)) ?_; rintro _ _ ⟨g1, rfl, rfl⟩; refine ⟨(by first | exact .inl rfl | exact .inr Sb), D_n ?_⟩
    repeat' (first | refine go ?_ | intro _ | (apply cG; first | refine cT ?_ | refine cF ?_ | refine cS (fun _ => ?_) fun _ => ?_) | (apply gW; refine sW ?_) | (apply gI; refine sI ?_) | (apply gE; refine sE ?_) | (apply gP; refine sP ?_) | (apply gC; refine sC ?_) | (apply gD; refine sD ?_) | fail)
    repeat' (first | refine go ?_ | intro _ | (apply cG; first | refine cT ?_ | refine cF ?_ | refine cS (fun _ => ?_) fun _ => ?_) | (apply gW; refine sW ?_) | (apply gI; refine sI ?_) | (apply gE; refine sE ?_) | (apply gP; refine sP ?_) | (apply gC; refine sC ?_) | (apply gD; refine sD ?_) | fail)
    rename_i p
    refine E_sub (sub_imR0 (n := 64)) ?_
    refine E_sub (S := rdk p ⟨room, List.replicate 64 [], List.replicate 64 0, false, -1⟩ :: L) (Sub.trans (B := cel p [.int .i64 room, .slice (some ⟨g1, 0, none⟩) 64 64, .slice (some ⟨g2, 0, none⟩) 64 64, .bool false, .int .i64 (-1)] 50 :: own 39 eRBy (.slice (some ⟨g1, 0, none⟩) 64 64) (List.replicate 64 ⟨none, 0, []⟩) :: own 3 eI (.slice (some ⟨g2, 0, none⟩) 64 64) (List.replicate 64 0) :: imR (List.replicate 64 ⟨none, 0, []⟩) :: L) Sb (rdk_sub (K := ⟨room, List.replicate 64 [], List.replicate 64 0, false, -1⟩) (by rw [List.map_replicate]) List.length_replicate List.length_replicate)) ?_
    refine E_res1 (by rfl) (by rfl) ⟨p, rfl, rfl⟩ Sb
theorem rArm_ct {r : Nat} {K : RK} {n : Int} : CT Tryz.prog 10 #[.pointer (some ⟨r, 0, none⟩), .int .i64 n] W0 (rdk r K :: L) fun v L' => v = .tuple #[] ∧ L' = rdk r (if K.off then K else { K with plan := max n (-1) }) :: L := by
  refine rdk_ct fun ab af Bs h1 h2 h3 => ?_
  obtain ⟨room, B, F, off, plan⟩ := K
  dsimp only at h1 h3 ⊢
  cases off
  · refine CT_enter Tryz.func10 rfl ?_; (simp only [Tryz.ntmps10, List.size_toArray, List.length_cons, List.length_nil, Nat.reduceAdd, Nat.reduceSub, Array.replicate_succ, Array.replicate_zero, List.push_toArray, List.append_toArray, List.nil_append, List.cons_append])
    obtain ⟨z, hz⟩ : ∃ z, max n (-1) = z := ⟨_, rfl⟩
    have hmax : (if (-1 : Int) > n then -1 else n) = z := by split <;> omega
    repeat' (first | refine go ?_ | intro _ | (apply cG; first | refine cT ?_ | refine cF ?_ | refine cS (fun _ => ?_) fun _ => ?_) | (apply gI; refine sI ?_) | (apply gE; refine sE ?_) | (apply gP; refine sP ?_) | (apply gC; refine sC ?_) | (apply gD; refine sD ?_) | fail)
    apply gW; refine sW (r := z) ?_ hmax
    repeat' (first | refine go ?_ | intro _ | (apply cG; first | refine cT ?_ | refine cF ?_ | refine cS (fun _ => ?_) fun _ => ?_) | (apply gW; refine sW ?_) | (apply gI; refine sI ?_) | (apply gE; refine sE ?_) | (apply gP; refine sP ?_) | (apply gC; refine sC ?_) | (apply gD; refine sD ?_) | fail)
    rw [hz]
    refine E_sub (S := rdk r ⟨room, B, F, false, z⟩ :: L) (Sub.trans (B := cel r [.int .i64 room, .slice (some ab) 64 64, .slice (some af) 64 64, .bool false, .int .i64 z] 50 :: own 39 eRBy (.slice (some ab) 64 64) Bs :: own 3 eI (.slice (some af) 64 64) F :: imR Bs :: L) Sb (rdk_sub (K := ⟨room, B, F, false, z⟩) h1 h2 h3)) ?_
    refine E_end0 (by first | exact .inl rfl | exact .inr rfl) (by rfl) (by rfl) ⟨rfl, rfl⟩
  · refine CT_enter Tryz.func10 rfl ?_; (simp only [Tryz.ntmps10, List.size_toArray, List.length_cons, List.length_nil, Nat.reduceAdd, Nat.reduceSub, Array.replicate_succ, Array.replicate_zero, List.push_toArray, List.append_toArray, List.nil_append, List.cons_append])
    repeat' (first | refine go ?_ | intro _ | (apply cG; first | refine cT ?_ | refine cF ?_ | refine cS (fun _ => ?_) fun _ => ?_) | (apply gW; refine sW ?_) | (apply gI; refine sI ?_) | (apply gE; refine sE ?_) | (apply gP; refine sP ?_) | (apply gC; refine sC ?_) | (apply gD; refine sD ?_) | fail)
    refine E_sub (S := rdk r ⟨room, B, F, true, plan⟩ :: L) (Sub.trans (B := cel r [.int .i64 room, .slice (some ab) 64 64, .slice (some af) 64 64, .bool true, .int .i64 plan] 50 :: own 39 eRBy (.slice (some ab) 64 64) Bs :: own 3 eI (.slice (some af) 64 64) F :: imR Bs :: L) Sb (rdk_sub (K := ⟨room, B, F, true, plan⟩) h1 h2 h3)) ?_
    refine E_end0 (by first | exact .inl rfl | exact .inr rfl) (by rfl) (by rfl) ⟨rfl, rfl⟩
theorem rStep_ct {r : Nat} {K : RK} (hp1 : -1000000 ≤ K.plan) (hp2 : K.plan ≤ 9223372036854775807) : CT Tryz.prog 47 #[.pointer (some ⟨r, 0, none⟩)] W0 (rdk r K :: L) fun v L' => v = .bool (rstepF K.off K.plan).2.2 ∧ L' = rdk r { K with off := (rstepF K.off K.plan).1, plan := (rstepF K.off K.plan).2.1 } :: L := by
  have hfails : ∀ {L : List HP}, 0 ≤ K.plan → CT Tryz.prog 65 #[.pointer (some ⟨r, 0, none⟩)] W0 (rdk r K :: L) fun v L' => v = .bool (rstepF K.off K.plan).2.2 ∧ L' = rdk r { K with off := (rstepF K.off K.plan).1, plan := (rstepF K.off K.plan).2.1 } :: L := by
    intro L h0
    refine rdk_ct fun ab af Bs h1 h2 h3 => ?_
    obtain ⟨room, B, F, off, plan⟩ := K
    dsimp only at h1 h3 hp1 hp2 h0 ⊢
    obtain ⟨z, hz⟩ : ∃ z, max (plan - 1) (-2) = z := ⟨_, rfl⟩
    have hmax : (if (-2 : Int) > plan - 1 then -2 else plan - 1) = z := by split <;> omega
    unfold rstepF
    rw [if_neg (by omega), hz]
    by_cases hz1 : z = -1
    · rw [if_pos hz1]
      subst hz1
      refine CT_enter Tryz.func65 rfl ?_; (simp only [Tryz.ntmps65, List.size_toArray, List.length_cons, List.length_nil, Nat.reduceAdd, Nat.reduceSub, Array.replicate_succ, Array.replicate_zero, List.push_toArray, List.append_toArray, List.nil_append, List.cons_append])
      repeat' (first | refine go ?_ | intro _ | (apply cG; first | refine cT ?_ | refine cF ?_ | refine cS (fun _ => ?_) fun _ => ?_) | (apply gI; refine sI ?_) | (apply gE; refine sE ?_) | (apply gP; refine sP ?_) | (apply gC; refine sC ?_) | (apply gD; refine sD ?_) | fail)
      apply gW; refine sW (r := plan - 1) ?_ (wr_i64 (by omega) (by omega))
      repeat' (first | refine go ?_ | intro _ | (apply cG; first | refine cT ?_ | refine cF ?_ | refine cS (fun _ => ?_) fun _ => ?_) | (apply gI; refine sI ?_) | (apply gE; refine sE ?_) | (apply gP; refine sP ?_) | (apply gC; refine sC ?_) | (apply gD; refine sD ?_) | fail)
      apply gW; refine sW (r := -1) ?_ hmax
      repeat' (first | refine go ?_ | intro _ | (apply cG; first | refine cT ?_ | refine cF ?_ | refine cS (fun _ => ?_) fun _ => ?_) | (apply gW; refine sW ?_) | (apply gI; refine sI ?_) | (apply gE; refine sE ?_) | (apply gP; refine sP ?_) | (apply gC; refine sC ?_) | (apply gD; refine sD ?_) | fail)
      refine E_sub (S := rdk r ⟨room, B, F, true, -1⟩ :: L) (Sub.trans (B := cel r [.int .i64 room, .slice (some ab) 64 64, .slice (some af) 64 64, .bool true, .int .i64 (-1)] 50 :: own 39 eRBy (.slice (some ab) 64 64) Bs :: own 3 eI (.slice (some af) 64 64) F :: imR Bs :: L) Sb (rdk_sub (K := ⟨room, B, F, true, -1⟩) h1 h2 h3)) ?_
      refine E_res1 (by rfl) (by rfl) ⟨rfl, rfl⟩ Sb
    · rw [if_neg hz1]
      refine CT_enter Tryz.func65 rfl ?_; (simp only [Tryz.ntmps65, List.size_toArray, List.length_cons, List.length_nil, Nat.reduceAdd, Nat.reduceSub, Array.replicate_succ, Array.replicate_zero, List.push_toArray, List.append_toArray, List.nil_append, List.cons_append])
      repeat' (first | refine go ?_ | intro _ | (apply cG; first | refine cT ?_ | refine cF ?_ | refine cS (fun _ => ?_) fun _ => ?_) | (apply gI; refine sI ?_) | (apply gE; refine sE ?_) | (apply gP; refine sP ?_) | (apply gC; refine sC ?_) | (apply gD; refine sD ?_) | fail)
      apply gW; refine sW (r := plan - 1) ?_ (wr_i64 (by omega) (by omega))
      repeat' (first | refine go ?_ | intro _ | (apply cG; first | refine cT ?_ | refine cF ?_ | refine cS (fun _ => ?_) fun _ => ?_) | (apply gI; refine sI ?_) | (apply gE; refine sE ?_) | (apply gP; refine sP ?_) | (apply gC; refine sC ?_) | (apply gD; refine sD ?_) | fail)
      apply gW; refine sW (r := z) ?_ hmax
      repeat' (first | refine go ?_ | intro _ | (apply cG; first | refine cT ?_ | refine cF ?_ | refine cS (fun _ => ?_) fun _ => ?_) | (apply gW; refine sW ?_) | (apply gI; refine sI ?_) | (apply gE; refine sE ?_) | (apply gP; refine sP ?_) | (apply gC; refine sC ?_) | (apply gD; refine sD ?_) | fail)
      refine E_sub (S := rdk r ⟨room, B, F, off, z⟩ :: L) (Sub.trans (B := cel r [.int .i64 room, .slice (some ab) 64 64, .slice (some af) 64 64, .bool off, .int .i64 z] 50 :: own 39 eRBy (.slice (some ab) 64 64) Bs :: own 3 eI (.slice (some af) 64 64) F :: imR Bs :: L) Sb (rdk_sub (K := ⟨room, B, F, off, z⟩) h1 h2 h3)) ?_
      refine E_res1 (by rfl) (by rfl) ⟨rfl, rfl⟩ Sb
  by_cases h0 : K.plan < 0
  · refine rdk_ct fun ab af Bs h1 h2 h3 => ?_
    obtain ⟨room, B, F, off, plan⟩ := K
    dsimp only at h1 h3 hp1 hp2 h0 ⊢
    unfold rstepF
    rw [if_pos h0]
    refine CT_enter Tryz.func47 rfl ?_; (simp only [Tryz.ntmps47, List.size_toArray, List.length_cons, List.length_nil, Nat.reduceAdd, Nat.reduceSub, Array.replicate_succ, Array.replicate_zero, List.push_toArray, List.append_toArray, List.nil_append, List.cons_append])
    repeat' (first | refine go ?_ | intro _ | (apply cG; first | refine cT ?_ | refine cF ?_ | refine cS (fun _ => ?_) fun _ => ?_) | (apply gW; refine sW ?_) | (apply gI; refine sI ?_) | (apply gE; refine sE ?_) | (apply gP; refine sP ?_) | (apply gC; refine sC ?_) | (apply gD; refine sD ?_) | fail)
    refine E_sub (S := rdk r ⟨room, B, F, off, plan⟩ :: L) (Sub.trans (B := cel r [.int .i64 room, .slice (some ab) 64 64, .slice (some af) 64 64, .bool off, .int .i64 plan] 50 :: own 39 eRBy (.slice (some ab) 64 64) Bs :: own 3 eI (.slice (some af) 64 64) F :: imR Bs :: L) Sb (rdk_sub (K := ⟨room, B, F, off, plan⟩) h1 h2 h3)) ?_
    refine E_res1 (by rfl) (by rfl) ⟨rfl, rfl⟩ Sb
  · refine rdk_ct fun ab af Bs h1 h2 h3 => ?_
    refine CT_enter Tryz.func47 rfl ?_; (simp only [Tryz.ntmps47, List.size_toArray, List.length_cons, List.length_nil, Nat.reduceAdd, Nat.reduceSub, Array.replicate_succ, Array.replicate_zero, List.push_toArray, List.append_toArray, List.nil_append, List.cons_append])
    repeat' (first | refine go ?_ | intro _ | (apply cG; first | refine cT ?_ | refine cF ?_ | refine cS (fun _ => ?_) fun _ => ?_) | (apply gW; refine sW ?_) | (apply gI; refine sI ?_) | (apply gE; refine sE ?_) | (apply gP; refine sP ?_) | (apply gC; refine sC ?_) | (apply gD; refine sD ?_) | fail)
    refine O_sub (S := rdk r K :: L) (Sub.trans (B := cel r [.int .i64 K.room, .slice (some ab) 64 64, .slice (some af) 64 64, .bool K.off, .int .i64 K.plan] 50 :: own 39 eRBy (.slice (some ab) 64 64) Bs :: own 3 eI (.slice (some af) 64 64) K.F :: imR Bs :: L) Sb (rdk_sub (K := K) h1 h2 h3)) ?_
    refine O_d (dy_call ArgsI.pf (by first | exact rfl | trivial | (intro a b; rfl)) (CT.pull (i := 0) (by rfl) (hfails (by omega)))) ?_; rintro _ _ ⟨_, ⟨rfl, rfl⟩, rfl⟩; refine O_n ?_
    repeat' (first | refine go ?_ | intro _ | (apply cG; first | refine cT ?_ | refine cF ?_ | refine cS (fun _ => ?_) fun _ => ?_) | (apply gW; refine sW ?_) | (apply gI; refine sI ?_) | (apply gE; refine sE ?_) | (apply gP; refine sP ?_) | (apply gC; refine sC ?_) | (apply gD; refine sD ?_) | fail)
    refine E_res1 (by rfl) (by rfl) ⟨rfl, rfl⟩ Sb
theorem rUsed_o {r : Nat} {K : RK} {ab af : Addr} {Bs : List RBy} (h1 : Bs.map (fun y => y.b) = K.B) (h2 : Bs.length = 64) (hu : usedB K.B ≤ 1000000000) :
    CT Tryz.prog 52 #[.pointer (some ⟨r, 0, none⟩)] W0 (cel r [.int .i64 K.room, .slice (some ab) 64 64, .slice (some af) 64 64, .bool K.off, .int .i64 K.plan] 50 :: own 39 eRBy (.slice (some ab) 64 64) Bs :: own 3 eI (.slice (some af) 64 64) K.F :: imR Bs :: L) fun v L' => v = .int .i64 (usedB K.B : Int) ∧ L' = cel r [.int .i64 K.room, .slice (some ab) 64 64, .slice (some af) 64 64, .bool K.off, .int .i64 K.plan] 50 :: own 39 eRBy (.slice (some ab) 64 64) Bs :: own 3 eI (.slice (some af) 64 64) K.F :: imR Bs :: L := by
  have hBl : K.B.length = 64 := by rw [← h1, List.length_map]; exact h2
  refine CT_enter Tryz.func52 rfl ?_; (simp only [Tryz.ntmps52, List.size_toArray, List.length_cons, List.length_nil, Nat.reduceAdd, Nat.reduceSub, Array.replicate_succ, Array.replicate_zero, List.push_toArray, List.append_toArray, List.nil_append, List.cons_append])
  repeat' (first | refine go ?_ | intro _ | (apply cG; first | refine cT ?_ | refine cF ?_ | refine cS (fun _ => ?_) fun _ => ?_) | (apply gW; refine sW ?_) | (apply gI; refine sI ?_) | (apply gE; refine sE ?_) | (apply gP; refine sP ?_) | (apply gC; refine sC ?_) | (apply gD; refine sD ?_) | fail)
  refine C_loopS (κ := Nat) [false, false, false, true, true, true, true, true, true, true, true, true, true, true, true, true, true, true, true, false] (fun k => [(3, .int .i64 ((usedB (K.B.take k) : Nat) : Int)), (4, .int .i64 (k : Int))]) (fun k => []) (fun k => k ≤ 64) (fun k => 64 - k) 0 (Nat.zero_le _) ⟨rfl, rfl, trivial⟩ ?_
  rintro i u hi
  ((try dsimp only); refine C_n ?_; (try simp only [Nat.reduceAdd, Nat.zero_add]))
  have hle := usedB_le K.B i
  by_cases hlt : i < 64
  · obtain ⟨x, hx⟩ : ∃ x, Bs[i]? = some x := ⟨_, List.getElem?_eq_getElem (by omega)⟩
    have hax : At Bs i x := ⟨hx⟩
    have hb := map_at h1 hx
    have hbl := usedB_at hb
    have hle2 := usedB_le K.B (i + 1)
    have hsn : usedB (K.B.take (i + 1)) = usedB (K.B.take i) + x.b.length := by rw [List.take_add_one, hb]; exact usedB_snoc _ _
    repeat' (first | refine go ?_ | intro _ | (apply cG; first | refine cT ?_ | refine cF ?_ | refine cS (fun _ => ?_) fun _ => ?_) | (apply gW; refine sW ?_) | (apply gI; refine sI ?_) | (apply gE; refine sE ?_) | (apply gP; refine sP ?_) | (apply gC; refine sC ?_) | (apply gD; refine sD ?_) | fail)
    exact E_round (i + 1) hlt (by show 64 - (i + 1) < 64 - i; omega) ⟨by rw [hsn]; rfl, rfl, trivial⟩ Sb
  · obtain rfl : i = 64 := by omega
    rw [← hBl, List.take_length]
    repeat' (first | refine go ?_ | intro _ | (apply cG; first | refine cT ?_ | refine cF ?_ | refine cS (fun _ => ?_) fun _ => ?_) | (apply gW; refine sW ?_) | (apply gI; refine sI ?_) | (apply gE; refine sE ?_) | (apply gP; refine sP ?_) | (apply gC; refine sC ?_) | (apply gD; refine sD ?_) | fail)
    refine E_res1 (by rfl) (by rfl) ⟨rfl, rfl⟩ Sb
theorem rFiles_o {r : Nat} {K : RK} {ab af : Addr} {Bs : List RBy} (h1 : Bs.map (fun y => y.b) = K.B) (h2 : Bs.length = 64) :
    CT Tryz.prog 33 #[.pointer (some ⟨r, 0, none⟩)] W0 (cel r [.int .i64 K.room, .slice (some ab) 64 64, .slice (some af) 64 64, .bool K.off, .int .i64 K.plan] 50 :: own 39 eRBy (.slice (some ab) 64 64) Bs :: own 3 eI (.slice (some af) 64 64) K.F :: imR Bs :: L) fun v L' => ∃ A c, v = .slice A (filesB K.B 64).length c ∧ L' = own 3 eI (.slice A (filesB K.B 64).length c) (filesB K.B 64) :: cel r [.int .i64 K.room, .slice (some ab) 64 64, .slice (some af) 64 64, .bool K.off, .int .i64 K.plan] 50 :: own 39 eRBy (.slice (some ab) 64 64) Bs :: own 3 eI (.slice (some af) 64 64) K.F :: imR Bs :: L := by
  have hBl : K.B.length = 64 := by rw [← h1, List.length_map]; exact h2
  refine CT_enter Tryz.func33 rfl ?_; (simp only [Tryz.ntmps33, List.size_toArray, List.length_cons, List.length_nil, Nat.reduceAdd, Nat.reduceSub, Array.replicate_succ, Array.replicate_zero, List.push_toArray, List.append_toArray, List.nil_append, List.cons_append])
  repeat' (first | refine go ?_ | intro _ | (apply cG; first | refine cT ?_ | refine cF ?_ | refine cS (fun _ => ?_) fun _ => ?_) | (apply gW; refine sW ?_) | (apply gI; refine sI ?_) | (apply gE; refine sE ?_) | (apply gP; refine sP ?_) | (apply gC; refine sC ?_) | (apply gD; refine sD ?_) | fail)
  refine C_ownnil 3 eI ?_
  refine C_loopS (κ := Nat × Option Addr × Nat) [false, false, false, true, true, true, true, true, true, true, true, true, true, true, true, true, true, true, true, true, true, true, false] (fun k => [(3, .slice k.2.1 (filesB K.B k.1).length k.2.2), (4, .int .i64 (k.1 : Int))]) (fun k => [(0, own 3 eI (.slice k.2.1 (filesB K.B k.1).length k.2.2) (filesB K.B k.1))]) (fun k => k.1 ≤ 64) (fun k => 64 - k.1) (0, none, 0) (Nat.zero_le _) ⟨rfl, rfl, trivial⟩ ?_
  rintro ⟨i, A, c⟩ u hi
  dsimp only at hi
  dsimp only
  ((try dsimp only); refine C_n ?_; (try simp only [Nat.reduceAdd, Nat.zero_add]))
  have hfl := filesB_len K.B i
  have hfs := filesB_succ K.B i
  by_cases hlt : i < 64
  · obtain ⟨x, hx⟩ : ∃ x, Bs[i]? = some x := ⟨_, List.getElem?_eq_getElem (by omega)⟩
    have hax : At Bs i x := ⟨hx⟩
    have hb := map_at h1 hx
    have hgd : K.B.getD i [] = x.b := by rw [List.getD_eq_getElem?_getD, hb]; rfl
    rw [hgd] at hfs
    obtain ⟨fl, hfle⟩ : ∃ fl, filesB K.B i = fl := ⟨_, rfl⟩
    rw [hfle] at hfs hfl
    rw [hfle]
    by_cases h0 : 0 < x.b.length
    · rw [if_pos h0] at hfs
      have hfs2 := congrArg List.length hfs
      rw [List.length_append] at hfs2
      repeat' (first | refine go ?_ | intro _ | (apply cG; first | refine cT ?_ | refine cF ?_ | refine cS (fun _ => ?_) fun _ => ?_) | (apply gW; refine sW ?_) | (apply gI; refine sI ?_) | (apply gE; refine sE ?_) | (apply gP; refine sP ?_) | (apply gC; refine sC ?_) | (apply gD; refine sD ?_) | fail)
      refine O_d (dy_lit1 (R := eI) (i : Int) (hcs := by rfl) (hel := fun _ _ _ => by rfl)) ?_; rintro _ _ ⟨_, rfl, rfl⟩; refine O_n ?_
      refine O_d (dy_append (l := fl) (l2 := [(i : Int)]) (N := fl.length + 1) (hN := rfl)) ?_; rintro _ _ ⟨A7, c7, rfl, rfl⟩; refine O_n ?_
      repeat' (first | refine go ?_ | intro _ | (apply cG; first | refine cT ?_ | refine cF ?_ | refine cS (fun _ => ?_) fun _ => ?_) | (apply gW; refine sW ?_) | (apply gI; refine sI ?_) | (apply gE; refine sE ?_) | (apply gP; refine sP ?_) | (apply gC; refine sC ?_) | (apply gD; refine sD ?_) | fail)
      exact E_round (i + 1, A7, c7) hlt (by show 64 - (i + 1) < 64 - i; omega) ⟨by dsimp only; rw [hfs2]; rfl, rfl, trivial⟩ (by dsimp only; rw [hfs2, hfs]; exact Sb)
    · rw [if_neg h0] at hfs
      have h00 : x.b.length = 0 := by omega
      repeat' (first | refine go ?_ | intro _ | (apply cG; first | refine cT ?_ | refine cF ?_ | refine cS (fun _ => ?_) fun _ => ?_) | (apply gW; refine sW ?_) | (apply gI; refine sI ?_) | (apply gE; refine sE ?_) | (apply gP; refine sP ?_) | (apply gC; refine sC ?_) | (apply gD; refine sD ?_) | fail)
      exact E_round (i + 1, A, c) hlt (by show 64 - (i + 1) < 64 - i; omega) ⟨by dsimp only; rw [hfs]; rfl, rfl, trivial⟩ (by dsimp only; rw [hfs]; exact Sb)
  · obtain rfl : i = 64 := by omega
    repeat' (first | refine go ?_ | intro _ | (apply cG; first | refine cT ?_ | refine cF ?_ | refine cS (fun _ => ?_) fun _ => ?_) | (apply gW; refine sW ?_) | (apply gI; refine sI ?_) | (apply gE; refine sE ?_) | (apply gP; refine sP ?_) | (apply gC; refine sC ?_) | (apply gD; refine sD ?_) | fail)
    refine E_res1 (by rfl) (by rfl) ⟨A, c, rfl, rfl⟩ Sb
end
end Go.Proofs.YtbjaecofccpahaaGreat
