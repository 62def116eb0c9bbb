/-
  My own engine: drawn regions where two acting operations are ready at once: every way is walked. No program.
-/
import Derived.Test.YtlmabajgnjiigaaMJ
namespace Go.Proofs.Ytlmabajgnjiigaa
open Go Go.RowKit
set_option linter.unusedVariables false
set_option linter.unusedSimpArgs false
section
variable {P : Program} {W0 w : World} {L L' S : List HP} {ops : Array Oper} {o : Oper} {a a' : Act} {Q : Exit → Act → World → Prop}
theorem Oper.wp_convN {K K' : Act → World → Prop} {Q Q' : Exit → Act → World → Prop} (hK : ∀ a w, K a w → K' a w) (hQ : ∀ e a w, e ≠ .normal → Q e a w → Q' e a w) (h : o.wp P a w K Q) : o.wp P a w K' Q' := by
  unfold Oper.wp at *
  generalize (execOp a.eval o).run P w = r at *
  cases r with
  | ok n w' =>
    cases n <;> simp only [Oper.upon] at h ⊢
    case value v => exact hK _ _ h
    case skip => exact hK _ _ h
    case defer d => exact hK _ _ h
    case enter f args =>
      exact Calls.mono h fun e w'' he => by
        cases e with
        | returned v => exact hK _ _ he
        | panicked c => exact hQ _ _ _ (by simp) he
        | outgrown => exact let ⟨a, w, hq⟩ := he; ⟨a, w, hQ _ _ _ (by simp) hq⟩
    case row r args => exact Rows.mono h fun v w'' he => hK _ _ he
  | halt x w' => cases x <;> simp only [Oper.upon] at h ⊢; exact hQ _ _ _ (by simp) h
theorem QN_off {K : Act → World → Prop} {e : Exit} (he : e ≠ .normal) {a : Act} {w : World} : ¬ QN K e a w := by
  cases e <;> first | exact absurd rfl he | exact fun h => h
theorem wpOp_QN {K K1 K2 : Act → World → Prop} {i : Nat} (h : wpOp P ops (QN K1) i K a w) : wpOp P ops (QN K2) i K a w := by
  unfold wpOp at *
  split
  · simpa [*] using h
  · rename_i o ho
    simp only [ho] at h
    split
    · rename_i hw
      simp only [hw, if_true] at h
      rcases h with h | ⟨_, a1, w1, hq⟩
      · exact .inl (Oper.wp_convN (fun _ _ h => h) (fun e a w he hq => absurd hq (QN_off he)) h)
      · exact absurd hq (QN_off (by simp))
    · rename_i hw
      simp only [hw] at h
      exact h
/-- a plan with ways -/
inductive PT where
  | leaf (pl : List (Nat × Nat)) : PT
  | two (pl : List (Nat × Nat)) (i : Nat) (t1 : PT) (j : Nat) (t2 : PT) : PT
def PT.len : PT → Nat
  | .leaf pl => pl.length
  | .two pl _ t1 _ _ => pl.length + (1 + t1.len)
def planC (md : Region.Mode) (ops : Array Oper) (n : Nat) (fin : Array Bool → Bool) : List (Nat × Nat) → Array Bool → Bool
  | [], listed => fin listed
  | (i, 0) :: r, listed => decide (Region.ready md ops listed = [i]) && planC md ops n fin r (listed.setIfInBounds i true)
  | (i, m + 1) :: r, listed => (Region.ready md ops listed).contains i && Region.free md ops listed i && decide (i ≠ n) && (decide (0 < m) || waitsT md ops ops.size n i || decide (ops.size ≤ n)) && planC md ops n fin r (listed.setIfInBounds i true)
def planT (md : Region.Mode) (ops : Array Oper) (n : Nat) : PT → Array Bool → Bool
  | .leaf pl, listed => planB md ops n pl listed
  | .two pl i t1 j t2, listed => planC md ops n (fun l => decide (Region.ready md ops l = [i, j]) && decide (t1.len = t2.len) && planT md ops n t1 (l.setIfInBounds i true) && planT md ops n t2 (l.setIfInBounds j true)) pl listed
def wpT (P : Program) (ops : Array Oper) (K : Act → World → Prop) (S : World → Prop) (n : Nat) : PT → Act → World → Prop
  | .leaf pl, a, w => wpPl P ops K S n false pl a w
  | .two pl i t1 j t2, a, w => wpPl P ops (fun a w => wpPl P ops (wpT P ops K S n t1) S n false [(i, 0)] a w ∧ wpPl P ops (wpT P ops K S n t2) S n false [(j, 0)] a w) S n false pl a w
theorem wpAnyB_planC {md : Region.Mode} {K K0 : Act → World → Prop} {S : World → Prop} {n f : Nat} {fin : Array Bool → Bool} (hsel : Region.noSelect ops = true) (hn : ops.size ≤ n)
    (hfin : ∀ listed a w, Inv md ops listed → fin listed = true → S w → K a w → wpAnyB P md ops (QN K0) S n f listed a w) : ∀ (pl : List (Nat × Nat)) (listed : Array Bool) (a : Act) (w : World), Inv md ops listed →
    planC md ops n fin pl listed = true → S w → wpPl P ops K S n false pl a w → wpAnyB P md ops (QN K0) S n (pl.length + f) listed a w
  | [], listed, a, w, inv, hB, hS, h => by
    rw [List.length_nil, Nat.zero_add]
    exact hfin listed a w inv hB hS h
  | (i, 0) :: r, listed, a, w, inv, hB, hS, h => by
    simp only [planC, Bool.and_eq_true, decide_eq_true_eq] at hB
    have e : ((i, 0) :: r).length + f = (r.length + f) + 1 := by simp only [List.length_cons]; omega
    rw [e]
    refine ⟨fun h0 => (by rw [h0] at hB; cases hB.1), fun j hj => ?_⟩
    have hji : j = i := by rw [hB.1] at hj; simpa using hj
    subst hji
    have hin : j < ops.size := let ⟨_, o, ho, _⟩ := mem_ready.1 hj; (Array.getElem?_eq_some_iff.1 ho).1
    have hjn : (j == n) = false := by simp; omega
    refine wpOp_QN (wpOp_mono (fun a' w' h' => ?_) h)
    obtain ⟨h1, h2⟩ := h'
    simp only [hjn, Bool.or_self] at h1 h2
    exact ⟨fun _ => h1 trivial, wpAnyB_planC hsel hn hfin r _ a' w' (inv.set hj) hB.2 (h1 trivial) h2⟩
  | (i, 1) :: r, listed, a, w, inv, hB, hS, h => by
    simp only [planC, Bool.and_eq_true, Bool.or_eq_true, decide_eq_true_eq] at hB
    obtain ⟨⟨⟨⟨hr, hf⟩, hne⟩, hT⟩, hB'⟩ := hB
    obtain ⟨o, v, hi, hy, h'⟩ := h
    have hr' : i ∈ Region.ready md ops listed := by simpa using hr
    have e : ((i, 1) :: r).length + f = (r.length + f) + 1 := by simp only [List.length_cons]; omega
    rw [e]
    exact wpAnyB_first (T := S) hi (Region.noSelect_spec hsel) (fun _ _ _ h => h.elim) hne (.inl ⟨rfl, .inr hn⟩) (r.length + f) listed a w inv (Region.free_spec hi hf) hr' hy (fun _ => hS) (wpAnyB_planC hsel hn hfin r _ _ w (inv.set hr') hB' hS h')
  | (i, m + 2) :: r, listed, a, w, inv, hB, hS, h => by
    simp only [planC, Bool.and_eq_true, Bool.or_eq_true, decide_eq_true_eq] at hB
    obtain ⟨⟨⟨⟨hr, hf⟩, hne⟩, hT⟩, hB'⟩ := hB
    obtain ⟨o, v, hi, hy, h'⟩ := h
    have hr' : i ∈ Region.ready md ops listed := by simpa using hr
    have e : ((i, m + 2) :: r).length + f = (r.length + f) + 1 := by simp only [List.length_cons]; omega
    rw [e]
    exact wpAnyB_first (T := fun _ => True) hi (Region.noSelect_spec hsel) (fun _ _ _ h => h.elim) hne (.inr rfl) (r.length + f) listed a w inv (Region.free_spec hi hf) hr' hy (fun _ => hS) (wpAnyB_planC hsel hn hfin r _ _ w (inv.set hr') hB' hS h')
theorem wpAnyB_planT {md : Region.Mode} {K : Act → World → Prop} {S : World → Prop} {n : Nat} (hsel : Region.noSelect ops = true) (hn : ops.size ≤ n) : ∀ (t : PT) (listed : Array Bool) (a : Act) (w : World), Inv md ops listed →
    planT md ops n t listed = true → S w → wpT P ops K S n t a w → wpAnyB P md ops (QN K) S n t.len listed a w
  | .leaf pl, listed, a, w, inv, hB, hS, h => by
    have hl : listed.getD n false = false := by
      have : ¬ n < listed.size := by rw [inv.size]; omega
      simp [this]
    exact wpAnyB_plan hsel pl listed a w false inv hB hl (fun _ => hS) h
  | .two pl i t1 j t2, listed, a, w, inv, hB, hS, h => by
    refine wpAnyB_planC (f := 1 + t1.len) hsel hn ?_ pl listed a w inv hB hS h
    intro listed a w inv hfin hS ⟨h1, h2⟩
    simp only [Bool.and_eq_true, decide_eq_true_eq] at hfin
    obtain ⟨⟨⟨hr, hlen⟩, hB1⟩, hB2⟩ := hfin
    rw [Nat.add_comm]
    refine ⟨fun h0 => (by rw [h0] at hr; cases hr), fun k hk => ?_⟩
    have hin : k < ops.size := let ⟨_, o, ho, _⟩ := mem_ready.1 hk; (Array.getElem?_eq_some_iff.1 ho).1
    have hkn : (k == n) = false := by simp; omega
    have hk2 := hk
    rw [hr] at hk2
    simp only [List.mem_cons, List.not_mem_nil, or_false] at hk2
    rcases hk2 with rfl | rfl
    · refine wpOp_QN (wpOp_mono (fun a' w' h' => ?_) h1)
      obtain ⟨g1, g2⟩ := h'
      simp only [hkn, Bool.or_self] at g1 g2
      exact ⟨fun _ => g1 trivial, wpAnyB_planT hsel hn t1 _ a' w' (inv.set hk) hB1 (g1 trivial) g2⟩
    · refine wpOp_QN (wpOp_mono (fun a' w' h' => ?_) h2)
      obtain ⟨g1, g2⟩ := h'
      simp only [hkn, Bool.or_self] at g1 g2
      rw [hlen]
      exact ⟨fun _ => g1 trivial, wpAnyB_planT hsel hn t2 _ a' w' (inv.set hk) hB2 (g1 trivial) g2⟩
/-- the walk of a plan with ways -/
structure DT (P : Program) (W0 : World) (S : List HP) (n : Nat) (l : List Oper) (Q : Exit → Act → World → Prop) (t : PT) (L : List HP) (a : Act) : Prop where
  run : ∀ w, St W0 w L → wpT P l.toArray (fun a w => Q .normal a w) (fun w => St W0 w S) n t a w
theorem C_drawT {id n : Nat} {l : List Oper} (S : List HP) (t : PT) (hm : P.follows .mixedOrders = true)
    (hB : (Region.noSelect l.toArray && decide (t.len = l.length) && decide (l.length ≤ n) && planT .any l.toArray n t (Array.replicate l.toArray.size false)) = true) (hS : Sub L S) (h : DT P W0 S n l Q t L a) : CL P W0 L (.region id l.toArray true) Q a := by
  refine ⟨fun w s => ?_⟩
  simp only [Bool.and_eq_true, decide_eq_true_eq] at hB
  obtain ⟨⟨⟨h1, h2⟩, hnl⟩, h3⟩ := hB
  refine Code.wp_mono (Q := QN fun a w => Q .normal a w) (fun e a w he => ?_) (wp_region_any hm ?_)
  · cases e <;> first | exact he | exact he.elim
  · have inv : Inv .any l.toArray (Array.replicate l.toArray.size false) := ⟨by simp, fun j oj _ hl => by
      exfalso
      by_cases hj : j < l.toArray.size
      · simp at hl; rename_i x; simp at hj; simp [hj] at hl
      · simp at hl; simp at hj; have : ¬ j < l.length := by omega
        simp [this] at hl⟩
    have s' : St W0 w.drew L := s.drew
    have := wpAnyB_planT (P := P) (K := fun a w => Q .normal a w) (S := fun w => St W0 w S) h1 (by simpa using hnl) t _ a w.drew inv h3 (hS.st s') (h.run _ s')
    rw [h2] at this
    exact wpAny_of_B _ _ _ _ (by simpa using this)
theorem DT_leaf {n : Nat} {l : List Oper} {pl : List (Nat × Nat)} (k : DL P W0 S n l Q false pl L a) : DT P W0 S n l Q (.leaf pl) L a := ⟨k.run⟩
/-- where two ways part -/
def QB (P : Program) (W0 : World) (S : List HP) (n : Nat) (l : List Oper) (Q : Exit → Act → World → Prop) (i : Nat) (t1 : PT) (j : Nat) (t2 : PT) : Exit → Act → World → Prop :=
  QN fun a w => wpPl P l.toArray (wpT P l.toArray (fun a w => Q .normal a w) (fun w => St W0 w S) n t1) (fun w => St W0 w S) n false [(i, 0)] a w ∧ wpPl P l.toArray (wpT P l.toArray (fun a w => Q .normal a w) (fun w => St W0 w S) n t2) (fun w => St W0 w S) n false [(j, 0)] a w
/-- where a way goes on -/
def QD (P : Program) (W0 : World) (S : List HP) (n : Nat) (l : List Oper) (Q : Exit → Act → World → Prop) (t : PT) : Exit → Act → World → Prop :=
  QN (wpT P l.toArray (fun a w => Q .normal a w) (fun w => St W0 w S) n t)
theorem DT_two {n : Nat} {l : List Oper} {pl : List (Nat × Nat)} {i j : Nat} {t1 t2 : PT} (k : DL P W0 S n l (QB P W0 S n l Q i t1 j t2) false pl L a) : DT P W0 S n l Q (.two pl i t1 j t2) L a := ⟨k.run⟩
theorem E_two {n : Nat} {l : List Oper} {i j : Nat} {t1 t2 : PT} (k1 : DL P W0 S n l (QD P W0 S n l Q t1) false [(i, 0)] L a) (k2 : DL P W0 S n l (QD P W0 S n l Q t2) false [(j, 0)] L a) : EL W0 L (QB P W0 S n l Q i t1 j t2) .normal a :=
  ⟨fun w s => ⟨k1.run w s, k2.run w s⟩⟩
theorem E_way {n : Nat} {l : List Oper} {t : PT} (k : DT P W0 S n l Q t L a) : EL W0 L (QD P W0 S n l Q t) .normal a := ⟨k.run⟩
end
end Go.Proofs.Ytlmabajgnjiigaa
namespace Go.Proofs.Ytlmabajgnjiigaa
open Go Go.RowKit
set_option linter.unusedVariables false
set_option linter.unusedSimpArgs false
section
variable {P : Program} {W0 w : World} {L L' S : List HP} {ops : Array Oper} {o : Oper} {a a' : Act} {Q : Exit → Act → World → Prop}
def planC2 (md : Region.Mode) (ops : Array Oper) (n : Nat) (fin : Array Bool → Bool) : List (Nat × Nat) → Array Bool → Bool
  | [], listed => fin listed
  | (i, 0) :: r, listed => decide (Region.ready md ops listed = [i]) && decide (i ≠ n) && planC2 md ops n fin r (listed.setIfInBounds i true)
  | (i, m + 1) :: r, listed => (Region.ready md ops listed).contains i && Region.free md ops listed i && decide (i ≠ n) && (decide (0 < m) || waitsT md ops ops.size n i || decide (ops.size ≤ n)) && planC2 md ops n fin r (listed.setIfInBounds i true)
def planT2 (md : Region.Mode) (ops : Array Oper) (n : Nat) : PT → Array Bool → Bool
  | .leaf pl, listed => planB md ops n pl listed
  | .two pl i t1 j t2, listed => planC2 md ops n (fun l => decide (Region.ready md ops l = [i, j]) && decide (t1.len = t2.len) && decide (i ≠ n) && decide (j ≠ n) && planT2 md ops n t1 (l.setIfInBounds i true) && planT2 md ops n t2 (l.setIfInBounds j true)) pl listed
theorem wpAnyB_planC2 {md : Region.Mode} {K K0 : Act → World → Prop} {S : World → Prop} {n f : Nat} {fin : Array Bool → Bool} (hsel : Region.noSelect ops = true)
    (hfin : ∀ listed a w, Inv md ops listed → listed.getD n false = false → fin listed = true → S w → K a w → wpAnyB P md ops (QN K0) S n f listed a w) : ∀ (pl : List (Nat × Nat)) (listed : Array Bool) (a : Act) (w : World), Inv md ops listed → listed.getD n false = false →
    planC2 md ops n fin pl listed = true → S w → wpPl P ops K S n false pl a w → wpAnyB P md ops (QN K0) S n (pl.length + f) listed a w
  | [], listed, a, w, inv, hl, hB, hS, h => by
    rw [List.length_nil, Nat.zero_add]
    exact hfin listed a w inv hl hB hS h
  | (i, 0) :: r, listed, a, w, inv, hl, hB, hS, h => by
    simp only [planC2, Bool.and_eq_true, decide_eq_true_eq] at hB
    have e : ((i, 0) :: r).length + f = (r.length + f) + 1 := by simp only [List.length_cons]; omega
    rw [e]
    refine ⟨fun h0 => (by rw [h0] at hB; cases hB.1.1), fun j hj => ?_⟩
    have hji : j = i := by rw [hB.1.1] at hj; simpa using hj
    subst hji
    have hjne : j ≠ n := hB.1.2
    have hjn : (j == n) = false := by simp [hjne]
    refine wpOp_QN (wpOp_mono (fun a' w' h' => ?_) h)
    obtain ⟨h1, h2⟩ := h'
    simp only [hjn, Bool.or_self] at h1 h2
    exact ⟨fun _ => h1 trivial, wpAnyB_planC2 hsel hfin r _ a' w' (inv.set hj) (by rw [getD_set_ne false hjne]; exact hl) hB.2 (h1 trivial) h2⟩
  | (i, 1) :: r, listed, a, w, inv, hl, hB, hS, h => by
    simp only [planC2, Bool.and_eq_true, Bool.or_eq_true, decide_eq_true_eq] at hB
    obtain ⟨⟨⟨⟨hr, hf⟩, hne⟩, hT⟩, hB'⟩ := hB
    obtain ⟨o, v, hi, hy, h'⟩ := h
    have hr' : i ∈ Region.ready md ops listed := by simpa using hr
    have e : ((i, 1) :: r).length + f = (r.length + f) + 1 := by simp only [List.length_cons]; omega
    rw [e]
    exact wpAnyB_first (T := S) hi (Region.noSelect_spec hsel) (fun _ _ _ h => h.elim) hne (.inl ⟨rfl, hT.elim (fun h => h.elim (fun h0 => absurd h0 (Nat.lt_irrefl _)) fun h1 => .inl ⟨_, h1⟩) .inr⟩) (r.length + f) listed a w inv (Region.free_spec hi hf) hr' hy (fun _ => hS) (wpAnyB_planC2 hsel hfin r _ _ w (inv.set hr') (by rw [getD_set_ne false hne]; exact hl) hB' hS h')
  | (i, m + 2) :: r, listed, a, w, inv, hl, hB, hS, h => by
    simp only [planC2, Bool.and_eq_true, Bool.or_eq_true, decide_eq_true_eq] at hB
    obtain ⟨⟨⟨⟨hr, hf⟩, hne⟩, hT⟩, hB'⟩ := hB
    obtain ⟨o, v, hi, hy, h'⟩ := h
    have hr' : i ∈ Region.ready md ops listed := by simpa using hr
    have e : ((i, m + 2) :: r).length + f = (r.length + f) + 1 := by simp only [List.length_cons]; omega
    rw [e]
    exact wpAnyB_first (T := fun _ => True) hi (Region.noSelect_spec hsel) (fun _ _ _ h => h.elim) hne (.inr rfl) (r.length + f) listed a w inv (Region.free_spec hi hf) hr' hy (fun _ => hS) (wpAnyB_planC2 hsel hfin r _ _ w (inv.set hr') (by rw [getD_set_ne false hne]; exact hl) hB' hS h')
theorem wpAnyB_planT2 {md : Region.Mode} {K : Act → World → Prop} {S : World → Prop} {n : Nat} (hsel : Region.noSelect ops = true) : ∀ (t : PT) (listed : Array Bool) (a : Act) (w : World), Inv md ops listed → listed.getD n false = false →
    planT2 md ops n t listed = true → S w → wpT P ops K S n t a w → wpAnyB P md ops (QN K) S n t.len listed a w
  | .leaf pl, listed, a, w, inv, hl, hB, hS, h => by
    exact wpAnyB_plan hsel pl listed a w false inv hB hl (fun _ => hS) h
  | .two pl i t1 j t2, listed, a, w, inv, hl, hB, hS, h => by
    refine wpAnyB_planC2 (f := 1 + t1.len) hsel ?_ pl listed a w inv hl hB hS h
    intro listed a w inv hl hfin hS ⟨h1, h2⟩
    simp only [Bool.and_eq_true, decide_eq_true_eq] at hfin
    obtain ⟨⟨⟨⟨⟨hr, hlen⟩, hin⟩, hjn0⟩, hB1⟩, hB2⟩ := hfin
    rw [Nat.add_comm]
    refine ⟨fun h0 => (by rw [h0] at hr; cases hr), fun k hk => ?_⟩
    have hk2 := hk
    rw [hr] at hk2
    simp only [List.mem_cons, List.not_mem_nil, or_false] at hk2
    rcases hk2 with rfl | rfl
    · refine wpOp_QN (wpOp_mono (fun a' w' h' => ?_) h1)
      obtain ⟨g1, g2⟩ := h'
      have hkn : (k == n) = false := by simp [hin]
      simp only [hkn, Bool.or_self] at g1 g2
      exact ⟨fun _ => g1 trivial, wpAnyB_planT2 hsel t1 _ a' w' (inv.set hk) (by rw [getD_set_ne false hin]; exact hl) hB1 (g1 trivial) g2⟩
    · refine wpOp_QN (wpOp_mono (fun a' w' h' => ?_) h2)
      obtain ⟨g1, g2⟩ := h'
      have hkn : (k == n) = false := by simp [hjn0]
      simp only [hkn, Bool.or_self] at g1 g2
      rw [hlen]
      exact ⟨fun _ => g1 trivial, wpAnyB_planT2 hsel t2 _ a' w' (inv.set hk) (by rw [getD_set_ne false hjn0]; exact hl) hB2 (g1 trivial) g2⟩
theorem C_drawU {id n : Nat} {l : List Oper} (S : List HP) (t : PT) (hm : P.follows .mixedOrders = true)
    (hB : (Region.noSelect l.toArray && decide (t.len = l.length) && planT2 .any l.toArray n t (Array.replicate l.toArray.size false)) = true) (hS : Sub L S) (h : DT P W0 S n l Q t L a) : CL P W0 L (.region id l.toArray true) Q a := by
  refine ⟨fun w s => ?_⟩
  simp only [Bool.and_eq_true, decide_eq_true_eq] at hB
  obtain ⟨⟨h1, h2⟩, h3⟩ := hB
  refine Code.wp_mono (Q := QN fun a w => Q .normal a w) (fun e a w he => ?_) (wp_region_any hm ?_)
  · cases e <;> first | exact he | exact he.elim
  · have inv : Inv .any l.toArray (Array.replicate l.toArray.size false) := ⟨by simp, fun j oj _ hl => by
      exfalso
      by_cases hj : j < l.toArray.size
      · simp at hl; rename_i x; simp at hj; simp [hj] at hl
      · simp at hl; simp at hj; have : ¬ j < l.length := by omega
        simp [this] at hl⟩
    have hn : (Array.replicate l.toArray.size false).getD n false = false := by
      by_cases hj : n < l.toArray.size
      · simp at hj; simp [hj]
      · simp at hj; have : ¬ n < l.length := by omega
        simp [this]
    have s' : St W0 w.drew L := s.drew
    have := wpAnyB_planT2 (P := P) (K := fun a w => Q .normal a w) (S := fun w => St W0 w S) h1 t _ a w.drew inv hn h3 (hS.st s') (h.run _ s')
    rw [h2] at this
    exact wpAny_of_B _ _ _ _ (by simpa using this)
end
end Go.Proofs.Ytlmabajgnjiigaa
namespace Go.Proofs.Ytlmabajgnjiigaa
open Go Go.RowKit
set_option linter.unusedVariables false
set_option linter.unusedSimpArgs false
inductive PT3 where
  | leaf (pl : List (Nat × Nat)) : PT3
  | two (pl : List (Nat × Nat)) (i : Nat) (t1 : PT3) (j : Nat) (t2 : PT3) : PT3
  | three (pl : List (Nat × Nat)) (i : Nat) (t1 : PT3) (j : Nat) (t2 : PT3) (k : Nat) (t3 : PT3) : PT3
def PT3.len : PT3 → Nat
  | .leaf pl => pl.length
  | .two pl _ t1 _ _ => pl.length + (1 + t1.len)
  | .three pl _ t1 _ _ _ _ => pl.length + (1 + t1.len)
section
variable {P : Program} {W0 w : World} {L L' S : List HP} {ops : Array Oper} {o : Oper} {a a' : Act} {Q : Exit → Act → World → Prop}
def planT3 (md : Region.Mode) (ops : Array Oper) (n : Nat) : PT3 → Array Bool → Bool
  | .leaf pl, listed => planB md ops n pl listed
  | .two pl i t1 j t2, listed => planC2 md ops n (fun l => decide (Region.ready md ops l = [i, j]) && decide (t1.len = t2.len) && decide (i ≠ n) && decide (j ≠ n) && planT3 md ops n t1 (l.setIfInBounds i true) && planT3 md ops n t2 (l.setIfInBounds j true)) pl listed
  | .three pl i t1 j t2 k t3, listed => planC2 md ops n (fun l => decide (Region.ready md ops l = [i, j, k]) && decide (t1.len = t2.len) && decide (t1.len = t3.len) && decide (i ≠ n) && decide (j ≠ n) && decide (k ≠ n) && planT3 md ops n t1 (l.setIfInBounds i true) && planT3 md ops n t2 (l.setIfInBounds j true) && planT3 md ops n t3 (l.setIfInBounds k true)) pl listed
def wpT3 (P : Program) (ops : Array Oper) (K : Act → World → Prop) (S : World → Prop) (n : Nat) : PT3 → Act → World → Prop
  | .leaf pl, a, w => wpPl P ops K S n false pl a w
  | .two pl i t1 j t2, a, w => wpPl P ops (fun a w => wpPl P ops (wpT3 P ops K S n t1) S n false [(i, 0)] a w ∧ wpPl P ops (wpT3 P ops K S n t2) S n false [(j, 0)] a w) S n false pl a w
  | .three pl i t1 j t2 k t3, a, w => wpPl P ops (fun a w => wpPl P ops (wpT3 P ops K S n t1) S n false [(i, 0)] a w ∧ wpPl P ops (wpT3 P ops K S n t2) S n false [(j, 0)] a w ∧ wpPl P ops (wpT3 P ops K S n t3) S n false [(k, 0)] a w) S n false pl a w
theorem wpAnyB_planT3 {md : Region.Mode} {K : Act → World → Prop} {S : World → Prop} {n : Nat} (hsel : Region.noSelect ops = true) : ∀ (t : PT3) (listed : Array Bool) (a : Act) (w : World), Inv md ops listed → listed.getD n false = false →
    planT3 md ops n t listed = true → S w → wpT3 P ops K S n t a w → wpAnyB P md ops (QN K) S n t.len listed a w
  | .leaf pl, listed, a, w, inv, hl, hB, hS, h => by
    exact wpAnyB_plan hsel pl listed a w false inv hB hl (fun _ => hS) h
  | .two pl i t1 j t2, listed, a, w, inv, hl, hB, hS, h => by
    refine wpAnyB_planC2 (f := 1 + t1.len) hsel ?_ pl listed a w inv hl hB hS h
    intro listed a w inv hl hfin hS ⟨h1, h2⟩
    simp only [Bool.and_eq_true, decide_eq_true_eq] at hfin
    obtain ⟨⟨⟨⟨⟨hr, hlen⟩, hin⟩, hjn0⟩, hB1⟩, hB2⟩ := hfin
    rw [Nat.add_comm]
    refine ⟨fun h0 => (by rw [h0] at hr; cases hr), fun k hk => ?_⟩
    have hk2 := hk
    rw [hr] at hk2
    simp only [List.mem_cons, List.not_mem_nil, or_false] at hk2
    rcases hk2 with rfl | rfl
    · refine wpOp_QN (wpOp_mono (fun a' w' h' => ?_) h1)
      obtain ⟨g1, g2⟩ := h'
      have hkn : (k == n) = false := by simp [hin]
      simp only [hkn, Bool.or_self] at g1 g2
      exact ⟨fun _ => g1 trivial, wpAnyB_planT3 hsel t1 _ a' w' (inv.set hk) (by rw [getD_set_ne false hin]; exact hl) hB1 (g1 trivial) g2⟩
    · refine wpOp_QN (wpOp_mono (fun a' w' h' => ?_) h2)
      obtain ⟨g1, g2⟩ := h'
      have hkn : (k == n) = false := by simp [hjn0]
      simp only [hkn, Bool.or_self] at g1 g2
      rw [hlen]
      exact ⟨fun _ => g1 trivial, wpAnyB_planT3 hsel t2 _ a' w' (inv.set hk) (by rw [getD_set_ne false hjn0]; exact hl) hB2 (g1 trivial) g2⟩
  | .three pl i t1 j t2 m t3, listed, a, w, inv, hl, hB, hS, h => by
    refine wpAnyB_planC2 (f := 1 + t1.len) hsel ?_ pl listed a w inv hl hB hS h
    intro listed a w inv hl hfin hS ⟨h1, h2, h3⟩
    simp only [Bool.and_eq_true, decide_eq_true_eq] at hfin
    obtain ⟨⟨⟨⟨⟨⟨⟨⟨hr, hlen⟩, hlen2⟩, hin⟩, hjn0⟩, hmn0⟩, hB1⟩, hB2⟩, hB3⟩ := hfin
    rw [Nat.add_comm]
    refine ⟨fun h0 => (by rw [h0] at hr; cases hr), fun k hk => ?_⟩
    have hk2 := hk
    rw [hr] at hk2
    simp only [List.mem_cons, List.not_mem_nil, or_false] at hk2
    rcases hk2 with rfl | rfl | rfl
    · refine wpOp_QN (wpOp_mono (fun a' w' h' => ?_) h1)
      obtain ⟨g1, g2⟩ := h'
      have hkn : (k == n) = false := by simp [hin]
      simp only [hkn, Bool.or_self] at g1 g2
      exact ⟨fun _ => g1 trivial, wpAnyB_planT3 hsel t1 _ a' w' (inv.set hk) (by rw [getD_set_ne false hin]; exact hl) hB1 (g1 trivial) g2⟩
    · refine wpOp_QN (wpOp_mono (fun a' w' h' => ?_) h2)
      obtain ⟨g1, g2⟩ := h'
      have hkn : (k == n) = false := by simp [hjn0]
      simp only [hkn, Bool.or_self] at g1 g2
      rw [hlen]
      exact ⟨fun _ => g1 trivial, wpAnyB_planT3 hsel t2 _ a' w' (inv.set hk) (by rw [getD_set_ne false hjn0]; exact hl) hB2 (g1 trivial) g2⟩
    · refine wpOp_QN (wpOp_mono (fun a' w' h' => ?_) h3)
      obtain ⟨g1, g2⟩ := h'
      have hkn : (k == n) = false := by simp [hmn0]
      simp only [hkn, Bool.or_self] at g1 g2
      rw [hlen2]
      exact ⟨fun _ => g1 trivial, wpAnyB_planT3 hsel t3 _ a' w' (inv.set hk) (by rw [getD_set_ne false hmn0]; exact hl) hB3 (g1 trivial) g2⟩
structure DT3 (P : Program) (W0 : World) (S : List HP) (n : Nat) (l : List Oper) (Q : Exit → Act → World → Prop) (t : PT3) (L : List HP) (a : Act) : Prop where
  run : ∀ w, St W0 w L → wpT3 P l.toArray (fun a w => Q .normal a w) (fun w => St W0 w S) n t a w
theorem C_draw3 {id n : Nat} {l : List Oper} (S : List HP) (t : PT3) (hm : P.follows .mixedOrders = true)
    (hB : (Region.noSelect l.toArray && decide (t.len = l.length) && planT3 .any l.toArray n t (Array.replicate l.toArray.size false)) = true) (hS : Sub L S) (h : DT3 P W0 S n l Q t L a) : CL P W0 L (.region id l.toArray true) Q a := by
  refine ⟨fun w s => ?_⟩
  simp only [Bool.and_eq_true, decide_eq_true_eq] at hB
  obtain ⟨⟨h1, h2⟩, h3⟩ := hB
  refine Code.wp_mono (Q := QN fun a w => Q .normal a w) (fun e a w he => ?_) (wp_region_any hm ?_)
  · cases e <;> first | exact he | exact he.elim
  · have inv : Inv .any l.toArray (Array.replicate l.toArray.size false) := ⟨by simp, fun j oj _ hl => by
      exfalso
      by_cases hj : j < l.toArray.size
      · simp at hl; rename_i x; simp at hj; simp [hj] at hl
      · simp at hl; simp at hj; have : ¬ j < l.length := by omega
        simp [this] at hl⟩
    have hn : (Array.replicate l.toArray.size false).getD n false = false := by
      by_cases hj : n < l.toArray.size
      · simp at hj; simp [hj]
      · simp at hj; have : ¬ n < l.length := by omega
        simp [this]
    have s' : St W0 w.drew L := s.drew
    have := wpAnyB_planT3 (P := P) (K := fun a w => Q .normal a w) (S := fun w => St W0 w S) h1 t _ a w.drew inv hn h3 (hS.st s') (h.run _ s')
    rw [h2] at this
    exact wpAny_of_B _ _ _ _ (by simpa using this)
/-- where a way goes on -/
def QD3 (P : Program) (W0 : World) (S : List HP) (n : Nat) (l : List Oper) (Q : Exit → Act → World → Prop) (t : PT3) : Exit → Act → World → Prop :=
  QN (wpT3 P l.toArray (fun a w => Q .normal a w) (fun w => St W0 w S) n t)
def QB3 (P : Program) (W0 : World) (S : List HP) (n : Nat) (l : List Oper) (Q : Exit → Act → World → Prop) (i : Nat) (t1 : PT3) (j : Nat) (t2 : PT3) : Exit → Act → World → Prop :=
  QN fun a w => wpPl P l.toArray (wpT3 P l.toArray (fun a w => Q .normal a w) (fun w => St W0 w S) n t1) (fun w => St W0 w S) n false [(i, 0)] a w ∧ wpPl P l.toArray (wpT3 P l.toArray (fun a w => Q .normal a w) (fun w => St W0 w S) n t2) (fun w => St W0 w S) n false [(j, 0)] a w
def QC3 (P : Program) (W0 : World) (S : List HP) (n : Nat) (l : List Oper) (Q : Exit → Act → World → Prop) (i : Nat) (t1 : PT3) (j : Nat) (t2 : PT3) (k : Nat) (t3 : PT3) : Exit → Act → World → Prop :=
  QN fun a w => wpPl P l.toArray (wpT3 P l.toArray (fun a w => Q .normal a w) (fun w => St W0 w S) n t1) (fun w => St W0 w S) n false [(i, 0)] a w ∧ wpPl P l.toArray (wpT3 P l.toArray (fun a w => Q .normal a w) (fun w => St W0 w S) n t2) (fun w => St W0 w S) n false [(j, 0)] a w ∧ wpPl P l.toArray (wpT3 P l.toArray (fun a w => Q .normal a w) (fun w => St W0 w S) n t3) (fun w => St W0 w S) n false [(k, 0)] a w
theorem DT3_leaf {n : Nat} {l : List Oper} {pl : List (Nat × Nat)} (k : DL P W0 S n l Q false pl L a) : DT3 P W0 S n l Q (.leaf pl) L a := ⟨k.run⟩
theorem DT3_two {n : Nat} {l : List Oper} {pl : List (Nat × Nat)} {i j : Nat} {t1 t2 : PT3} (k : DL P W0 S n l (QB3 P W0 S n l Q i t1 j t2) false pl L a) : DT3 P W0 S n l Q (.two pl i t1 j t2) L a := ⟨k.run⟩
theorem DT3_three {n : Nat} {l : List Oper} {pl : List (Nat × Nat)} {i j m : Nat} {t1 t2 t3 : PT3} (k : DL P W0 S n l (QC3 P W0 S n l Q i t1 j t2 m t3) false pl L a) : DT3 P W0 S n l Q (.three pl i t1 j t2 m t3) L a := ⟨k.run⟩
theorem E3_two {n : Nat} {l : List Oper} {i j : Nat} {t1 t2 : PT3} (k1 : DL P W0 S n l (QD3 P W0 S n l Q t1) false [(i, 0)] L a) (k2 : DL P W0 S n l (QD3 P W0 S n l Q t2) false [(j, 0)] L a) : EL W0 L (QB3 P W0 S n l Q i t1 j t2) .normal a :=
  ⟨fun w s => ⟨k1.run w s, k2.run w s⟩⟩
theorem E3_three {n : Nat} {l : List Oper} {i j m : Nat} {t1 t2 t3 : PT3} (k1 : DL P W0 S n l (QD3 P W0 S n l Q t1) false [(i, 0)] L a) (k2 : DL P W0 S n l (QD3 P W0 S n l Q t2) false [(j, 0)] L a) (k3 : DL P W0 S n l (QD3 P W0 S n l Q t3) false [(m, 0)] L a) : EL W0 L (QC3 P W0 S n l Q i t1 j t2 m t3) .normal a :=
  ⟨fun w s => ⟨k1.run w s, k2.run w s, k3.run w s⟩⟩
theorem E3_way {n : Nat} {l : List Oper} {t : PT3} (k : DT3 P W0 S n l Q t L a) : EL W0 L (QD3 P W0 S n l Q t) .normal a := ⟨k.run⟩
end
end Go.Proofs.Ytlmabajgnjiigaa
