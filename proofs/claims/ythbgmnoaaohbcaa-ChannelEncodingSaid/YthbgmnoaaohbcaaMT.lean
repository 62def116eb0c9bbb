/-
  Walks of the reference 36: Decode.
-/
import Derived.Test.YthbgmnoaaohbcaaMQ
import Derived.Test.YthbgmnoaaohbcaaMJ
namespace Go.Proofs.Ythbgmnoaaohbcaa
open Go Go.RowKit
set_option linter.unusedVariables false
set_option linter.unusedSimpArgs false
set_option maxRecDepth 20000
set_option synthInstance.maxSize 100000
set_option synthInstance.maxHeartbeats 400000
theorem rEnd_e {b : List UInt8} {e : Int} (h : e ≠ 0) : rEnd (b, e) = e := by unfold rEnd; rw [if_neg]; exact fun hh => h hh.1
theorem rEnd_kp {bs b b' : List UInt8} {e : Int} (h : Kp bs b b' e) : rEnd (b', e) = rEnd (b, e) := by
  by_cases he : e = 0
  · rw [h.1 he]
  · rw [rEnd_e he, rEnd_e he]
theorem rEnd_z {b : List UInt8} {e : Int} (h : rEnd (b, e) = 0) : e = 0 := by
  by_cases he : e = 0
  · exact he
  · rw [rEnd_e he] at h; exact h
/-- reads after a kept reader -/
theorem rU_kp {bs b b' : List UInt8} {e : Int} (h : Kp bs b b' e) {m : Nat} {c : List UInt8} {f : Int} (hr : rU (b, e) = (m, (c, f))) : ∃ m' c', rU (b', e) = (m', (c', f)) ∧ (f = 0 → m' = m ∧ c' = c) ∧ (f = 0 → e = 0) := by
  by_cases he : e = 0
  · rw [h.1 he]
    exact ⟨m, c, hr, fun _ => ⟨rfl, rfl⟩, fun _ => he⟩
  · rw [rU_err he] at hr
    simp only [Prod.mk.injEq] at hr
    obtain ⟨rfl, rfl, rfl⟩ := hr
    exact ⟨0, b', by rw [rU_err he], fun h => absurd h he, fun h => h⟩
theorem rI_kp {bs b b' : List UInt8} {e : Int} (h : Kp bs b b' e) {m : Int} {c : List UInt8} {f : Int} (hr : rI (b, e) = (m, (c, f))) : ∃ m' c', rI (b', e) = (m', (c', f)) ∧ (f = 0 → m' = m ∧ c' = c) ∧ (f = 0 → e = 0) := by
  unfold rI at hr ⊢
  simp only [Prod.mk.injEq] at hr
  obtain ⟨h1, h2⟩ := hr
  obtain ⟨m', c', h3, h4, h5⟩ := rU_kp h (m := (rU (b, e)).1) (c := c) (f := f) (by rw [← h2])
  refine ⟨unzig m', c', by rw [h3], fun hf => ?_, h5⟩
  obtain ⟨h6, h7⟩ := h4 hf
  rw [h6]
  exact ⟨h1, h7⟩
theorem rRaw_kp {bs b b' : List UInt8} {e : Int} (h : Kp bs b b' e) {m c : List UInt8} {f : Int} (hr : rList rNext (b, e) = (m, (c, f))) : ∃ m' c', rList rNext (b', e) = (m', (c', f)) ∧ (f = 0 → m' = m ∧ c' = c) ∧ (f = 0 → e = 0) := by
  by_cases he : e = 0
  · rw [h.1 he]
    exact ⟨m, c, hr, fun _ => ⟨rfl, rfl⟩, fun _ => he⟩
  · have hu : ∀ x : List UInt8, rU (x, e) = (0, (x, e)) := fun x => rU_err he
    obtain ⟨m', c', f', hr'⟩ : ∃ m' c' f', rList rNext (b', e) = (m', (c', f')) := ⟨_, _, _, rfl⟩
    have e1 : f = e := by
      rcases rList_cases (hu b) hr with ⟨_, _, h⟩ | ⟨h, _⟩ | ⟨h, _⟩
      · exact h
      · exact absurd h he
      · exact absurd h he
    have e2 : f' = e := by
      rcases rList_cases (hu b') hr' with ⟨_, _, h⟩ | ⟨h, _⟩ | ⟨h, _⟩
      · exact h
      · exact absurd h he
      · exact absurd h he
    subst e1 e2
    exact ⟨m', c', hr', fun h => absurd h he, fun h => h⟩
section
variable {W0 : World} {L : List HP}
theorem fDecode_ct {v : Value} {b x : List UInt8} {e s a : Int} (hv : rd eB v b ∈ L) (hl : b.length ≤ 1000000) (h : decP b = (e, s, a, x)) :
    CT Try.prog 33 #[v] W0 L fun r L' => ∃ A c, r = .tuple #[.agg #[.int .i64 s, .int .i64 a, .slice A x.length c], .int .i64 e] ∧ L' = rd eB (.slice A x.length c) x :: L := by
  obtain ⟨core, b1, e1, hr1⟩ : ∃ core b1 e1, rList rNext (b, 0) = (core, (b1, e1)) := ⟨_, _, _, rfl⟩
  have hcore : core.length ≤ 1000000 := by have := rRaw_len (b, 0); rw [hr1] at this; dsimp only at this; omega
  obtain ⟨m, b2, e2, hr2⟩ : ∃ m b2 e2, rU (b1, e1) = (m, (b2, e2)) := ⟨_, _, _, rfl⟩
  obtain ⟨q1, c1, f1, hr3⟩ : ∃ q1 c1 f1, rI (core, 0) = (q1, (c1, f1)) := ⟨_, _, _, rfl⟩
  have hc1 : c1.length ≤ 1000000 := by have := rI_len (core, 0); rw [hr3] at this; dsimp only at this; omega
  obtain ⟨q2, c2, f2, hr4⟩ : ∃ q2 c2 f2, rI (c1, f1) = (q2, (c2, f2)) := ⟨_, _, _, rfl⟩
  obtain ⟨y, c3, f3, hr5⟩ : ∃ y c3 f3, rList rNext (c2, f2) = (y, (c3, f3)) := ⟨_, _, _, rfl⟩
  obtain ⟨bw, hbw⟩ : ∃ bw, bytesW lblP.data.toList core = bw := ⟨_, rfl⟩
  unfold decP at h
  rw [hr1] at h
  dsimp only at h
  rw [hr2, hr3, hbw] at h
  dsimp only at h
  rw [hr4] at h
  dsimp only at h
  rw [hr5] at h
  dsimp only at h
  refine CT_fact (fun w s => ((Src.sl (.inl hv) s).form)) ?_
  rintro ⟨Aa, ca, rfl, hca⟩
  refine CT_enter Try.func33 rfl ?_; (simp only [Try.ntmps33, List.size_toArray, List.length_cons, List.length_nil, Nat.reduceAdd, Nat.reduceSub, Array.replicate_succ, Array.replicate_zero, List.push_toArray, List.append_toArray, List.nil_append, List.cons_append])
  refine C_sub (sub_dup hv) ?_
  repeat' (first | refine go ?_ | intro _ | (apply cG; first | refine cT ?_ | refine cF ?_ | refine cS (fun _ => ?_) fun _ => ?_) | (apply gW; refine sW ?_) | (apply gI; refine sI ?_) | (apply gE; refine sE ?_) | (apply gP; refine sP ?_) | (apply gC; refine sC ?_) | (apply gD; refine sD ?_) | fail)
  rename_i p0 p1
  refine O_sub (S := cel p1 [.slice Aa b.length ca, .int .i64 0] 99 :: rd eB (.slice Aa b.length ca) b :: cel p0 [.int .i64 0, .int .i64 0, .slice none 0 0] 40 :: L) Sb ?_
  refine O_sub fr_sub ?_
  refine O_d (dy_call ArgsI.pf (by first | exact rfl | trivial | (intro a b; rfl)) (fRawR_ct hr1 (by omega))) ?_; rintro _ _ ⟨_, ⟨b1', A1, k1, hk1, rfl, rfl⟩, rfl⟩; refine O_n ?_
  obtain ⟨m', b2', hu, hum, hue⟩ := rU_kp hk1 hr2
  repeat' (first | refine go ?_ | intro _ | (apply cG; first | refine cT ?_ | refine cF ?_ | refine cS (fun _ => ?_) fun _ => ?_) | (apply gW; refine sW ?_) | (apply gI; refine sI ?_) | (apply gE; refine sE ?_) | (apply gP; refine sP ?_) | (apply gC; refine sC ?_) | (apply gD; refine sD ?_) | fail)
  refine O_d (dy_call ArgsI.pf (by first | exact rfl | trivial | (intro a b; rfl)) (CT.pull (i := 1) (by rfl) (fU_ct hu (by have := hk1.2; omega)))) ?_; rintro _ _ ⟨_, ⟨b2'', hk2, rfl, rfl⟩, rfl⟩; refine O_n ?_
  repeat' (first | refine go ?_ | intro _ | (apply cG; first | refine cT ?_ | refine cF ?_ | refine cS (fun _ => ?_) fun _ => ?_) | (apply gW; refine sW ?_) | (apply gI; refine sI ?_) | (apply gE; refine sE ?_) | (apply gP; refine sP ?_) | (apply gC; refine sC ?_) | (apply gD; refine sD ?_) | fail)
  refine O_d (dy_call ArgsI.pf (by first | exact rfl | trivial | (intro a b; rfl)) (fEnd_ct (by have := hk1.2; have := hk2.2; omega))) ?_; rintro _ _ ⟨_, ⟨rfl, rfl⟩, rfl⟩; refine O_n ?_
  have hend : rEnd (b2'', e2) = rEnd (b2, e2) := (rEnd_kp hk2).trans (by
    by_cases h2 : e2 = 0
    · rw [(hum h2).2]
    · rw [rEnd_e h2, rEnd_e h2])
  obtain ⟨x1, hx1⟩ : ∃ x1, rEnd (b2, e2) = x1 := ⟨_, rfl⟩
  rw [hend, hx1]
  rw [hx1] at h
  by_cases hz : x1 ≠ 0
  · rw [if_pos hz] at h
    simp only [Prod.mk.injEq] at h
    obtain ⟨rfl, rfl, rfl, rfl⟩ := h
    repeat' (first | refine go ?_ | intro _ | (apply cG; first | refine cT ?_ | refine cF ?_ | refine cS (fun _ => ?_) fun _ => ?_) | (apply gW; refine sW ?_) | (apply gI; refine sI ?_) | (apply gE; refine sE ?_) | (apply gP; refine sP ?_) | (apply gC; refine sC ?_) | (apply gD; refine sD ?_) | fail)
    refine E_rdnil eB none 0 ?_
    refine E_res2 (by rfl) (by rfl) ⟨none, 0, rfl, rfl⟩ Sb
  rw [if_neg hz] at h
  have he2 : e2 = 0 := rEnd_z (by rw [hx1]; omega)
  obtain ⟨rfl, _⟩ := hum he2
  repeat' (first | refine go ?_ | intro _ | (apply cG; first | refine cT ?_ | refine cF ?_ | refine cS (fun _ => ?_) fun _ => ?_) | (apply gW; refine sW ?_) | (apply gI; refine sI ?_) | (apply gE; refine sE ?_) | (apply gP; refine sP ?_) | (apply gC; refine sC ?_) | (apply gD; refine sD ?_) | fail)
  refine O_d (dy_call ArgsI.pf (by first | exact rfl | trivial | (intro a b; rfl)) (rBytes_ct (s := lblP) (l := core) Sc.pf (by decide) (by omega) hbw)) ?_; rintro _ _ ⟨_, ⟨rfl, hLL⟩, rfl⟩; replace hLL := hLL.symm; subst hLL; refine O_n ?_
  by_cases hs : m' ≠ bw.toNat
  · rw [if_pos hs] at h
    simp only [Prod.mk.injEq] at h
    obtain ⟨rfl, rfl, rfl, rfl⟩ := h
    repeat' (first | refine go ?_ | intro _ | (apply cG; first | refine cT ?_ | refine cF ?_ | refine cS (fun _ => ?_) fun _ => ?_) | (apply gW; refine sW ?_) | (apply gI; refine sI ?_) | (apply gE; refine sE ?_) | (apply gP; refine sP ?_) | (apply gC; refine sC ?_) | (apply gD; refine sD ?_) | fail)
    refine E_rdnil eB none 0 ?_
    refine E_res2 (by rfl) (by rfl) ⟨none, 0, rfl, rfl⟩ Sb
  rw [if_neg hs] at h
  repeat' (first | refine go ?_ | intro _ | (apply cG; first | refine cT ?_ | refine cF ?_ | refine cS (fun _ => ?_) fun _ => ?_) | (apply gW; refine sW ?_) | (apply gI; refine sI ?_) | (apply gE; refine sE ?_) | (apply gP; refine sP ?_) | (apply gC; refine sC ?_) | (apply gD; refine sD ?_) | fail)
  rename_i p2
  refine O_sub (S := cel p2 [.slice A1 core.length k1, .int .i64 0] 99 :: rd eB (.slice A1 core.length k1) core :: cel p0 [.int .i64 0, .int .i64 0, .slice none 0 0] 40 :: L) Sb ?_
  refine O_sub fr_sub ?_
  refine O_d (dy_call ArgsI.pf (by first | exact rfl | trivial | (intro a b; rfl)) (fI_ct hr3 (by omega))) ?_; rintro _ _ ⟨_, ⟨c1', hk3, rfl, rfl⟩, rfl⟩; refine O_n ?_
  repeat' (first | refine go ?_ | intro _ | (apply cG; first | refine cT ?_ | refine cF ?_ | refine cS (fun _ => ?_) fun _ => ?_) | (apply gW; refine sW ?_) | (apply gI; refine sI ?_) | (apply gE; refine sE ?_) | (apply gP; refine sP ?_) | (apply gC; refine sC ?_) | (apply gD; refine sD ?_) | fail)
  obtain ⟨q2', c2', hu4, hum4, hue4⟩ := rI_kp hk3 hr4
  refine O_d (dy_call ArgsI.pf (by first | exact rfl | trivial | (intro a b; rfl)) (CT.pull (i := 1) (by rfl) (fI_ct hu4 (by have := hk3.2; omega)))) ?_; rintro _ _ ⟨_, ⟨c2'', hk4, rfl, rfl⟩, rfl⟩; refine O_n ?_
  repeat' (first | refine go ?_ | intro _ | (apply cG; first | refine cT ?_ | refine cF ?_ | refine cS (fun _ => ?_) fun _ => ?_) | (apply gW; refine sW ?_) | (apply gI; refine sI ?_) | (apply gE; refine sE ?_) | (apply gP; refine sP ?_) | (apply gC; refine sC ?_) | (apply gD; refine sD ?_) | fail)
  have hk4' : Kp c1' c2 c2'' f2 := ⟨fun h => by rw [← (hum4 h).2]; exact hk4.1 h, hk4.2⟩
  obtain ⟨y', c3', hu5, hum5, hue5⟩ := rRaw_kp hk4' hr5
  refine O_d (dy_call ArgsI.pf (by first | exact rfl | trivial | (intro a b; rfl)) (fRawR_ct hu5 (by have := hk3.2; have := hk4.2; omega))) ?_; rintro _ _ ⟨_, ⟨c3'', A2, k2, hk5, rfl, rfl⟩, rfl⟩; refine O_n ?_
  repeat' (first | refine go ?_ | intro _ | (apply cG; first | refine cT ?_ | refine cF ?_ | refine cS (fun _ => ?_) fun _ => ?_) | (apply gW; refine sW ?_) | (apply gI; refine sI ?_) | (apply gE; refine sE ?_) | (apply gP; refine sP ?_) | (apply gC; refine sC ?_) | (apply gD; refine sD ?_) | fail)
  obtain ⟨q, hq⟩ : ∃ q, okP q1 q2' y' = q := ⟨_, rfl⟩
  refine O_d (dy_call ArgsI.pf (by first | exact rfl | trivial | (intro a b; rfl)) (fValid_ct (b := y') (s := q1) (a := q2') (q := q) Sc.pf hq)) ?_; rintro _ _ ⟨_, ⟨rfl, hLL⟩, rfl⟩; replace hLL := hLL.symm; subst hLL; refine O_n ?_
  repeat' (first | refine go ?_ | intro _ | (apply cG; first | refine cT ?_ | refine cF ?_ | refine cS (fun _ => ?_) fun _ => ?_) | (apply gW; refine sW ?_) | (apply gI; refine sI ?_) | (apply gE; refine sE ?_) | (apply gP; refine sP ?_) | (apply gC; refine sC ?_) | (apply gD; refine sD ?_) | fail)
  refine O_d (dy_call ArgsI.pf (by first | exact rfl | trivial | (intro a b; rfl)) (CT.pull (i := 1) (by rfl) (fEnd_ct (by have := hk3.2; have := hk4.2; have := hk5.2; omega)))) ?_; rintro _ _ ⟨_, ⟨rfl, rfl⟩, rfl⟩; refine O_n ?_
  have hend2 : rEnd (c3'', f3) = rEnd (c3, f3) := (rEnd_kp hk5).trans (by
    by_cases h2 : f3 = 0
    · rw [(hum5 h2).2]
    · rw [rEnd_e h2, rEnd_e h2])
  obtain ⟨x2, hx2⟩ : ∃ x2, rEnd (c3, f3) = x2 := ⟨_, rfl⟩
  rw [hend2, hx2]
  rw [hx2] at h
  by_cases hz2 : x2 ≠ 0
  · rw [if_pos hz2] at h
    simp only [Prod.mk.injEq] at h
    obtain ⟨rfl, rfl, rfl, rfl⟩ := h
    repeat' (first | refine go ?_ | intro _ | (apply cG; first | refine cT ?_ | refine cF ?_ | refine cS (fun _ => ?_) fun _ => ?_) | (apply gW; refine sW ?_) | (apply gI; refine sI ?_) | (apply gE; refine sE ?_) | (apply gP; refine sP ?_) | (apply gC; refine sC ?_) | (apply gD; refine sD ?_) | fail)
    refine E_rdnil eB none 0 ?_
    refine E_res2 (by rfl) (by rfl) ⟨none, 0, rfl, rfl⟩ Sb
  rw [if_neg hz2] at h
  have hf3 : f3 = 0 := rEnd_z (by rw [hx2]; omega)
  obtain ⟨rfl, _⟩ := hum5 hf3
  obtain ⟨rfl, _⟩ := hum4 (hue5 hf3)
  rw [hq] at h
  cases q
  · rw [if_pos rfl] at h
    simp only [Prod.mk.injEq] at h
    obtain ⟨rfl, rfl, rfl, rfl⟩ := h
    repeat' (first | refine go ?_ | intro _ | (apply cG; first | refine cT ?_ | refine cF ?_ | refine cS (fun _ => ?_) fun _ => ?_) | (apply gW; refine sW ?_) | (apply gI; refine sI ?_) | (apply gE; refine sE ?_) | (apply gP; refine sP ?_) | (apply gC; refine sC ?_) | (apply gD; refine sD ?_) | fail)
    refine E_rdnil eB none 0 ?_
    refine E_res2 (by rfl) (by rfl) ⟨none, 0, rfl, rfl⟩ Sb
  · rw [if_neg (by decide)] at h
    simp only [Prod.mk.injEq] at h
    obtain ⟨rfl, rfl, rfl, rfl⟩ := h
    repeat' (first | refine go ?_ | intro _ | (apply cG; first | refine cT ?_ | refine cF ?_ | refine cS (fun _ => ?_) fun _ => ?_) | (apply gW; refine sW ?_) | (apply gI; refine sI ?_) | (apply gE; refine sE ?_) | (apply gP; refine sP ?_) | (apply gC; refine sC ?_) | (apply gD; refine sD ?_) | fail)
    refine E_res2 (by rfl) (by rfl) ⟨_, _, rfl, rfl⟩ Sb
end
end Go.Proofs.Ythbgmnoaaohbcaa
namespace Go.Proofs.Ythbgmnoaaohbcaa
open Go Go.RowKit
set_option linter.unusedVariables false
set_option linter.unusedSimpArgs false
section
variable {P : Program} {W0 w : World} {L L' S : List HP} {ops : Array Oper} {o : Oper} {a a' : Act} {Q : Exit → Act → World → Prop}
theorem Oper.wp_convN {K K' : Act → World → Prop} {Q Q' : Exit → Act → World → Prop} (hK : ∀ a w, K a w → K' a w) (hQ : ∀ e a w, e ≠ .normal → Q e a w → Q' e a w) (h : o.wp P a w K Q) : o.wp P a w K' Q' := by
  unfold Oper.wp at *
  generalize (execOp a.eval o).run P w = r at *
  cases r with
  | ok n w' =>
    cases n <;> simp only [Oper.upon] at h ⊢
    case value v => exact hK _ _ h
    case skip => exact hK _ _ h
    case defer d => exact hK _ _ h
    case enter f args =>
      exact Calls.mono h fun e w'' he => by
        cases e with
        | returned v => exact hK _ _ he
        | panicked c => exact hQ _ _ _ (by simp) he
        | outgrown => exact let ⟨a, w, hq⟩ := he; ⟨a, w, hQ _ _ _ (by simp) hq⟩
    case row r args => exact Rows.mono h fun v w'' he => hK _ _ he
  | halt x w' => cases x <;> simp only [Oper.upon] at h ⊢; exact hQ _ _ _ (by simp) h
theorem QN_off {K : Act → World → Prop} {e : Exit} (he : e ≠ .normal) {a : Act} {w : World} : ¬ QN K e a w := by
  cases e <;> first | exact absurd rfl he | exact fun h => h
theorem wpOp_QN {K K1 K2 : Act → World → Prop} {i : Nat} (h : wpOp P ops (QN K1) i K a w) : wpOp P ops (QN K2) i K a w := by
  unfold wpOp at *
  split
  · simpa [*] using h
  · rename_i o ho
    simp only [ho] at h
    split
    · rename_i hw
      simp only [hw, if_true] at h
      rcases h with h | ⟨_, a1, w1, hq⟩
      · exact .inl (Oper.wp_convN (fun _ _ h => h) (fun e a w he hq => absurd hq (QN_off he)) h)
      · exact absurd hq (QN_off (by simp))
    · rename_i hw
      simp only [hw] at h
      exact h
/-- a plan with ways -/
inductive PT where
  | leaf (pl : List (Nat × Nat)) : PT
  | two (pl : List (Nat × Nat)) (i : Nat) (t1 : PT) (j : Nat) (t2 : PT) : PT
def PT.len : PT → Nat
  | .leaf pl => pl.length
  | .two pl _ t1 _ _ => pl.length + (1 + t1.len)
def planC (md : Region.Mode) (ops : Array Oper) (n : Nat) (fin : Array Bool → Bool) : List (Nat × Nat) → Array Bool → Bool
  | [], listed => fin listed
  | (i, 0) :: r, listed => decide (Region.ready md ops listed = [i]) && planC md ops n fin r (listed.setIfInBounds i true)
  | (i, m + 1) :: r, listed => (Region.ready md ops listed).contains i && Region.free md ops listed i && decide (i ≠ n) && (decide (0 < m) || waitsT md ops ops.size n i || decide (ops.size ≤ n)) && planC md ops n fin r (listed.setIfInBounds i true)
def planT (md : Region.Mode) (ops : Array Oper) (n : Nat) : PT → Array Bool → Bool
  | .leaf pl, listed => planB md ops n pl listed
  | .two pl i t1 j t2, listed => planC md ops n (fun l => decide (Region.ready md ops l = [i, j]) && decide (t1.len = t2.len) && planT md ops n t1 (l.setIfInBounds i true) && planT md ops n t2 (l.setIfInBounds j true)) pl listed
def wpT (P : Program) (ops : Array Oper) (K : Act → World → Prop) (S : World → Prop) (n : Nat) : PT → Act → World → Prop
  | .leaf pl, a, w => wpPl P ops K S n false pl a w
  | .two pl i t1 j t2, a, w => wpPl P ops (fun a w => wpPl P ops (wpT P ops K S n t1) S n false [(i, 0)] a w ∧ wpPl P ops (wpT P ops K S n t2) S n false [(j, 0)] a w) S n false pl a w
theorem wpAnyB_planC {md : Region.Mode} {K K0 : Act → World → Prop} {S : World → Prop} {n f : Nat} {fin : Array Bool → Bool} (hsel : Region.noSelect ops = true) (hn : ops.size ≤ n)
    (hfin : ∀ listed a w, Inv md ops listed → fin listed = true → S w → K a w → wpAnyB P md ops (QN K0) S n f listed a w) : ∀ (pl : List (Nat × Nat)) (listed : Array Bool) (a : Act) (w : World), Inv md ops listed →
    planC md ops n fin pl listed = true → S w → wpPl P ops K S n false pl a w → wpAnyB P md ops (QN K0) S n (pl.length + f) listed a w
  | [], listed, a, w, inv, hB, hS, h => by
    rw [List.length_nil, Nat.zero_add]
    exact hfin listed a w inv hB hS h
  | (i, 0) :: r, listed, a, w, inv, hB, hS, h => by
    simp only [planC, Bool.and_eq_true, decide_eq_true_eq] at hB
    have e : ((i, 0) :: r).length + f = (r.length + f) + 1 := by simp only [List.length_cons]; omega
    rw [e]
    refine ⟨fun h0 => (by rw [h0] at hB; cases hB.1), fun j hj => ?_⟩
    have hji : j = i := by rw [hB.1] at hj; simpa using hj
    subst hji
    have hin : j < ops.size := let ⟨_, o, ho, _⟩ := mem_ready.1 hj; (Array.getElem?_eq_some_iff.1 ho).1
    have hjn : (j == n) = false := by simp; omega
    refine wpOp_QN (wpOp_mono (fun a' w' h' => ?_) h)
    obtain ⟨h1, h2⟩ := h'
    simp only [hjn, Bool.or_self] at h1 h2
    exact ⟨fun _ => h1 trivial, wpAnyB_planC hsel hn hfin r _ a' w' (inv.set hj) hB.2 (h1 trivial) h2⟩
  | (i, 1) :: r, listed, a, w, inv, hB, hS, h => by
    simp only [planC, Bool.and_eq_true, Bool.or_eq_true, decide_eq_true_eq] at hB
    obtain ⟨⟨⟨⟨hr, hf⟩, hne⟩, hT⟩, hB'⟩ := hB
    obtain ⟨o, v, hi, hy, h'⟩ := h
    have hr' : i ∈ Region.ready md ops listed := by simpa using hr
    have e : ((i, 1) :: r).length + f = (r.length + f) + 1 := by simp only [List.length_cons]; omega
    rw [e]
    exact wpAnyB_first (T := S) hi (Region.noSelect_spec hsel) (fun _ _ _ h => h.elim) hne (.inl ⟨rfl, .inr hn⟩) (r.length + f) listed a w inv (Region.free_spec hi hf) hr' hy (fun _ => hS) (wpAnyB_planC hsel hn hfin r _ _ w (inv.set hr') hB' hS h')
  | (i, m + 2) :: r, listed, a, w, inv, hB, hS, h => by
    simp only [planC, Bool.and_eq_true, Bool.or_eq_true, decide_eq_true_eq] at hB
    obtain ⟨⟨⟨⟨hr, hf⟩, hne⟩, hT⟩, hB'⟩ := hB
    obtain ⟨o, v, hi, hy, h'⟩ := h
    have hr' : i ∈ Region.ready md ops listed := by simpa using hr
    have e : ((i, m + 2) :: r).length + f = (r.length + f) + 1 := by simp only [List.length_cons]; omega
    rw [e]
    exact wpAnyB_first (T := fun _ => True) hi (Region.noSelect_spec hsel) (fun _ _ _ h => h.elim) hne (.inr rfl) (r.length + f) listed a w inv (Region.free_spec hi hf) hr' hy (fun _ => hS) (wpAnyB_planC hsel hn hfin r _ _ w (inv.set hr') hB' hS h')
theorem wpAnyB_planT {md : Region.Mode} {K : Act → World → Prop} {S : World → Prop} {n : Nat} (hsel : Region.noSelect ops = true) (hn : ops.size ≤ n) : ∀ (t : PT) (listed : Array Bool) (a : Act) (w : World), Inv md ops listed →
    planT md ops n t listed = true → S w → wpT P ops K S n t a w → wpAnyB P md ops (QN K) S n t.len listed a w
  | .leaf pl, listed, a, w, inv, hB, hS, h => by
    have hl : listed.getD n false = false := by
      have : ¬ n < listed.size := by rw [inv.size]; omega
      simp [this]
    exact wpAnyB_plan hsel pl listed a w false inv hB hl (fun _ => hS) h
  | .two pl i t1 j t2, listed, a, w, inv, hB, hS, h => by
    refine wpAnyB_planC (f := 1 + t1.len) hsel hn ?_ pl listed a w inv hB hS h
    intro listed a w inv hfin hS ⟨h1, h2⟩
    simp only [Bool.and_eq_true, decide_eq_true_eq] at hfin
    obtain ⟨⟨⟨hr, hlen⟩, hB1⟩, hB2⟩ := hfin
    rw [Nat.add_comm]
    refine ⟨fun h0 => (by rw [h0] at hr; cases hr), fun k hk => ?_⟩
    have hin : k < ops.size := let ⟨_, o, ho, _⟩ := mem_ready.1 hk; (Array.getElem?_eq_some_iff.1 ho).1
    have hkn : (k == n) = false := by simp; omega
    have hk2 := hk
    rw [hr] at hk2
    simp only [List.mem_cons, List.not_mem_nil, or_false] at hk2
    rcases hk2 with rfl | rfl
    · refine wpOp_QN (wpOp_mono (fun a' w' h' => ?_) h1)
      obtain ⟨g1, g2⟩ := h'
      simp only [hkn, Bool.or_self] at g1 g2
      exact ⟨fun _ => g1 trivial, wpAnyB_planT hsel hn t1 _ a' w' (inv.set hk) hB1 (g1 trivial) g2⟩
    · refine wpOp_QN (wpOp_mono (fun a' w' h' => ?_) h2)
      obtain ⟨g1, g2⟩ := h'
      simp only [hkn, Bool.or_self] at g1 g2
      rw [hlen]
      exact ⟨fun _ => g1 trivial, wpAnyB_planT hsel hn t2 _ a' w' (inv.set hk) hB2 (g1 trivial) g2⟩
/-- the walk of a plan with ways -/
structure DT (P : Program) (W0 : World) (S : List HP) (n : Nat) (l : List Oper) (Q : Exit → Act → World → Prop) (t : PT) (L : List HP) (a : Act) : Prop where
  run : ∀ w, St W0 w L → wpT P l.toArray (fun a w => Q .normal a w) (fun w => St W0 w S) n t a w
theorem C_drawT {id n : Nat} {l : List Oper} (S : List HP) (t : PT) (hm : P.follows .mixedOrders = true)
    (hB : (Region.noSelect l.toArray && decide (t.len = l.length) && decide (l.length ≤ n) && planT .any l.toArray n t (Array.replicate l.toArray.size false)) = true) (hS : Sub L S) (h : DT P W0 S n l Q t L a) : CL P W0 L (.region id l.toArray true) Q a := by
  refine ⟨fun w s => ?_⟩
  simp only [Bool.and_eq_true, decide_eq_true_eq] at hB
  obtain ⟨⟨⟨h1, h2⟩, hnl⟩, h3⟩ := hB
  refine Code.wp_mono (Q := QN fun a w => Q .normal a w) (fun e a w he => ?_) (wp_region_any hm ?_)
  · cases e <;> first | exact he | exact he.elim
  · have inv : Inv .any l.toArray (Array.replicate l.toArray.size false) := ⟨by simp, fun j oj _ hl => by
      exfalso
      by_cases hj : j < l.toArray.size
      · simp at hl; rename_i x; simp at hj; simp [hj] at hl
      · simp at hl; simp at hj; have : ¬ j < l.length := by omega
        simp [this] at hl⟩
    have s' : St W0 w.drew L := s.drew
    have := wpAnyB_planT (P := P) (K := fun a w => Q .normal a w) (S := fun w => St W0 w S) h1 (by simpa using hnl) t _ a w.drew inv h3 (hS.st s') (h.run _ s')
    rw [h2] at this
    exact wpAny_of_B _ _ _ _ (by simpa using this)
theorem DT_leaf {n : Nat} {l : List Oper} {pl : List (Nat × Nat)} (k : DL P W0 S n l Q false pl L a) : DT P W0 S n l Q (.leaf pl) L a := ⟨k.run⟩
/-- where two ways part -/
def QB (P : Program) (W0 : World) (S : List HP) (n : Nat) (l : List Oper) (Q : Exit → Act → World → Prop) (i : Nat) (t1 : PT) (j : Nat) (t2 : PT) : Exit → Act → World → Prop :=
  QN fun a w => wpPl P l.toArray (wpT P l.toArray (fun a w => Q .normal a w) (fun w => St W0 w S) n t1) (fun w => St W0 w S) n false [(i, 0)] a w ∧ wpPl P l.toArray (wpT P l.toArray (fun a w => Q .normal a w) (fun w => St W0 w S) n t2) (fun w => St W0 w S) n false [(j, 0)] a w
/-- where a way goes on -/
def QD (P : Program) (W0 : World) (S : List HP) (n : Nat) (l : List Oper) (Q : Exit → Act → World → Prop) (t : PT) : Exit → Act → World → Prop :=
  QN (wpT P l.toArray (fun a w => Q .normal a w) (fun w => St W0 w S) n t)
theorem DT_two {n : Nat} {l : List Oper} {pl : List (Nat × Nat)} {i j : Nat} {t1 t2 : PT} (k : DL P W0 S n l (QB P W0 S n l Q i t1 j t2) false pl L a) : DT P W0 S n l Q (.two pl i t1 j t2) L a := ⟨k.run⟩
theorem E_two {n : Nat} {l : List Oper} {i j : Nat} {t1 t2 : PT} (k1 : DL P W0 S n l (QD P W0 S n l Q t1) false [(i, 0)] L a) (k2 : DL P W0 S n l (QD P W0 S n l Q t2) false [(j, 0)] L a) : EL W0 L (QB P W0 S n l Q i t1 j t2) .normal a :=
  ⟨fun w s => ⟨k1.run w s, k2.run w s⟩⟩
theorem E_way {n : Nat} {l : List Oper} {t : PT} (k : DT P W0 S n l Q t L a) : EL W0 L (QD P W0 S n l Q t) .normal a := ⟨k.run⟩
end
end Go.Proofs.Ythbgmnoaaohbcaa
