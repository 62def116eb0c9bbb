/-
  Walks of the reference 36: Decode.
-/
import Derived.Test.YthbgmnoaaohbcaaMQ
import Derived.Test.YthbgmnoaaohbcaaMR
import Derived.Test.YthbgmnoaaohbcaaMS
namespace Go.Proofs.Ythbgmnoaaohbcaa
open Go Go.RowKit
set_option linter.unusedVariables false
set_option linter.unusedSimpArgs false
set_option maxRecDepth 20000
set_option synthInstance.maxSize 100000
set_option synthInstance.maxHeartbeats 400000
theorem rEnd_e {b : List UInt8} {e : Int} (h : e ≠ 0) : rEnd (b, e) = e := by unfold rEnd; rw [if_neg]; exact fun hh => h hh.1
theorem rEnd_kp {bs b b' : List UInt8} {e : Int} (h : Kp bs b b' e) : rEnd (b', e) = rEnd (b, e) := by
  by_cases he : e = 0
  · rw [h.1 he]
  · rw [rEnd_e he, rEnd_e he]
theorem rEnd_z {b : List UInt8} {e : Int} (h : rEnd (b, e) = 0) : e = 0 := by
  by_cases he : e = 0
  · exact he
  · rw [rEnd_e he] at h; exact h
/-- reads after a kept reader -/
theorem rU_kp {bs b b' : List UInt8} {e : Int} (h : Kp bs b b' e) {m : Nat} {c : List UInt8} {f : Int} (hr : rU (b, e) = (m, (c, f))) : ∃ m' c', rU (b', e) = (m', (c', f)) ∧ (f = 0 → m' = m ∧ c' = c) ∧ (f = 0 → e = 0) := by
  by_cases he : e = 0
  · rw [h.1 he]
    exact ⟨m, c, hr, fun _ => ⟨rfl, rfl⟩, fun _ => he⟩
  · rw [rU_err he] at hr
    simp only [Prod.mk.injEq] at hr
    obtain ⟨rfl, rfl, rfl⟩ := hr
    exact ⟨0, b', by rw [rU_err he], fun h => absurd h he, fun h => h⟩
theorem rI_kp {bs b b' : List UInt8} {e : Int} (h : Kp bs b b' e) {m : Int} {c : List UInt8} {f : Int} (hr : rI (b, e) = (m, (c, f))) : ∃ m' c', rI (b', e) = (m', (c', f)) ∧ (f = 0 → m' = m ∧ c' = c) ∧ (f = 0 → e = 0) := by
  unfold rI at hr ⊢
  simp only [Prod.mk.injEq] at hr
  obtain ⟨h1, h2⟩ := hr
  obtain ⟨m', c', h3, h4, h5⟩ := rU_kp h (m := (rU (b, e)).1) (c := c) (f := f) (by rw [← h2])
  refine ⟨unzig m', c', by rw [h3], fun hf => ?_, h5⟩
  obtain ⟨h6, h7⟩ := h4 hf
  rw [h6]
  exact ⟨h1, h7⟩
theorem rRaw_kp {bs b b' : List UInt8} {e : Int} (h : Kp bs b b' e) {m c : List UInt8} {f : Int} (hr : rList rNext (b, e) = (m, (c, f))) : ∃ m' c', rList rNext (b', e) = (m', (c', f)) ∧ (f = 0 → m' = m ∧ c' = c) ∧ (f = 0 → e = 0) := by
  by_cases he : e = 0
  · rw [h.1 he]
    exact ⟨m, c, hr, fun _ => ⟨rfl, rfl⟩, fun _ => he⟩
  · have hu : ∀ x : List UInt8, rU (x, e) = (0, (x, e)) := fun x => rU_err he
    obtain ⟨m', c', f', hr'⟩ : ∃ m' c' f', rList rNext (b', e) = (m', (c', f')) := ⟨_, _, _, rfl⟩
    have e1 : f = e := by
      rcases rList_cases (hu b) hr with ⟨_, _, h⟩ | ⟨h, _⟩ | ⟨h, _⟩
      · exact h
      · exact absurd h he
      · exact absurd h he
    have e2 : f' = e := by
      rcases rList_cases (hu b') hr' with ⟨_, _, h⟩ | ⟨h, _⟩ | ⟨h, _⟩
      · exact h
      · exact absurd h he
      · exact absurd h he
    subst e1 e2
    exact ⟨m', c', hr', fun h => absurd h he, fun h => h⟩
section
variable {W0 : World} {L : List HP}
theorem fDecode_ct {v : Value} {b x : List UInt8} {e s a : Int} (hv : rd eB v b ∈ L) (hl : b.length ≤ 1000000) (h : decP b = (e, s, a, x)) :
    CT Try.prog 33 #[v] W0 L fun r L' => ∃ A c, r = .tuple #[.agg #[.int .i64 s, .int .i64 a, .slice A x.length c], .int .i64 e] ∧ L' = rd eB (.slice A x.length c) x :: L := by
  obtain ⟨core, b1, e1, hr1⟩ : ∃ core b1 e1, rList rNext (b, 0) = (core, (b1, e1)) := ⟨_, _, _, rfl⟩
  have hcore : core.length ≤ 1000000 := by have := rRaw_len (b, 0); rw [hr1] at this; dsimp only at this; omega
  obtain ⟨m, b2, e2, hr2⟩ : ∃ m b2 e2, rU (b1, e1) = (m, (b2, e2)) := ⟨_, _, _, rfl⟩
  obtain ⟨q1, c1, f1, hr3⟩ : ∃ q1 c1 f1, rI (core, 0) = (q1, (c1, f1)) := ⟨_, _, _, rfl⟩
  have hc1 : c1.length ≤ 1000000 := by have := rI_len (core, 0); rw [hr3] at this; dsimp only at this; omega
  obtain ⟨q2, c2, f2, hr4⟩ : ∃ q2 c2 f2, rI (c1, f1) = (q2, (c2, f2)) := ⟨_, _, _, rfl⟩
  obtain ⟨y, c3, f3, hr5⟩ : ∃ y c3 f3, rList rNext (c2, f2) = (y, (c3, f3)) := ⟨_, _, _, rfl⟩
  obtain ⟨bw, hbw⟩ : ∃ bw, bytesW lblP.data.toList core = bw := ⟨_, rfl⟩
  unfold decP at h
  rw [hr1] at h
  dsimp only at h
  rw [hr2, hr3, hbw] at h
  dsimp only at h
  rw [hr4] at h
  dsimp only at h
  rw [hr5] at h
  dsimp only at h
  refine CT_fact (fun w s => ((Src.sl (.inl hv) s).form)) ?_
  rintro ⟨Aa, ca, rfl, hca⟩
  refine CT_enter Try.func33 rfl ?_; (simp only [Try.ntmps33, List.size_toArray, List.length_cons, List.length_nil, Nat.reduceAdd, Nat.reduceSub, Array.replicate_succ, Array.replicate_zero, List.push_toArray, List.append_toArray, List.nil_append, List.cons_append])
  refine C_sub (sub_dup hv) ?_
  repeat' (first | refine go ?_ | intro _ | (apply cG; first | refine cT ?_ | refine cF ?_ | refine cS (fun _ => ?_) fun _ => ?_) | (apply gW; refine sW ?_) | (apply gI; refine sI ?_) | (apply gE; refine sE ?_) | (apply gP; refine sP ?_) | (apply gC; refine sC ?_) | (apply gD; refine sD ?_) | fail)
  rename_i p0 p1
  refine O_sub (S := cel p1 [.slice Aa b.length ca, .int .i64 0] 99 :: rd eB (.slice Aa b.length ca) b :: cel p0 [.int .i64 0, .int .i64 0, .slice none 0 0] 40 :: L) Sb ?_
  refine O_sub fr_sub ?_
  refine O_d (dy_call ArgsI.pf (by first | exact rfl | trivial | (intro a b; rfl)) (fRawR_ct hr1 (by omega))) ?_; rintro _ _ ⟨_, ⟨b1', A1, k1, hk1, rfl, rfl⟩, rfl⟩; refine O_n ?_
  obtain ⟨m', b2', hu, hum, hue⟩ := rU_kp hk1 hr2
  repeat' (first | refine go ?_ | intro _ | (apply cG; first | refine cT ?_ | refine cF ?_ | refine cS (fun _ => ?_) fun _ => ?_) | (apply gW; refine sW ?_) | (apply gI; refine sI ?_) | (apply gE; refine sE ?_) | (apply gP; refine sP ?_) | (apply gC; refine sC ?_) | (apply gD; refine sD ?_) | fail)
  refine O_d (dy_call ArgsI.pf (by first | exact rfl | trivial | (intro a b; rfl)) (CT.pull (i := 1) (by rfl) (fU_ct hu (by have := hk1.2; omega)))) ?_; rintro _ _ ⟨_, ⟨b2'', hk2, rfl, rfl⟩, rfl⟩; refine O_n ?_
  repeat' (first | refine go ?_ | intro _ | (apply cG; first | refine cT ?_ | refine cF ?_ | refine cS (fun _ => ?_) fun _ => ?_) | (apply gW; refine sW ?_) | (apply gI; refine sI ?_) | (apply gE; refine sE ?_) | (apply gP; refine sP ?_) | (apply gC; refine sC ?_) | (apply gD; refine sD ?_) | fail)
  refine O_d (dy_call ArgsI.pf (by first | exact rfl | trivial | (intro a b; rfl)) (fEnd_ct (by have := hk1.2; have := hk2.2; omega))) ?_; rintro _ _ ⟨_, ⟨rfl, rfl⟩, rfl⟩; refine O_n ?_
  have hend : rEnd (b2'', e2) = rEnd (b2, e2) := (rEnd_kp hk2).trans (by
    by_cases h2 : e2 = 0
    · rw [(hum h2).2]
    · rw [rEnd_e h2, rEnd_e h2])
  obtain ⟨x1, hx1⟩ : ∃ x1, rEnd (b2, e2) = x1 := ⟨_, rfl⟩
  rw [hend, hx1]
  rw [hx1] at h
  by_cases hz : x1 ≠ 0
  · rw [if_pos hz] at h
    simp only [Prod.mk.injEq] at h
    obtain ⟨rfl, rfl, rfl, rfl⟩ := h
    repeat' (first | refine go ?_ | intro _ | (apply cG; first | refine cT ?_ | refine cF ?_ | refine cS (fun _ => ?_) fun _ => ?_) | (apply gW; refine sW ?_) | (apply gI; refine sI ?_) | (apply gE; refine sE ?_) | (apply gP; refine sP ?_) | (apply gC; refine sC ?_) | (apply gD; refine sD ?_) | fail)
    refine E_rdnil eB none 0 ?_
    refine E_res2 (by rfl) (by rfl) ⟨none, 0, rfl, rfl⟩ Sb
  rw [if_neg hz] at h
  have he2 : e2 = 0 := rEnd_z (by rw [hx1]; omega)
  obtain ⟨rfl, _⟩ := hum he2
  repeat' (first | refine go ?_ | intro _ | (apply cG; first | refine cT ?_ | refine cF ?_ | refine cS (fun _ => ?_) fun _ => ?_) | (apply gW; refine sW ?_) | (apply gI; refine sI ?_) | (apply gE; refine sE ?_) | (apply gP; refine sP ?_) | (apply gC; refine sC ?_) | (apply gD; refine sD ?_) | fail)
  refine O_d (dy_call ArgsI.pf (by first | exact rfl | trivial | (intro a b; rfl)) (rBytes_ct (s := lblP) (l := core) Sc.pf (by decide) (by omega) hbw)) ?_; rintro _ _ ⟨_, ⟨rfl, hLL⟩, rfl⟩; replace hLL := hLL.symm; subst hLL; refine O_n ?_
  by_cases hs : m' ≠ bw.toNat
  · rw [if_pos hs] at h
    simp only [Prod.mk.injEq] at h
    obtain ⟨rfl, rfl, rfl, rfl⟩ := h
    repeat' (first | refine go ?_ | intro _ | (apply cG; first | refine cT ?_ | refine cF ?_ | refine cS (fun _ => ?_) fun _ => ?_) | (apply gW; refine sW ?_) | (apply gI; refine sI ?_) | (apply gE; refine sE ?_) | (apply gP; refine sP ?_) | (apply gC; refine sC ?_) | (apply gD; refine sD ?_) | fail)
    refine E_rdnil eB none 0 ?_
    refine E_res2 (by rfl) (by rfl) ⟨none, 0, rfl, rfl⟩ Sb
  rw [if_neg hs] at h
  repeat' (first | refine go ?_ | intro _ | (apply cG; first | refine cT ?_ | refine cF ?_ | refine cS (fun _ => ?_) fun _ => ?_) | (apply gW; refine sW ?_) | (apply gI; refine sI ?_) | (apply gE; refine sE ?_) | (apply gP; refine sP ?_) | (apply gC; refine sC ?_) | (apply gD; refine sD ?_) | fail)
  rename_i p2
  refine O_sub (S := cel p2 [.slice A1 core.length k1, .int .i64 0] 99 :: rd eB (.slice A1 core.length k1) core :: cel p0 [.int .i64 0, .int .i64 0, .slice none 0 0] 40 :: L) Sb ?_
  refine O_sub fr_sub ?_
  refine O_d (dy_call ArgsI.pf (by first | exact rfl | trivial | (intro a b; rfl)) (fI_ct hr3 (by omega))) ?_; rintro _ _ ⟨_, ⟨c1', hk3, rfl, rfl⟩, rfl⟩; refine O_n ?_
  repeat' (first | refine go ?_ | intro _ | (apply cG; first | refine cT ?_ | refine cF ?_ | refine cS (fun _ => ?_) fun _ => ?_) | (apply gW; refine sW ?_) | (apply gI; refine sI ?_) | (apply gE; refine sE ?_) | (apply gP; refine sP ?_) | (apply gC; refine sC ?_) | (apply gD; refine sD ?_) | fail)
  obtain ⟨q2', c2', hu4, hum4, hue4⟩ := rI_kp hk3 hr4
  refine O_d (dy_call ArgsI.pf (by first | exact rfl | trivial | (intro a b; rfl)) (CT.pull (i := 1) (by rfl) (fI_ct hu4 (by have := hk3.2; omega)))) ?_; rintro _ _ ⟨_, ⟨c2'', hk4, rfl, rfl⟩, rfl⟩; refine O_n ?_
  repeat' (first | refine go ?_ | intro _ | (apply cG; first | refine cT ?_ | refine cF ?_ | refine cS (fun _ => ?_) fun _ => ?_) | (apply gW; refine sW ?_) | (apply gI; refine sI ?_) | (apply gE; refine sE ?_) | (apply gP; refine sP ?_) | (apply gC; refine sC ?_) | (apply gD; refine sD ?_) | fail)
  have hk4' : Kp c1' c2 c2'' f2 := ⟨fun h => by rw [← (hum4 h).2]; exact hk4.1 h, hk4.2⟩
  obtain ⟨y', c3', hu5, hum5, hue5⟩ := rRaw_kp hk4' hr5
  refine O_d (dy_call ArgsI.pf (by first | exact rfl | trivial | (intro a b; rfl)) (fRawR_ct hu5 (by have := hk3.2; have := hk4.2; omega))) ?_; rintro _ _ ⟨_, ⟨c3'', A2, k2, hk5, rfl, rfl⟩, rfl⟩; refine O_n ?_
  repeat' (first | refine go ?_ | intro _ | (apply cG; first | refine cT ?_ | refine cF ?_ | refine cS (fun _ => ?_) fun _ => ?_) | (apply gW; refine sW ?_) | (apply gI; refine sI ?_) | (apply gE; refine sE ?_) | (apply gP; refine sP ?_) | (apply gC; refine sC ?_) | (apply gD; refine sD ?_) | fail)
  obtain ⟨q, hq⟩ : ∃ q, okP q1 q2' y' = q := ⟨_, rfl⟩
  refine O_d (dy_call ArgsI.pf (by first | exact rfl | trivial | (intro a b; rfl)) (fValid_ct (b := y') (s := q1) (a := q2') (q := q) Sc.pf hq)) ?_; rintro _ _ ⟨_, ⟨rfl, hLL⟩, rfl⟩; replace hLL := hLL.symm; subst hLL; refine O_n ?_
  repeat' (first | refine go ?_ | intro _ | (apply cG; first | refine cT ?_ | refine cF ?_ | refine cS (fun _ => ?_) fun _ => ?_) | (apply gW; refine sW ?_) | (apply gI; refine sI ?_) | (apply gE; refine sE ?_) | (apply gP; refine sP ?_) | (apply gC; refine sC ?_) | (apply gD; refine sD ?_) | fail)
  refine O_d (dy_call ArgsI.pf (by first | exact rfl | trivial | (intro a b; rfl)) (CT.pull (i := 1) (by rfl) (fEnd_ct (by have := hk3.2; have := hk4.2; have := hk5.2; omega)))) ?_; rintro _ _ ⟨_, ⟨rfl, rfl⟩, rfl⟩; refine O_n ?_
  have hend2 : rEnd (c3'', f3) = rEnd (c3, f3) := (rEnd_kp hk5).trans (by
    by_cases h2 : f3 = 0
    · rw [(hum5 h2).2]
    · rw [rEnd_e h2, rEnd_e h2])
  obtain ⟨x2, hx2⟩ : ∃ x2, rEnd (c3, f3) = x2 := ⟨_, rfl⟩
  rw [hend2, hx2]
  rw [hx2] at h
  by_cases hz2 : x2 ≠ 0
  · rw [if_pos hz2] at h
    simp only [Prod.mk.injEq] at h
    obtain ⟨rfl, rfl, rfl, rfl⟩ := h
    repeat' (first | refine go ?_ | intro _ | (apply cG; first | refine cT ?_ | refine cF ?_ | refine cS (fun _ => ?_) fun _ => ?_) | (apply gW; refine sW ?_) | (apply gI; refine sI ?_) | (apply gE; refine sE ?_) | (apply gP; refine sP ?_) | (apply gC; refine sC ?_) | (apply gD; refine sD ?_) | fail)
    refine E_rdnil eB none 0 ?_
    refine E_res2 (by rfl) (by rfl) ⟨none, 0, rfl, rfl⟩ Sb
  rw [if_neg hz2] at h
  have hf3 : f3 = 0 := rEnd_z (by rw [hx2]; omega)
  obtain ⟨rfl, _⟩ := hum5 hf3
  obtain ⟨rfl, _⟩ := hum4 (hue5 hf3)
  rw [hq] at h
  cases q
  · rw [if_pos rfl] at h
    simp only [Prod.mk.injEq] at h
    obtain ⟨rfl, rfl, rfl, rfl⟩ := h
    repeat' (first | refine go ?_ | intro _ | (apply cG; first | refine cT ?_ | refine cF ?_ | refine cS (fun _ => ?_) fun _ => ?_) | (apply gW; refine sW ?_) | (apply gI; refine sI ?_) | (apply gE; refine sE ?_) | (apply gP; refine sP ?_) | (apply gC; refine sC ?_) | (apply gD; refine sD ?_) | fail)
    refine E_rdnil eB none 0 ?_
    refine E_res2 (by rfl) (by rfl) ⟨none, 0, rfl, rfl⟩ Sb
  · rw [if_neg (by decide)] at h
    simp only [Prod.mk.injEq] at h
    obtain ⟨rfl, rfl, rfl, rfl⟩ := h
    repeat' (first | refine go ?_ | intro _ | (apply cG; first | refine cT ?_ | refine cF ?_ | refine cS (fun _ => ?_) fun _ => ?_) | (apply gW; refine sW ?_) | (apply gI; refine sI ?_) | (apply gE; refine sE ?_) | (apply gP; refine sP ?_) | (apply gC; refine sC ?_) | (apply gD; refine sD ?_) | fail)
    refine E_res2 (by rfl) (by rfl) ⟨_, _, rfl, rfl⟩ Sb
end
end Go.Proofs.Ythbgmnoaaohbcaa
namespace Go.Proofs.Ythbgmnoaaohbcaa
open Go Go.RowKit
set_option linter.unusedVariables false
set_option linter.unusedSimpArgs false
set_option maxRecDepth 20000
set_option synthInstance.maxSize 100000
set_option synthInstance.maxHeartbeats 400000
section
variable {W0 : World} {L : List HP}
theorem fNew_ct {w : Int} (h1 : 1 ≤ w) (h2 : w ≤ 16) : CT Try.prog 11 #[.int .i64 w] W0 L fun r L' => ∃ p, r = .tuple #[.pointer (some ⟨p, 0, none⟩), .bool true] ∧ L' = cel p [.int .i64 w, .slice none 0 0, .int .i64 0, .int .i64 0, .slice none 0 0, .bool false] 50 :: L := by
  refine CT_enter Try.func11 rfl ?_; (simp only [Try.ntmps11, List.size_toArray, List.length_cons, List.length_nil, Nat.reduceAdd, Nat.reduceSub, Array.replicate_succ, Array.replicate_zero, List.push_toArray, List.append_toArray, List.nil_append, List.cons_append])
  repeat' (first | refine go ?_ | intro _ | (apply cG; first | refine cT ?_ | refine cF ?_ | refine cS (fun _ => ?_) fun _ => ?_) | (apply gW; refine sW ?_) | (apply gI; refine sI ?_) | (apply gE; refine sE ?_) | (apply gP; refine sP ?_) | (apply gC; refine sC ?_) | (apply gD; refine sD ?_) | fail)
  refine E_res2 (by rfl) (by rfl) ⟨_, rfl, rfl⟩ Sb
end
end Go.Proofs.Ythbgmnoaaohbcaa
namespace Go.Proofs.Ythbgmnoaaohbcaa
open Go Go.RowKit
set_option linter.unusedVariables false
set_option linter.unusedSimpArgs false
set_option maxRecDepth 20000
set_option synthInstance.maxSize 100000
set_option synthInstance.maxHeartbeats 400000
/-- pointers to ends -/
def pv (p : Nat) : Value := .pointer (some ⟨p, 0, none⟩)
def ePt : Enc Nat := e1 pv fun _ => rfl
instance : Sz ePt 1 := ⟨rfl⟩
instance {p : Nat} : EncC ePt p [.pointer (some ⟨p, 0, none⟩)] := ⟨fun _ _ h => h⟩
theorem tdiv_bd {n d : Int} (hd : 1 ≤ d) (h1 : -9223372036854775808 ≤ n) (h2 : n ≤ 9223372036854775807) : -9223372036854775808 ≤ n.tdiv d ∧ n.tdiv d ≤ 9223372036854775807 := by
  rcases Int.le_total 0 n with h | h
  · have h3 := Int.tdiv_nonneg (b := d) h (by omega)
    have h4 : n.tdiv d ≤ n := by rw [Int.tdiv_eq_ediv_of_nonneg h]; exact Int.ediv_le_self d h
    omega
  · have e : n.tdiv d = -((-n).tdiv d) := by rw [Int.neg_tdiv, Int.neg_neg]
    have h3 := Int.tdiv_nonneg (a := -n) (b := d) (by omega) (by omega)
    have h4 : (-n).tdiv d ≤ -n := by rw [Int.tdiv_eq_ediv_of_nonneg (by omega)]; exact Int.ediv_le_self d (by omega)
    omega
section
variable {W0 : World} {L : List HP}
theorem ends_ct {window : Int} (hw1 : -9223372036854775808 ≤ window) (hw2 : window ≤ 9223372036854775807) :
    CT Try.prog 10 #[.int .i64 window] W0 L fun r L' => ∃ g pa pb wa wb, (1 ≤ wa ∧ wa ≤ 16 ∧ 1 ≤ wb ∧ wb ≤ 16) ∧ wa = 1 + around window 16 ∧ wb = 1 + around (window.tdiv 16) 16 ∧ r = .slice (some ⟨g, 0, none⟩) 2 2 ∧ L' = rd ePt (.slice (some ⟨g, 0, none⟩) 2 2) [pa, pb] :: ende pa ⟨wa, 0, 0, [], [], false⟩ :: ende pb ⟨wb, 0, 0, [], [], false⟩ :: L := by
  have ha := around_in (n := window) (most := 16) (by decide)
  have hb := around_in (n := window.tdiv 16) (most := 16) (by decide)
  have hq1 : -9223372036854775808 ≤ window.tdiv 16 ∧ window.tdiv 16 ≤ 9223372036854775807 := by
    exact tdiv_bd (by decide) hw1 hw2
  have hq : IntKind.i64.wrap (window.tdiv 16) = window.tdiv 16 := wr_i64 (by omega) (by omega)
  obtain ⟨wa, hwa⟩ : ∃ wa, 1 + around window 16 = wa := ⟨_, rfl⟩
  obtain ⟨wb, hwb⟩ : ∃ wb, 1 + around (window.tdiv 16) 16 = wb := ⟨_, rfl⟩
  refine CT_enter Try.func10 rfl ?_; (simp only [Try.ntmps10, List.size_toArray, List.length_cons, List.length_nil, Nat.reduceAdd, Nat.reduceSub, Array.replicate_succ, Array.replicate_zero, List.push_toArray, List.append_toArray, List.nil_append, List.cons_append])
  repeat' (first | refine go ?_ | intro _ | (apply cG; first | refine cT ?_ | refine cF ?_ | refine cS (fun _ => ?_) fun _ => ?_) | (apply gW; refine sW ?_) | (apply gI; refine sI ?_) | (apply gE; refine sE ?_) | (apply gP; refine sP ?_) | (apply gC; refine sC ?_) | (apply gD; refine sD ?_) | fail)
  refine O_d (dy_call ArgsI.pf (by first | exact rfl | trivial | (intro a b; rfl)) (Around_ct (most := 16) hw1 hw2 (by decide) (by decide))) ?_; rintro _ _ ⟨_, ⟨rfl, hLL⟩, rfl⟩; replace hLL := hLL.symm; subst hLL; refine O_n ?_
  repeat' (first | refine go ?_ | intro _ | (apply cG; first | refine cT ?_ | refine cF ?_ | refine cS (fun _ => ?_) fun _ => ?_) | (apply gW; refine sW ?_) | (apply gI; refine sI ?_) | (apply gE; refine sE ?_) | (apply gP; refine sP ?_) | (apply gC; refine sC ?_) | (apply gD; refine sD ?_) | fail)
  rw [hwa]
  refine O_d (dy_call ArgsI.pf (by first | exact rfl | trivial | (intro a b; rfl)) (New_e (w := wa) (by omega) (by omega))) ?_; rintro _ _ ⟨_, ⟨pa, rfl, rfl⟩, rfl⟩; refine O_n ?_
  repeat' (first | refine go ?_ | intro _ | (apply cG; first | refine cT ?_ | refine cF ?_ | refine cS (fun _ => ?_) fun _ => ?_) | fail)
  apply gW; refine sW (r := window.tdiv 16) ?_ ⟨by decide, hq⟩
  repeat' (first | refine go ?_ | intro _ | (apply cG; first | refine cT ?_ | refine cF ?_ | refine cS (fun _ => ?_) fun _ => ?_) | (apply gW; refine sW ?_) | (apply gI; refine sI ?_) | (apply gE; refine sE ?_) | (apply gP; refine sP ?_) | (apply gC; refine sC ?_) | (apply gD; refine sD ?_) | fail)
  refine O_d (dy_call ArgsI.pf (by first | exact rfl | trivial | (intro a b; rfl)) (Around_ct (most := 16) hq1.1 hq1.2 (by decide) (by decide))) ?_; rintro _ _ ⟨_, ⟨rfl, hLL⟩, rfl⟩; replace hLL := hLL.symm; subst hLL; refine O_n ?_
  repeat' (first | refine go ?_ | intro _ | (apply cG; first | refine cT ?_ | refine cF ?_ | refine cS (fun _ => ?_) fun _ => ?_) | (apply gW; refine sW ?_) | (apply gI; refine sI ?_) | (apply gE; refine sE ?_) | (apply gP; refine sP ?_) | (apply gC; refine sC ?_) | (apply gD; refine sD ?_) | fail)
  rw [hwb]
  refine O_d (dy_call ArgsI.pf (by first | exact rfl | trivial | (intro a b; rfl)) (New_e (w := wb) (by omega) (by omega))) ?_; rintro _ _ ⟨_, ⟨pb, rfl, rfl⟩, rfl⟩; refine O_n ?_
  repeat' (first | refine go ?_ | intro _ | (apply cG; first | refine cT ?_ | refine cF ?_ | refine cS (fun _ => ?_) fun _ => ?_) | (apply gW; refine sW ?_) | (apply gI; refine sI ?_) | (apply gE; refine sE ?_) | (apply gP; refine sP ?_) | (apply gC; refine sC ?_) | (apply gD; refine sD ?_) | fail)
  refine O_d (dy_litP (f := pv) (hf := fun _ => rfl) [pa, pb] (by rfl)) ?_; rintro _ _ ⟨_, rfl, rfl⟩; refine O_n ?_
  refine O_frz 0 ?_
  repeat' (first | refine go ?_ | intro _ | (apply cG; first | refine cT ?_ | refine cF ?_ | refine cS (fun _ => ?_) fun _ => ?_) | (apply gW; refine sW ?_) | (apply gI; refine sI ?_) | (apply gE; refine sE ?_) | (apply gP; refine sP ?_) | (apply gC; refine sC ?_) | (apply gD; refine sD ?_) | fail)
  rename_i g
  exact E_res1 (by rfl) (by rfl) ⟨g, pa, pb, wa, wb, ⟨by omega, by omega, by omega, by omega⟩, by first | rfl | exact hwa.symm, by first | rfl | exact hwb.symm, rfl, rfl⟩ Sb
end
end Go.Proofs.Ythbgmnoaaohbcaa
namespace Go.Proofs.Ythbgmnoaaohbcaa
open Go Go.RowKit
set_option linter.unusedVariables false
set_option linter.unusedSimpArgs false
theorem posM_mem {α : Type} {k : Int} {l : List (Int × α)} {q : Nat × α} (h : posM k l 0 = some q) : l[q.1]? = some (k, q.2) := by
  simpa using (posM_lt h).2.2
theorem erase_map {α β : Type} (f : α → β) : ∀ (l : List α) (n : Nat), (l.eraseIdx n).map f = (l.map f).eraseIdx n
  | [], _ => rfl
  | _ :: _, 0 => rfl
  | a :: l, n + 1 => by
    show f a :: (l.eraseIdx n).map f = f a :: (l.map f).eraseIdx n
    rw [erase_map f l n]
def KU {α : Type} (h : List (Int × α)) : Prop := (h.map Prod.fst).Nodup
theorem mem_eraseIdx_ne {α : Type} : ∀ {l : List α} {n : Nat} {x y : α}, l.Nodup → l[n]? = some x → y ∈ l.eraseIdx n → y ∈ l ∧ y ≠ x
  | [], n, x, y, _, h, _ => by simp at h
  | a :: l, 0, x, y, hn, h, hy => by
    simp at h hy
    subst h
    refine ⟨.tail _ hy, fun e => ?_⟩
    subst e
    exact (List.nodup_cons.1 hn).1 hy
  | a :: l, n + 1, x, y, hn, h, hy => by
    simp at h hy
    obtain ⟨h1, h2⟩ := List.nodup_cons.1 hn
    rcases hy with rfl | hy
    · refine ⟨.head _, fun e => ?_⟩
      subst e
      exact h1 (List.mem_of_getElem? h)
    · obtain ⟨h3, h4⟩ := mem_eraseIdx_ne h2 h hy
      exact ⟨.tail _ h3, h4⟩
theorem delM_mem {α : Type} {k : Int} {l : List (Int × α)} {q : Nat × α} (hu : KU l) (hp : posM k l 0 = some q) {p : Int × α} (h : p ∈ delM k l) : p ∈ l ∧ p.1 ≠ k := by
  have hq := posM_mem hp
  unfold delM at h
  rw [hp] at h
  dsimp only at h
  refine ⟨List.mem_of_mem_eraseIdx h, ?_⟩
  have h1 : p.1 ∈ (l.map Prod.fst).eraseIdx q.1 := by
    rw [← erase_map]
    exact List.mem_map.2 ⟨p, h, rfl⟩
  have h2 : (l.map Prod.fst)[q.1]? = some k := by rw [List.getElem?_map, hq]; rfl
  exact (mem_eraseIdx_ne hu h2 h1).2
theorem KU_del {α : Type} {k : Int} {l : List (Int × α)} (hu : KU l) : KU (delM k l) := by
  unfold delM
  split
  · unfold KU
    rw [erase_map]
    exact hu.sublist (List.eraseIdx_sublist _ _)
  · exact hu
theorem KU_add {α : Type} {k : Int} {x : α} {l : List (Int × α)} (hu : KU l) (hn : posM k l 0 = none) : KU (l ++ [(k, x)]) := by
  have h := posM_none.1 hn
  unfold KU at hu ⊢
  rw [List.map_append]
  refine List.nodup_append.2 ⟨hu, by simp, fun a ha b hb => ?_⟩
  simp at hb
  subst hb
  obtain ⟨p, hp, rfl⟩ := List.mem_map.1 ha
  exact h p hp
/-- what is held are later messages of S, each once -/
structure HeldOk (S : List (List UInt8)) (g : Int) (h : List (Int × SB)) : Prop where
  u : KU h
  m : ∀ p ∈ h, g < p.1 ∧ p.1 ≤ S.length ∧ S[(p.1 - 1).toNat]? = some p.2.b
theorem drain_ok {S : List (List UInt8)} : ∀ (n : Nat) (g : Int) (h : List (Int × SB)), HeldOk S g h → 0 ≤ g → g ≤ S.length →
    HeldOk S (drain n g h).1 (drain n g h).2.1 ∧ (drain n g h).1 = g + (drain n g h).2.2.length ∧ (drain n g h).1 ≤ S.length ∧ (drain n g h).2.1.length ≤ h.length ∧ ∀ j, j < (drain n g h).2.2.length → (drain n g h).2.2[j]? = S[g.toNat + j]?
  | 0, g, h, hk, h0, h1 => ⟨hk, by simp [drain], h1, Nat.le_refl _, fun j hj => by simp [drain] at hj⟩
  | n + 1, g, h, hk, h0, h1 => by
    cases hp : posM (g + 1) h 0 with
    | none =>
      rw [drain_none hp]
      exact ⟨hk, by simp, h1, Nat.le_refl _, fun j hj => by simp at hj⟩
    | some q =>
      have hq := hk.m _ (List.mem_of_getElem? (posM_mem hp))
      dsimp only at hq
      have hk2 : HeldOk S (g + 1) (delM (g + 1) h) := ⟨KU_del hk.u, fun p hp2 => by
        obtain ⟨m1, m2⟩ := delM_mem hk.u hp hp2
        obtain ⟨a1, a2, a3⟩ := hk.m p m1
        exact ⟨by omega, a2, a3⟩⟩
      have hl := delM_len hp
      obtain ⟨b1, b2, b3, b4, b5⟩ := drain_ok n (g + 1) (delM (g + 1) h) hk2 (by omega) (by omega)
      rw [drain_some hp]
      refine ⟨b1, ?_, b3, by dsimp only; omega, fun j hj => ?_⟩
      · dsimp only
        rw [b2, List.length_cons]
        push_cast
        omega
      · cases j with
        | zero =>
          have : (g + 1 - 1).toNat = g.toNat + 0 := by omega
          rw [← this, hq.2.2]
          rfl
        | succ j =>
          rw [List.length_cons] at hj
          have := b5 j (by omega)
          rw [List.getElem?_cons_succ, this]
          congr 1
          omega
/-- an end that sent S, and receives T -/
structure EOk (S T : List (List UInt8)) (e : PE) : Prop where
  wait : e.wait = S.drop e.acked.toNat
  a0 : 0 ≤ e.acked
  a1 : e.acked ≤ S.length
  g0 : 0 ≤ e.got
  g1 : e.got ≤ T.length
  held : HeldOk T e.got e.held
/-- a packet of the end that sends T, which had received A messages at most -/
structure POk (T : List (List UInt8)) (A : Int) (s a : Int) (b : List UInt8) : Prop where
  s : (s = 0 ∧ b = []) ∨ (1 ≤ s ∧ s ≤ T.length ∧ T[(s - 1).toNat]? = some b)
  a0 : 0 ≤ a
  a1 : a ≤ A
theorem POk.mono {T : List (List UInt8)} {A A' s a : Int} {b : List UInt8} (h : POk T A s a b) (hA : A ≤ A') : POk T A' s a b := ⟨h.s, h.a0, Int.le_trans h.a1 hA⟩
theorem POk.snoc {T : List (List UInt8)} {A s a : Int} {b x : List UInt8} (h : POk T A s a b) : POk (T ++ [x]) A s a b := ⟨by
  rcases h.s with h | ⟨h1, h2, h3⟩
  · exact .inl h
  · have hl := (List.getElem?_eq_some_iff.1 h3).1
    exact .inr ⟨h1, by rw [List.length_append]; push_cast; omega, by rw [List.getElem?_append_left hl]; exact h3⟩, h.a0, h.a1⟩
theorem HeldOk.snoc {S : List (List UInt8)} {g : Int} {h : List (Int × SB)} {x : List UInt8} (k : HeldOk S g h) : HeldOk (S ++ [x]) g h := ⟨k.u, fun p hp => by
  obtain ⟨a, b, c⟩ := k.m p hp
  have hl := (List.getElem?_eq_some_iff.1 c).1
  exact ⟨a, by rw [List.length_append]; push_cast; omega, by rw [List.getElem?_append_left hl]; exact c⟩⟩
theorem inP_ok {S T : List (List UInt8)} {e : PE} {A s a : Int} {x : SB} (he : EOk S T e) (hp : POk T A s a x.b) (hA : e.acked ≤ A) (hAS : A ≤ S.length) :
    EOk S T (inP e s a x).1 ∧ (inP e s a x).1.got = e.got + (inP e s a x).2.length ∧ (inP e s a x).1.acked ≤ A ∧ (inP e s a x).1.w = e.w ∧ (inP e s a x).1.held.length ≤ e.held.length + 1 ∧ ∀ j, j < (inP e s a x).2.length → (inP e s a x).2[j]? = T[e.got.toNat + j]? := by
  unfold inP
  by_cases hc : canP e s a x.b
  · rw [if_pos hc]
    have hm1 : max e.acked a ≤ A := by have := hp.a1; omega
    have hm0 := he.a0
    have hw : e.wait.drop (a - e.acked).toNat = S.drop (max e.acked a).toNat := by
      rw [he.wait, List.drop_drop]
      congr 1
      omega
    by_cases hs : s = 0
    · rw [if_pos hs]
      exact ⟨⟨hw, by dsimp only; omega, by dsimp only; omega, he.g0, he.g1, he.held⟩, by simp, hm1, rfl, Nat.le_succ _, fun j hj => by simp at hj⟩
    · rw [if_neg hs]
      have hH : HeldOk T e.got (heldP e s x) ∧ (heldP e s x).length ≤ e.held.length + 1 := by
        unfold heldP
        split
        · rename_i h
          refine ⟨⟨KU_add he.held.u h.2, fun p hp2 => ?_⟩, by simp⟩
          rcases List.mem_append.1 hp2 with h2 | h2
          · exact he.held.m p h2
          · simp only [List.mem_cons, List.not_mem_nil, or_false] at h2
            subst h2
            rcases hp.s with ⟨h3, _⟩ | ⟨_, h3, h4⟩
            · exact absurd h3 hs
            · exact ⟨h.1, h3, h4⟩
        · exact ⟨he.held, Nat.le_succ _⟩
      obtain ⟨b1, b2, b3, b4, b5⟩ := drain_ok (heldP e s x).length e.got (heldP e s x) hH.1 he.g0 he.g1
      have hg0 := he.g0
      exact ⟨⟨hw, by dsimp only; omega, by dsimp only; omega, by dsimp only; omega, b3, b1⟩, b2, hm1, rfl, by have := hH.2; dsimp only; omega, b5⟩
  · rw [if_neg hc]
    exact ⟨he, by simp, hA, rfl, Nat.le_succ _, fun j hj => by simp at hj⟩
/-- Out's packets are packets of its end -/
theorem pkL_mem {acked got : Int} : ∀ {xs : List (List UInt8)} {i : Nat} {p : Int × Int × List UInt8}, p ∈ pkL acked got i xs → ∃ j b, xs[j]? = some b ∧ p = (acked + ((i + j : Nat) : Int) + 1, got, b)
  | [], i, p, h => by cases h
  | x :: r, i, p, h => by
    rcases List.mem_cons.1 h with rfl | h
    · exact ⟨0, x, rfl, rfl⟩
    · obtain ⟨j, b, h1, rfl⟩ := pkL_mem h
      exact ⟨j + 1, b, by simpa using h1, by
        have : i + 1 + j = i + (j + 1) := by omega
        rw [this]⟩
theorem outP_ok {S T : List (List UInt8)} {e : PE} (he : EOk S T e) {p : Int × Int × List UInt8} (h : p ∈ outP e.w e.acked e.got e.wait e.ow) : POk S e.got p.1 p.2.1 p.2.2 := by
  unfold outP at h
  split at h
  · simp only [List.mem_cons, List.not_mem_nil, or_false] at h
    subst h
    exact ⟨.inl ⟨rfl, rfl⟩, he.g0, Int.le_refl _⟩
  · obtain ⟨j, b, h1, rfl⟩ := pkL_mem h
    rw [List.getElem?_take] at h1
    split at h1
    · have hw := he.wait
      rw [hw, List.getElem?_drop] at h1
      have hl := (List.getElem?_eq_some_iff.1 h1).1
      have h0 := he.a0
      refine ⟨.inr ⟨by dsimp only; omega, by dsimp only; omega, ?_⟩, he.g0, Int.le_refl _⟩
      dsimp only
      have : (e.acked + ((0 + j : Nat) : Int) + 1 - 1).toNat = e.acked.toNat + j := by omega
      rw [this]
      exact h1
    · cases h1
end Go.Proofs.Ythbgmnoaaohbcaa
