/-
  Walks: record, the reference's first and Scan.
-/
import Derived.Test.YtbjaecofccpahaaJ1
namespace Go.Proofs.Ytbjaecofccpahaa
open Go Go.RowKit
set_option linter.unusedVariables false
set_option linter.unusedSimpArgs false
set_option maxRecDepth 20000
set_option synthInstance.maxSize 100000
set_option synthInstance.maxHeartbeats 400000
section
variable {W0 : World} {L : List HP}
theorem record_ct {v : Value} {b x : List UInt8} (hb : rd eB v b ∈ L) (hl : b.length ≤ 100000000) (hx : recF b = x) : CT Try.prog 68 #[v] W0 L fun r L' => ∃ A c, r = .slice A x.length c ∧ L' = own 5 eB (.slice A x.length c) x :: L := by
  refine CT_fact (fun w s => ((Src.sl (.inl hb) s).form)) ?_
  rintro ⟨Aa, ca, rfl, hca⟩
  obtain ⟨k1, hk1⟩ : ∃ k1 : Nat, k1 = min b.length 10 := ⟨_, rfl⟩
  have ek1 : (if (10 : Int) < (b.length : Int) then (10 : Int) else (b.length : Int)) = (k1 : Int) := by split <;> omega
  obtain ⟨m, hm⟩ : ∃ m, (rU (b.take 10, 0)).1 = m := ⟨_, rfl⟩
  have hm64 : m < 18446744073709551616 := by rw [← hm]; exact rU_lt _
  have hbt : b.take k1 = b.take 10 := by
    rw [hk1]
    rcases Nat.lt_or_ge b.length 10 with h | h
    · rw [Nat.min_eq_left (by omega), List.take_of_length_le (Nat.le_refl _), List.take_of_length_le (by omega)]
    · rw [Nat.min_eq_right h]
  obtain ⟨k2, hk2⟩ : ∃ k2 : Nat, k2 = min m b.length := ⟨_, rfl⟩
  have ek2 : (if (b.length : Int) < (m : Int) then (b.length : Int) else (m : Int)) = (k2 : Int) := by split <;> omega
  obtain ⟨k3, hk3⟩ : ∃ k3 : Nat, k3 = min b.length (10 + k2) := ⟨_, rfl⟩
  have ek3 : (if (10 : Int) + (k2 : Int) < (b.length : Int) then (10 : Int) + (k2 : Int) else (b.length : Int)) = (k3 : Int) := by split <;> omega
  have hcut : b.take k3 = cutF b := by rw [hk3, hk2, ← hm]; rfl
  have hk1l : k1 ≤ b.length := by omega
  have hk3l : k3 ≤ b.length := by omega
  obtain ⟨cut, hcut2⟩ : ∃ c, cutF b = c := ⟨_, rfl⟩
  have hcl : cut.length ≤ 100000000 := by rw [← hcut2, ← hcut, List.length_take]; omega
  obtain ⟨core, s1, hr1⟩ : ∃ core s1, rList rNext (cut, 0) = (core, s1) := ⟨_, _, rfl⟩
  have hcore : core.length ≤ 100000000 := by have := rRaw_len (cut, 0); rw [hr1] at this; dsimp only at this; omega
  obtain ⟨n, b2, e2, hr2⟩ : ∃ n b2 e2, rI (core, 0) = (n, (b2, e2)) := ⟨_, _, _, rfl⟩
  have hb2 : b2.length ≤ 100000000 := by have := rI_len (core, 0); rw [hr2] at this; dsimp only at this; omega
  obtain ⟨s2, hr3⟩ : ∃ s2, rList rNext (b2, e2) = (x, s2) := ⟨_, by
    rw [← hx]; unfold recF; rw [hcut2, hr1]; dsimp only; rw [hr2]⟩
  have hmin : min m b.length = k2 := hk2.symm
  clear hk1 hk2 hk3
  refine CT_enter Try.func68 rfl ?_; (simp only [Try.ntmps68, List.size_toArray, List.length_cons, List.length_nil, Nat.reduceAdd, Nat.reduceSub, Array.replicate_succ, Array.replicate_zero, List.push_toArray, List.append_toArray, List.nil_append, List.cons_append])
  refine C_sub (sub_dup hb) ?_
  repeat' (first | refine go ?_ | intro _ | (apply cG; first | refine cT ?_ | refine cF ?_ | refine cS (fun _ => ?_) fun _ => ?_) | fail)
  apply gW
  refine sW (r := (k1 : Int)) ?_ ek1
  repeat' (first | refine go ?_ | intro _ | (apply cG; first | refine cT ?_ | refine cF ?_ | refine cS (fun _ => ?_) fun _ => ?_) | (apply gW; refine sW ?_) | (apply gI; refine sI ?_) | (apply gE; refine sE ?_) | (apply gP; refine sP ?_) | (apply gC; refine sC ?_) | (apply gD; refine sD ?_) | fail)
  rw [List.drop_zero, hbt]
  refine O_d (dy_call ArgsI.pf (by first | exact rfl | trivial | (intro a b; rfl)) (Read_ct (l := b.take 10) (.inl (.head _)) (by rw [List.length_take]; omega))) ?_; rintro _ _ ⟨_, ⟨p1, rfl, rfl⟩, rfl⟩; refine O_n ?_
  repeat' (first | refine go ?_ | intro _ | (apply cG; first | refine cT ?_ | refine cF ?_ | refine cS (fun _ => ?_) fun _ => ?_) | (apply gW; refine sW ?_) | (apply gI; refine sI ?_) | (apply gE; refine sE ?_) | (apply gP; refine sP ?_) | (apply gC; refine sC ?_) | (apply gD; refine sD ?_) | fail)
  refine O_d (dy_call ArgsI.pf (by first | exact rfl | trivial | (intro a b; rfl)) (Uint_ct (m := m) (bs' := (rU (b.take 10, 0)).2.1) (e' := (rU (b.take 10, 0)).2.2) (by rw [← hm]) (by rw [List.length_take]; omega))) ?_; rintro _ _ ⟨_, ⟨rfl, rfl⟩, rfl⟩; refine O_n ?_
  repeat' (first | refine go ?_ | intro _ | (apply cG; first | refine cT ?_ | refine cF ?_ | refine cS (fun _ => ?_) fun _ => ?_) | fail)
  apply gW
  refine sW ?_
  repeat' (first | refine go ?_ | intro _ | (apply cG; first | refine cT ?_ | refine cF ?_ | refine cS (fun _ => ?_) fun _ => ?_) | fail)
  apply gW
  refine sW (r := (k2 : Int)) ?_ ek2
  repeat' (first | refine go ?_ | intro _ | (apply cG; first | refine cT ?_ | refine cF ?_ | refine cS (fun _ => ?_) fun _ => ?_) | fail)
  apply gW
  refine sW ?_
  repeat' (first | refine go ?_ | intro _ | (apply cG; first | refine cT ?_ | refine cF ?_ | refine cS (fun _ => ?_) fun _ => ?_) | fail)
  apply gW
  refine sW (r := (k3 : Int)) ?_ ek3
  refine O_sub (sub_dup (.tail _ (.tail _ (.head _)))) ?_
  repeat' (first | refine go ?_ | intro _ | (apply cG; first | refine cT ?_ | refine cF ?_ | refine cS (fun _ => ?_) fun _ => ?_) | (apply gW; refine sW ?_) | (apply gI; refine sI ?_) | (apply gE; refine sE ?_) | (apply gP; refine sP ?_) | (apply gC; refine sC ?_) | (apply gD; refine sD ?_) | fail)
  rw [List.drop_zero, hcut, hcut2]
  refine O_d (dy_call ArgsI.pf (by first | exact rfl | trivial | (intro a b; rfl)) (Read_ct (l := cut) (.inl (.head _)) (by omega))) ?_; rintro _ _ ⟨_, ⟨p2, rfl, rfl⟩, rfl⟩; refine O_n ?_
  repeat' (first | refine go ?_ | intro _ | (apply cG; first | refine cT ?_ | refine cF ?_ | refine cS (fun _ => ?_) fun _ => ?_) | (apply gW; refine sW ?_) | (apply gI; refine sI ?_) | (apply gE; refine sE ?_) | (apply gP; refine sP ?_) | (apply gC; refine sC ?_) | (apply gD; refine sD ?_) | fail)
  refine O_d (dy_call ArgsI.pf (by first | exact rfl | trivial | (intro a b; rfl)) (Raw_ct hr1 (by omega))) ?_; rintro _ _ ⟨_, ⟨A3, c3, rfl, rfl⟩, rfl⟩; refine O_n ?_
  repeat' (first | refine go ?_ | intro _ | (apply cG; first | refine cT ?_ | refine cF ?_ | refine cS (fun _ => ?_) fun _ => ?_) | (apply gW; refine sW ?_) | (apply gI; refine sI ?_) | (apply gE; refine sE ?_) | (apply gP; refine sP ?_) | (apply gC; refine sC ?_) | (apply gD; refine sD ?_) | fail)
  refine O_d (dy_call ArgsI.pf (by first | exact rfl | trivial | (intro a b; rfl)) (Read_ct (l := core) Sc.pf (by omega))) ?_; rintro _ _ ⟨_, ⟨p3, rfl, rfl⟩, rfl⟩; refine O_n ?_
  repeat' (first | refine go ?_ | intro _ | (apply cG; first | refine cT ?_ | refine cF ?_ | refine cS (fun _ => ?_) fun _ => ?_) | (apply gW; refine sW ?_) | (apply gI; refine sI ?_) | (apply gE; refine sE ?_) | (apply gP; refine sP ?_) | (apply gC; refine sC ?_) | (apply gD; refine sD ?_) | fail)
  refine O_d (dy_call ArgsI.pf (by first | exact rfl | trivial | (intro a b; rfl)) (Int_ct hr2 (by omega))) ?_; rintro _ _ ⟨_, ⟨rfl, rfl⟩, rfl⟩; refine O_n ?_
  repeat' (first | refine go ?_ | intro _ | (apply cG; first | refine cT ?_ | refine cF ?_ | refine cS (fun _ => ?_) fun _ => ?_) | (apply gW; refine sW ?_) | (apply gI; refine sI ?_) | (apply gE; refine sE ?_) | (apply gP; refine sP ?_) | (apply gC; refine sC ?_) | (apply gD; refine sD ?_) | fail)
  refine O_d (dy_call ArgsI.pf (by first | exact rfl | trivial | (intro a b; rfl)) (Raw_ct hr3 (by omega))) ?_; rintro _ _ ⟨_, ⟨A4, c4, rfl, rfl⟩, rfl⟩; refine O_n ?_
  repeat' (first | refine go ?_ | intro _ | (apply cG; first | refine cT ?_ | refine cF ?_ | refine cS (fun _ => ?_) fun _ => ?_) | (apply gW; refine sW ?_) | (apply gI; refine sI ?_) | (apply gE; refine sE ?_) | (apply gP; refine sP ?_) | (apply gC; refine sC ?_) | (apply gD; refine sD ?_) | fail)
  refine E_res1 (by rfl) (by rfl) ⟨_, _, rfl, rfl⟩ Sb
theorem isF_read {i : Int} {b : List UInt8} (h : isF i b = true) (h1 : -9223372036854775808 ≤ i) (h2 : i ≤ 9223372036854775807) (hl : b.length ≤ 1000000) : ∃ t, rList rNext (b, 0) = (coreF i (recF b), (t, 0)) := by
  obtain ⟨t, ht⟩ := isF_iff.1 h
  have hx := recF_len b
  obtain ⟨x, hxd⟩ : ∃ x, recF b = x := ⟨_, rfl⟩
  rw [hxd] at ht hx ⊢
  have hcl := coreF_len h1 h2 (x := x) (by omega)
  refine ⟨varint (sumF i x) ++ t, ?_⟩
  rw [← ht]
  have e : frameF i x ++ t = varint (coreF i x).length ++ coreF i x ++ (varint (sumF i x) ++ t) := by unfold frameF; simp
  rw [e]
  exact raw_pre (by omega)
theorem prefix_take {f b : List UInt8} : f.isPrefixOf b = true ↔ f = b.take f.length := by
  rw [List.isPrefixOf_iff_prefix, List.prefix_iff_eq_take]
theorem first_ct {v : Value} {b x : List UInt8} {i : Int} {ok : Bool} (hb : rd eB v b ∈ L) (hl : b.length ≤ 1000000) (h1 : -9223372036854775808 ≤ i) (h2 : i ≤ 9223372036854775807) (hx : recF b = x) (hok : isF i b = ok) :
    CT Try.prog 52 #[.int .i64 i, v] W0 L fun r L' => ∃ A c y, r = .tuple #[.slice A (List.length y) c, .bool ok] ∧ L' = rd eB (.slice A (List.length y) c) y :: L ∧ (ok = true → y = x) := by
  refine CT_fact (fun w s => ((Src.sl (.inl hb) s).form)) ?_
  rintro ⟨Aa, ca, rfl, hca⟩
  obtain ⟨core, b1, e1, hr1⟩ : ∃ core b1 e1, rList rNext (b, 0) = (core, (b1, e1)) := ⟨_, _, _, rfl⟩
  have hcore : core.length ≤ 1000000 := by have := rRaw_len (b, 0); rw [hr1] at this; dsimp only at this; omega
  obtain ⟨n, b2, e2, hr2⟩ : ∃ n b2 e2, rI (core, 0) = (n, (b2, e2)) := ⟨_, _, _, rfl⟩
  have hb2 : b2.length ≤ core.length := by have := rI_len (core, 0); rw [hr2] at this; exact this
  refine CT_enter Try.func52 rfl ?_; (simp only [Try.ntmps52, List.size_toArray, List.length_cons, List.length_nil, Nat.reduceAdd, Nat.reduceSub, Array.replicate_succ, Array.replicate_zero, List.push_toArray, List.append_toArray, List.nil_append, List.cons_append])
  refine C_sub (sub_dup hb) ?_
  repeat' (first | refine go ?_ | intro _ | (apply cG; first | refine cT ?_ | refine cF ?_ | refine cS (fun _ => ?_) fun _ => ?_) | (apply gW; refine sW ?_) | (apply gI; refine sI ?_) | (apply gE; refine sE ?_) | (apply gP; refine sP ?_) | (apply gC; refine sC ?_) | (apply gD; refine sD ?_) | fail)
  refine O_sub fr_sub ?_
  refine O_d (dy_call ArgsI.pf (by first | exact rfl | trivial | (intro a b; rfl)) (fRawR_ct hr1 (by omega))) ?_; rintro _ _ ⟨_, ⟨b1', A1, c1, ⟨hk1, hk1l⟩, rfl, rfl⟩, rfl⟩; refine O_n ?_
  repeat' (first | refine go ?_ | intro _ | (apply cG; first | refine cT ?_ | refine cF ?_ | refine cS (fun _ => ?_) fun _ => ?_) | (apply gW; refine sW ?_) | (apply gI; refine sI ?_) | (apply gE; refine sE ?_) | (apply gP; refine sP ?_) | (apply gC; refine sC ?_) | (apply gD; refine sD ?_) | fail)
  refine O_sub (Sub.trans (sub_skip (sub_dup (.head _))) fr_sub) ?_
  refine O_d (dy_call ArgsI.pf (by first | exact rfl | trivial | (intro a b; rfl)) (fI_ct hr2 (by omega))) ?_; rintro _ _ ⟨_, ⟨b2', ⟨hk2, hk2l⟩, rfl, rfl⟩, rfl⟩; refine O_n ?_
  repeat' (first | refine go ?_ | intro _ | (apply cG; first | refine cT ?_ | refine cF ?_ | refine cS (fun _ => ?_) fun _ => ?_) | (apply gW; refine sW ?_) | (apply gI; refine sI ?_) | (apply gE; refine sE ?_) | (apply gP; refine sP ?_) | (apply gC; refine sC ?_) | (apply gD; refine sD ?_) | fail)
  obtain ⟨x', b3, e3, hr3⟩ : ∃ x' b3 e3, rList rNext (b2', e2) = (x', (b3, e3)) := ⟨_, _, _, rfl⟩
  have hx' : x'.length ≤ 1000000 := by have := rRaw_len (b2', e2); rw [hr3] at this; dsimp only at this; omega
  refine O_d (dy_call ArgsI.pf (by first | exact rfl | trivial | (intro a b; rfl)) (fRawR_ct hr3 (by omega))) ?_; rintro _ _ ⟨_, ⟨b3', A3, c3, ⟨hk3, hk3l⟩, rfl, rfl⟩, rfl⟩; refine O_n ?_
  repeat' (first | refine go ?_ | intro _ | (apply cG; first | refine cT ?_ | refine cF ?_ | refine cS (fun _ => ?_) fun _ => ?_) | (apply gW; refine sW ?_) | (apply gI; refine sI ?_) | (apply gE; refine sE ?_) | (apply gP; refine sP ?_) | (apply gC; refine sC ?_) | (apply gD; refine sD ?_) | fail)
  rename_i p1 p2
  refine O_sub (S := fr p1 b1' e1 :: fr p2 b3' e3 :: rd eB (.slice A3 x'.length c3) x' :: L) Sb ?_
  refine fr_open fun A n1 c hn hnc => ?_
  refine O_sub (S := fr p2 b3' e3 :: cel p1 [.slice A n1 c, .int .i64 e1] 110 :: rd eB (.slice A3 x'.length c3) x' :: L) Sb ?_
  refine fr_open fun A' n2 c' hn' hnc' => ?_
  by_cases hE : e1 = 0 ∧ e3 = 0
  rotate_left
  · have hno : ok = false := by
      rw [← hok, Bool.eq_false_iff]
      intro hh
      obtain ⟨t, ht⟩ := isF_read hh h1 h2 hl
      rw [hr1] at ht
      simp only [Prod.mk.injEq] at ht
      obtain ⟨rfl, rfl, rfl⟩ := ht
      have hxl := recF_len b
      rw [core_back h1 h2 (by omega)] at hr2
      simp only [Prod.mk.injEq] at hr2
      obtain ⟨rfl, rfl, rfl⟩ := hr2
      rw [hk2 rfl, rest_back (by omega)] at hr3
      simp only [Prod.mk.injEq] at hr3
      exact hE ⟨rfl, hr3.2.2.symm⟩
    subst hno
    by_cases hE1 : e1 = 0
    · have hE3 : e3 ≠ 0 := fun h => hE ⟨hE1, h⟩
      subst hE1
      repeat' (first | refine go ?_ | intro _ | (apply cG; first | refine cT ?_ | refine cF ?_ | refine cS (fun _ => ?_) fun _ => ?_) | (apply gW; refine sW ?_) | (apply gI; refine sI ?_) | (apply gE; refine sE ?_) | (apply gP; refine sP ?_) | (apply gC; refine sC ?_) | (apply gD; refine sD ?_) | fail)
      refine E_rdnil eB none 0 ?_
      refine E_res2 (by rfl) (by rfl) ⟨none, 0, [], rfl, rfl, fun h => absurd h (by decide)⟩ Sb
    · repeat' (first | refine go ?_ | intro _ | (apply cG; first | refine cT ?_ | refine cF ?_ | refine cS (fun _ => ?_) fun _ => ?_) | (apply gW; refine sW ?_) | (apply gI; refine sI ?_) | (apply gE; refine sE ?_) | (apply gP; refine sP ?_) | (apply gC; refine sC ?_) | (apply gD; refine sD ?_) | fail)
      refine E_rdnil eB none 0 ?_
      refine E_res2 (by rfl) (by rfl) ⟨none, 0, [], rfl, rfl, fun h => absurd h (by decide)⟩ Sb
  obtain ⟨rfl, rfl⟩ := hE
  have hfl := frameF_len h1 h2 (x := x') (by omega)
  have hfin : ∀ q, (frameF i x' == b.take (frameF i x').length) = q → (ok = q ∧ (ok = true → x' = x)) := by
    intro q hq
    cases q with
    | true =>
      have h3 := eq_of_beq hq
      obtain ⟨h4, h5⟩ := first_iff h1 h2 (by omega) (List.isPrefixOf_iff_prefix.1 (prefix_take.2 h3))
      exact ⟨by rw [← hok, h4], fun _ => by rw [← hx, h5]⟩
    | false =>
      have hno : ok = false := by
        rw [← hok, Bool.eq_false_iff]
        intro hh
        have hh0 := hh
        obtain ⟨t, ht⟩ := isF_read hh h1 h2 hl
        rw [hr1] at ht
        simp only [Prod.mk.injEq] at ht
        obtain ⟨rfl, rfl, -⟩ := ht
        have hxl := recF_len b
        rw [core_back h1 h2 (by omega)] at hr2
        simp only [Prod.mk.injEq] at hr2
        obtain ⟨rfl, rfl, rfl⟩ := hr2
        rw [hk2 rfl, rest_back (by omega)] at hr3
        simp only [Prod.mk.injEq] at hr3
        obtain ⟨rfl, -, -⟩ := hr3
        unfold isF at hh0
        rw [prefix_take] at hh0
        rw [← hh0, beq_self_eq_true] at hq
        exact absurd hq (by decide)
      exact ⟨hno, fun h => by rw [hno] at h; exact absurd h (by decide)⟩
  clear hr1 hr2 hr3 hk1 hk2 hk3
  repeat' (first | refine go ?_ | intro _ | (apply cG; first | refine cT ?_ | refine cF ?_ | refine cS (fun _ => ?_) fun _ => ?_) | (apply gW; refine sW ?_) | (apply gI; refine sI ?_) | (apply gE; refine sE ?_) | (apply gP; refine sP ?_) | (apply gC; refine sC ?_) | (apply gD; refine sD ?_) | fail)
  refine O_d (dy_call ArgsI.pf (by first | exact rfl | trivial | (intro a b; rfl)) (fFrame_ct (x := x') Sc.pf h1 h2 (by omega))) ?_; rintro _ _ ⟨_, ⟨A5, c5, rfl, rfl⟩, rfl⟩; refine O_n ?_
  refine O_sub (S := rd eB (.slice Aa b.length ca) b :: own 5 eB (.slice A5 (frameF i x').length c5) (frameF i x') :: rd eB (.slice A3 x'.length c3) x' :: L) (Sub.trans (sub_dup (by repeat (first | exact hb | refine .tail _ ?_))) Sb) ?_
  by_cases hle : (frameF i x').length ≤ b.length
  · obtain ⟨q, hq⟩ : ∃ q, (frameF i x' == b.take (frameF i x').length) = q := ⟨_, rfl⟩
    obtain ⟨rfl, h6⟩ := hfin q hq
    have hq' : decide (frameF i x' = (b.drop 0).take (frameF i x').length) = ok := by rw [List.drop_zero, ← hq, Bool.beq_eq_decide_eq]
    repeat' (first | refine go ?_ | intro _ | (apply cG; first | refine cT ?_ | refine cF ?_ | refine cS (fun _ => ?_) fun _ => ?_) | (apply gW; refine sW ?_) | (apply gI; refine sI ?_) | (apply gE; refine sE ?_) | (apply gP; refine sP ?_) | (apply gC; refine sC ?_) | (apply gD; refine sD ?_) | fail)
    refine O_d (dy_call ArgsI.pf (by first | exact rfl | trivial | (intro a b; rfl)) (SameBytes_ct (q := ok) Sc.pf Sc.pf (by omega) (by rw [List.length_take]; omega) hq')) ?_; rintro _ _ ⟨_, ⟨rfl, hLL⟩, rfl⟩; replace hLL := hLL.symm; subst hLL; refine O_n ?_
    cases ok
    · repeat' (first | refine go ?_ | intro _ | (apply cG; first | refine cT ?_ | refine cF ?_ | refine cS (fun _ => ?_) fun _ => ?_) | (apply gW; refine sW ?_) | (apply gI; refine sI ?_) | (apply gE; refine sE ?_) | (apply gP; refine sP ?_) | (apply gC; refine sC ?_) | (apply gD; refine sD ?_) | fail)
      refine E_rdnil eB none 0 ?_
      refine E_res2 (by rfl) (by rfl) ⟨none, 0, [], rfl, rfl, fun h => absurd h (by decide)⟩ Sb
    · repeat' (first | refine go ?_ | intro _ | (apply cG; first | refine cT ?_ | refine cF ?_ | refine cS (fun _ => ?_) fun _ => ?_) | (apply gW; refine sW ?_) | (apply gI; refine sI ?_) | (apply gE; refine sE ?_) | (apply gP; refine sP ?_) | (apply gC; refine sC ?_) | (apply gD; refine sD ?_) | fail)
      refine E_res2 (by rfl) (by rfl) ⟨A3, c3, x', rfl, rfl, h6⟩ Sb
  · obtain ⟨rfl, h6⟩ := hfin false (by
      rw [beq_eq_false_iff_ne]
      intro h
      have := congrArg List.length h
      rw [List.length_take] at this
      omega)
    repeat' (first | refine go ?_ | intro _ | (apply cG; first | refine cT ?_ | refine cF ?_ | refine cS (fun _ => ?_) fun _ => ?_) | (apply gW; refine sW ?_) | (apply gI; refine sI ?_) | (apply gE; refine sE ?_) | (apply gP; refine sP ?_) | (apply gC; refine sC ?_) | (apply gD; refine sD ?_) | fail)
    refine E_rdnil eB none 0 ?_
    refine E_res2 (by rfl) (by rfl) ⟨none, 0, [], rfl, rfl, fun h => absurd h (by decide)⟩ Sb
end
end Go.Proofs.Ytbjaecofccpahaa
