/-
  The law IndexCopies.
-/
import Derived.Test.YtnjjifikogblpaaMZ
import Derived.Test.YtnjjifikogblpaaMC
namespace Go.Proofs.Ytnjjifikogblpaa
open Go Go.RowKit
set_option linter.unusedVariables false
set_option linter.unusedSimpArgs false
set_option maxRecDepth 20000
set_option synthInstance.maxSize 100000
set_option synthInstance.maxHeartbeats 400000
theorem findL_len {l : List Ent} {b : BX} {d : Int} : (findL l b d).length ≤ l.length := by
  unfold findL
  split
  · unfold hitsF
    rw [List.length_map]
    exact List.length_filter_le _ _
  · exact Nat.zero_le _
section
variable {P : Program} {W0 : World} {L : List HP}
set_option maxHeartbeats 4000000 in
theorem IndexCopies_ct {v v2 v3 : Value} {l k o : List Int} {n m : Int} (hv : rd eI v l ∈ L) (hl : l.length ≤ 9223372036854775807) (hr : ∀ n ∈ l, I64 n) (hv2 : rd eI v2 k ∈ L) (hl2 : k.length ≤ 9223372036854775807) (hr2 : ∀ n ∈ k, I64 n) (hv3 : rd eI v3 o ∈ L) (hl3 : o.length ≤ 9223372036854775807) (hr3 : ∀ n ∈ o, I64 n) (hn : I64 n) (hm : I64 m) :
    CT Try.prog 9 #[v, v2, v3, .int .i64 n, .int .i64 m] W0 L fun r L' => r = .bool true ∧ L' = L := by
  refine CT_fact (fun w s => ((Src.sl (.inl hv) s).form)) ?_
  rintro ⟨A0, c0, rfl, hc0⟩
  refine CT_fact (fun w s => ((Src.sl (.inl hv2) s).form)) ?_
  rintro ⟨B0, d0, rfl, hd0⟩
  refine CT_fact (fun w s => ((Src.sl (.inl hv3) s).form)) ?_
  rintro ⟨C0, e0, rfl, he0⟩
  refine CT_enter Try.func9 rfl ?_; (simp only [Try.ntmps9, List.size_toArray, List.length_cons, List.length_nil, Nat.reduceAdd, Nat.reduceSub, Array.replicate_succ, Array.replicate_zero, List.push_toArray, List.append_toArray, List.nil_append, List.cons_append])
  repeat' (first | refine go ?_ | intro _ | (apply cG; first | refine cT ?_ | refine cF ?_ | refine cS (fun _ => ?_) fun _ => ?_) | (apply gW; refine sW ?_) | (apply gI; refine sI ?_) | (apply gE; refine sE ?_) | (apply gP; refine sP ?_) | (apply gC; refine sC ?_) | (apply gD; refine sD ?_) | fail)
  refine O_d (dy_call ArgsI.pf (by first | exact rfl | trivial | (intro a b; rfl)) (filled_ct (l := l) (most := 8) hv hr hl (by decide))) ?_; rintro _ _ ⟨_, ⟨T, R, hB, hk, hlk, hf, hlen, rfl, rfl⟩, rfl⟩; refine O_n ?_
  repeat' (first | refine go ?_ | intro _ | (apply cG; first | refine cT ?_ | refine cF ?_ | refine cS (fun _ => ?_) fun _ => ?_) | (apply gW; refine sW ?_) | (apply gI; refine sI ?_) | (apply gE; refine sE ?_) | (apply gP; refine sP ?_) | (apply gC; refine sC ?_) | (apply gD; refine sD ?_) | fail)
  refine O_d (dy_call ArgsI.pf (by first | exact rfl | trivial | (intro a b; rfl)) (rBox_ct hn hm)) ?_; rintro _ _ ⟨_, ⟨b, hb, rfl, rfl⟩, rfl⟩; refine O_n ?_
  have hfk : fokB b 1 = true := by unfold fokB; rw [decide_eq_true hb]; rfl
  repeat' (first | refine go ?_ | intro _ | (apply cG; first | refine cT ?_ | refine cF ?_ | refine cS (fun _ => ?_) fun _ => ?_) | (apply gW; refine sW ?_) | (apply gI; refine sI ?_) | (apply gE; refine sE ?_) | (apply gP; refine sP ?_) | (apply gC; refine sC ?_) | (apply gD; refine sD ?_) | fail)
  rename_i pb
  refine O_d (dy_call ArgsI.pf (by first | exact rfl | trivial | (intro a b; rfl)) (CT.pull (i := 1) (by rfl) (Find2_ct (b := b) (d := 1) hB.t hB.w))) ?_; rintro _ _ ⟨_, ⟨A1, c1, T1, hp1, hT1, hlk1, rfl, rfl⟩, rfl⟩; refine O_n ?_
  repeat' (first | refine go ?_ | intro _ | (apply cG; first | refine cT ?_ | refine cF ?_ | refine cS (fun _ => ?_) fun _ => ?_) | (apply gW; refine sW ?_) | (apply gI; refine sI ?_) | (apply gE; refine sE ?_) | (apply gP; refine sP ?_) | (apply gC; refine sC ?_) | (apply gD; refine sD ?_) | fail)
  refine O_d (dy_call ArgsI.pf (by first | exact rfl | trivial | (intro a b; rfl)) (CT.pull (i := 3) (by rfl) (rFind2_ct (R := R) (b := b) (d := 1) hB.w))) ?_; rintro _ _ ⟨_, ⟨A2, c2, R1, hq1, hl1, hlk2, rfl, rfl⟩, rfl⟩; refine O_n ?_
  rw [if_pos hfk] at hlk1 hlk2
  have hB1 : Both T1 R1 := ⟨by rw [hl1]; exact hT1, by rw [hl1]; exact hB.w⟩
  have hlk3 : T1.lk = R1.lk := by rw [hlk1, hlk2]
  rw [← hl1] at hlen
  rw [← hp1, ← hq1]
  clear hlk1 hlk2 hT1 hB hk hlk hp1 hq1 hf
  refine O_sub (S := trA T1 :: rtA R1 :: cel pb [.int .i64 b.x0, .int .i64 b.y0, .int .i64 b.x1, .int .i64 b.y1] 31 :: L) Sb ?_
  repeat' (first | refine go ?_ | intro _ | (apply cG; first | refine cT ?_ | refine cF ?_ | refine cS (fun _ => ?_) fun _ => ?_) | (apply gW; refine sW ?_) | (apply gI; refine sI ?_) | (apply gE; refine sE ?_) | (apply gP; refine sP ?_) | (apply gC; refine sC ?_) | (apply gD; refine sD ?_) | fail)
  refine O_d (dy_call ArgsI.pf (by first | exact rfl | trivial | (intro a b; rfl)) (Copy_ct hB1.t hB1.w)) ?_; rintro _ _ ⟨_, ⟨U, hU, hUk, rfl, rfl⟩, rfl⟩; refine O_n ?_
  repeat' (first | refine go ?_ | intro _ | (apply cG; first | refine cT ?_ | refine cF ?_ | refine cS (fun _ => ?_) fun _ => ?_) | (apply gW; refine sW ?_) | (apply gI; refine sI ?_) | (apply gE; refine sE ?_) | (apply gP; refine sP ?_) | (apply gC; refine sC ?_) | (apply gD; refine sD ?_) | fail)
  refine O_d (dy_call ArgsI.pf (by first | exact rfl | trivial | (intro a b; rfl)) (CT.pull (i := 2) (by rfl) (rCopy_ct (R := R1) (by omega)))) ?_; rintro _ _ ⟨_, ⟨S, hSk, hSl, rfl, rfl⟩, rfl⟩; refine O_n ?_
  have hB2 : Both U S := ⟨by rw [hSl]; exact hU, by rw [hSl]; exact hB1.w⟩
  repeat' (first | refine go ?_ | intro _ | (apply cG; first | refine cT ?_ | refine cF ?_ | refine cS (fun _ => ?_) fun _ => ?_) | (apply gW; refine sW ?_) | (apply gI; refine sI ?_) | (apply gE; refine sE ?_) | (apply gP; refine sP ?_) | (apply gC; refine sC ?_) | (apply gD; refine sD ?_) | fail)
  refine C_sub (S := cel R1.p [.slice R1.A R1.l.length R1.c, .int .i64 R1.lk] 36 :: rd eTh (.slice R1.A R1.l.length R1.c) R1.l :: trA T1 :: trA U :: rtA S :: cel pb [.int .i64 b.x0, .int .i64 b.y0, .int .i64 b.x1, .int .i64 b.y1] 31 :: L) (Sub.trans (B := rtA R1 :: trA T1 :: trA U :: rtA S :: cel pb [.int .i64 b.x0, .int .i64 b.y0, .int .i64 b.x1, .int .i64 b.y1] 31 :: L) Sb rtA_open) ?_
  refine C_draw (n := 99) [cel R1.p [.slice R1.A R1.l.length R1.c, .int .i64 R1.lk] 36] [(0, 1), (1, 1), (2, 1), (3, 1), (5, 1), (6, 1), (7, 1), (8, 1), (4, 0), (9, 1), (10, 1)] (by kernel_rfl) (by kernel_rfl) Sb ?_
  repeat' (first | refine go ?_ | intro _ | (apply cG; first | refine cT ?_ | refine cF ?_ | refine cS (fun _ => ?_) fun _ => ?_) | (apply gW; refine sW ?_) | (apply gI; refine sI ?_) | (apply gE; refine sE ?_) | (apply gP; refine sP ?_) | (apply gC; refine sC ?_) | (apply gD; refine sD ?_) | fail)
  refine D_op rfl ?_; refine X_d (dy_call ArgsI.pf (by first | exact rfl | trivial | (intro a b; rfl)) (CT.pull (i := 3) (by rfl) (Looks_ct (T := U)))) ?_; rintro _ _ ⟨_, ⟨rfl, rfl⟩, rfl⟩; refine ⟨(by first | exact .inl rfl | exact .inr Sb), D_n ?_⟩
  rw [hUk, hlk3]
  repeat' (first | refine go ?_ | intro _ | (apply cG; first | refine cT ?_ | refine cF ?_ | refine cS (fun _ => ?_) fun _ => ?_) | (apply gW; refine sW ?_) | (apply gI; refine sI ?_) | (apply gE; refine sE ?_) | (apply gP; refine sP ?_) | (apply gC; refine sC ?_) | (apply gD; refine sD ?_) | fail)
  refine O_sub (S := trA T1 :: rtA R1 :: trA U :: rtA S :: cel pb [.int .i64 b.x0, .int .i64 b.y0, .int .i64 b.x1, .int .i64 b.y1] 31 :: L) (Sub.trans (B := cel R1.p [.slice R1.A R1.l.length R1.c, .int .i64 R1.lk] 36 :: rd eTh (.slice R1.A R1.l.length R1.c) R1.l :: trA T1 :: trA U :: rtA S :: cel pb [.int .i64 b.x0, .int .i64 b.y0, .int .i64 b.x1, .int .i64 b.y1] 31 :: L) Sb (Sub.trans rtA_close Sb)) ?_
  refine O_d (dy_call ArgsI.pf (by first | exact rfl | trivial | (intro a b; rfl)) (rScript_ct (l := k) (most := 7) (.tail _ (.tail _ (.tail _ (.tail _ (.tail _ hv2))))) hr2 hl2 (by decide))) ?_; rintro _ _ ⟨_, ⟨A3, c3, x, hx, hxl, rfl, rfl⟩, rfl⟩; refine O_n ?_
  repeat' (first | refine go ?_ | intro _ | (apply cG; first | refine cT ?_ | refine cF ?_ | refine cS (fun _ => ?_) fun _ => ?_) | (apply gW; refine sW ?_) | (apply gI; refine sI ?_) | (apply gE; refine sE ?_) | (apply gP; refine sP ?_) | (apply gC; refine sC ?_) | (apply gD; refine sD ?_) | fail)
  refine O_d (dy_call ArgsI.pf (by first | exact rfl | trivial | (intro a b; rfl)) (rScript_ct (l := o) (most := 7) (.tail _ (.tail _ (.tail _ (.tail _ (.tail _ (.tail _ hv3)))))) hr3 hl3 (by decide))) ?_; rintro _ _ ⟨_, ⟨A4, c4, y, hy, hyl, rfl, rfl⟩, rfl⟩; refine O_n ?_
  repeat' (first | refine go ?_ | intro _ | (apply cG; first | refine cT ?_ | refine cF ?_ | refine cS (fun _ => ?_) fun _ => ?_) | (apply gW; refine sW ?_) | (apply gI; refine sI ?_) | (apply gE; refine sE ?_) | (apply gP; refine sP ?_) | (apply gC; refine sC ?_) | (apply gD; refine sD ?_) | fail)
  refine C_sub (S := trA T1 :: rtA R1 :: trA U :: rtA S :: cel pb [.int .i64 b.x0, .int .i64 b.y0, .int .i64 b.x1, .int .i64 b.y1] 31 :: own 58 eOP (.slice A3 x.length c3) x :: own 58 eOP (.slice A4 y.length c4) y :: L) Sb ?_
  have hlk4 : U.lk = S.lk := by rw [hUk, hSk, hlk3]
  obtain ⟨tp, htp⟩ : ∃ tp, T1.p = tp := ⟨_, rfl⟩
  obtain ⟨rp, hrp⟩ : ∃ tp, R1.p = tp := ⟨_, rfl⟩
  obtain ⟨up, hup⟩ : ∃ tp, U.p = tp := ⟨_, rfl⟩
  obtain ⟨sp_, hsp⟩ : ∃ tp, S.p = tp := ⟨_, rfl⟩
  rw [htp, hrp, hup, hsp]
  rw [← hSl] at hlen
  have hlen2 := hlen
  rw [hSl] at hlen2
  refine C_loopS (κ := Nat × (TR × RM) × TR × RM) [false, false, false, false, false, false, false, false, false, false, true, false, false, false, false, false, false, false, false, true, false, false, false, false, false, false, false, false, false, false, false, false, false, false, false, false, false, false, false, false, false, false, false, false, false, false, false, false, false, false, false, false, false, false, false, false, false, false, false, false, false, false, false, false, true, true, true, true, true, true, true, true, true, true, true, true, true, true, true, true, true, true, true, true, true, true, true, true, true, true, true, true, true, true, true, true, true, true, true, true, true, true, true, true, true, true, false, false, false, false, false, false, false, false, false, false, false, false, false, false, false, false, false, false, false, false, false, false, false, false, false, false, false, false, false, false, false, false, false, false, false, false, false, false, false, false, false, false, false, false, false, false, false, false, false, false, false, false, false, false, false, false, false, false, false, false, false, false, false, false, false, false, false, false, false, false, false, false, false, false, false, false, false, false, false] (fun k => [(19, .int .i64 (k.1 : Int))]) (fun k => [(0, trA k.2.1.1), (1, rtA k.2.1.2), (2, trA k.2.2.1), (3, rtA k.2.2.2)]) (fun k => k.1 ≤ 7 ∧ (k.2.1.1.p = tp ∧ k.2.1.2.p = rp ∧ Both k.2.1.1 k.2.1.2 ∧ k.2.1.1.lk = k.2.1.2.lk ∧ k.2.1.2.l.length ≤ 8 + k.1) ∧ k.2.2.1.p = up ∧ k.2.2.2.p = sp_ ∧ Both k.2.2.1 k.2.2.2 ∧ k.2.2.1.lk = k.2.2.2.lk ∧ k.2.2.2.l.length ≤ 8 + k.1) (fun k => 7 - k.1) (0, (T1, R1), U, S) ⟨Nat.zero_le _, ⟨htp, hrp, hB1, hlk3, by omega⟩, hup, hsp, hB2, hlk4, by omega⟩ ⟨rfl, trivial⟩ ?_
  clear htp hrp hup hsp hB1 hB2 hlk3 hlk4 hU hUk hSk hSl hl1 hlen hlen2
  rintro ⟨i, ⟨T1, R1⟩, U, S⟩ u ⟨hi, ⟨htp, hrp, hB1, hlk3, hlen1⟩, hup, hsp, hB2, hlk4, hlen2⟩
  dsimp only at hi htp hrp hB1 hlk3 hlen1 hup hsp hB2 hlk4 hlen2
  dsimp only
  ((try dsimp only); refine C_n ?_; (try simp only [Nat.reduceAdd, Nat.zero_add]))
  subst htp hrp hup hsp
  have hstep : ∀ (l : List Ent) (o : OP), l.length ≤ 8 + i → (stepO l o).length ≤ 8 + (i + 1) := fun l o h => by have := step_len (l := l) (o := o); omega
  by_cases hx1 : i < x.length
  · obtain ⟨a, ha⟩ : ∃ a, x[i]? = some a := ⟨_, List.getElem?_eq_getElem hx1⟩
    have haa : At x i a := ⟨ha⟩
    by_cases hy1 : i < y.length
    · obtain ⟨c, hc⟩ : ∃ c, y[i]? = some c := ⟨_, List.getElem?_eq_getElem hy1⟩
      have hac : At y i c := ⟨hc⟩
      repeat' (first | refine go ?_ | intro _ | (apply cG; first | refine cT ?_ | refine cF ?_ | refine cS (fun _ => ?_) fun _ => ?_) | (apply gW; refine sW ?_) | (apply gI; refine sI ?_) | (apply gE; refine sE ?_) | (apply gP; refine sP ?_) | (apply gC; refine sC ?_) | (apply gD; refine sD ?_) | fail)
      refine O_d (dy_call ArgsI.pf (by first | exact rfl | trivial | (intro a b; rfl)) (do_ct (o := a) hB1)) ?_; rintro _ _ ⟨_, ⟨T2, R2, hB3, h1, h2, h3, h4, h5, rfl, rfl⟩, rfl⟩; refine O_n ?_
      repeat' (first | refine go ?_ | intro _ | (apply cG; first | refine cT ?_ | refine cF ?_ | refine cS (fun _ => ?_) fun _ => ?_) | (apply gW; refine sW ?_) | (apply gI; refine sI ?_) | (apply gE; refine sE ?_) | (apply gP; refine sP ?_) | (apply gC; refine sC ?_) | (apply gD; refine sD ?_) | fail)
      refine O_sub (S := trA U :: rtA S :: trA T2 :: rtA R2 :: cel pb [.int .i64 b.x0, .int .i64 b.y0, .int .i64 b.x1, .int .i64 b.y1] 31 :: own 58 eOP (.slice A3 x.length c3) x :: own 58 eOP (.slice A4 y.length c4) y :: L) Sb ?_
      refine O_d (dy_call ArgsI.pf (by first | exact rfl | trivial | (intro a b; rfl)) (do_ct (o := c) hB2)) ?_; rintro _ _ ⟨_, ⟨U2, S2, hB4, k1, k2, k3, k4, k5, rfl, rfl⟩, rfl⟩; refine O_n ?_
      repeat' (first | refine go ?_ | intro _ | (apply cG; first | refine cT ?_ | refine cF ?_ | refine cS (fun _ => ?_) fun _ => ?_) | (apply gW; refine sW ?_) | (apply gI; refine sI ?_) | (apply gE; refine sE ?_) | (apply gP; refine sP ?_) | (apply gC; refine sC ?_) | (apply gD; refine sD ?_) | fail)
      exact E_round (i + 1, (T2, R2), U2, S2) ⟨by dsimp only; omega, ⟨h1, h2, hB3, by rw [h3, h4, hlk3], by dsimp only; rw [h5]; exact hstep _ _ hlen1⟩, k1, k2, hB4, by rw [k3, k4, hlk4], by dsimp only; rw [k5]; exact hstep _ _ hlen2⟩ (by dsimp only; omega) ⟨rfl, trivial⟩ Sb
    · repeat' (first | refine go ?_ | intro _ | (apply cG; first | refine cT ?_ | refine cF ?_ | refine cS (fun _ => ?_) fun _ => ?_) | (apply gW; refine sW ?_) | (apply gI; refine sI ?_) | (apply gE; refine sE ?_) | (apply gP; refine sP ?_) | (apply gC; refine sC ?_) | (apply gD; refine sD ?_) | fail)
      refine O_d (dy_call ArgsI.pf (by first | exact rfl | trivial | (intro a b; rfl)) (do_ct (o := a) hB1)) ?_; rintro _ _ ⟨_, ⟨T2, R2, hB3, h1, h2, h3, h4, h5, rfl, rfl⟩, rfl⟩; refine O_n ?_
      repeat' (first | refine go ?_ | intro _ | (apply cG; first | refine cT ?_ | refine cF ?_ | refine cS (fun _ => ?_) fun _ => ?_) | (apply gW; refine sW ?_) | (apply gI; refine sI ?_) | (apply gE; refine sE ?_) | (apply gP; refine sP ?_) | (apply gC; refine sC ?_) | (apply gD; refine sD ?_) | fail)
      exact E_round (i + 1, (T2, R2), U, S) ⟨by dsimp only; omega, ⟨h1, h2, hB3, by rw [h3, h4, hlk3], by dsimp only; rw [h5]; exact hstep _ _ hlen1⟩, rfl, rfl, hB2, hlk4, by dsimp only; omega⟩ (by dsimp only; omega) ⟨rfl, trivial⟩ Sb
  by_cases hy1 : i < y.length
  · obtain ⟨c, hc⟩ : ∃ c, y[i]? = some c := ⟨_, List.getElem?_eq_getElem hy1⟩
    have hac : At y i c := ⟨hc⟩
    repeat' (first | refine go ?_ | intro _ | (apply cG; first | refine cT ?_ | refine cF ?_ | refine cS (fun _ => ?_) fun _ => ?_) | (apply gW; refine sW ?_) | (apply gI; refine sI ?_) | (apply gE; refine sE ?_) | (apply gP; refine sP ?_) | (apply gC; refine sC ?_) | (apply gD; refine sD ?_) | fail)
    refine O_sub (S := trA U :: rtA S :: trA T1 :: rtA R1 :: cel pb [.int .i64 b.x0, .int .i64 b.y0, .int .i64 b.x1, .int .i64 b.y1] 31 :: own 58 eOP (.slice A3 x.length c3) x :: own 58 eOP (.slice A4 y.length c4) y :: L) Sb ?_
    refine O_d (dy_call ArgsI.pf (by first | exact rfl | trivial | (intro a b; rfl)) (do_ct (o := c) hB2)) ?_; rintro _ _ ⟨_, ⟨U2, S2, hB4, k1, k2, k3, k4, k5, rfl, rfl⟩, rfl⟩; refine O_n ?_
    repeat' (first | refine go ?_ | intro _ | (apply cG; first | refine cT ?_ | refine cF ?_ | refine cS (fun _ => ?_) fun _ => ?_) | (apply gW; refine sW ?_) | (apply gI; refine sI ?_) | (apply gE; refine sE ?_) | (apply gP; refine sP ?_) | (apply gC; refine sC ?_) | (apply gD; refine sD ?_) | fail)
    exact E_round (i + 1, (T1, R1), U2, S2) ⟨by dsimp only; omega, ⟨rfl, rfl, hB1, hlk3, by dsimp only; omega⟩, k1, k2, hB4, by rw [k3, k4, hlk4], by dsimp only; rw [k5]; exact hstep _ _ hlen2⟩ (by dsimp only; omega) ⟨rfl, trivial⟩ Sb
  refine C_sub (S := cel R1.p [.slice R1.A R1.l.length R1.c, .int .i64 R1.lk] 36 :: rd eTh (.slice R1.A R1.l.length R1.c) R1.l :: cel S.p [.slice S.A S.l.length S.c, .int .i64 S.lk] 36 :: rd eTh (.slice S.A S.l.length S.c) S.l :: trA T1 :: trA U :: cel pb [.int .i64 b.x0, .int .i64 b.y0, .int .i64 b.x1, .int .i64 b.y1] 31 :: L) (Sub.trans (B := rtA R1 :: trA T1 :: trA U :: rtA S :: cel pb [.int .i64 b.x0, .int .i64 b.y0, .int .i64 b.x1, .int .i64 b.y1] 31 :: L) Sb (Sub.trans rtA_open (Sub.trans (B := rtA S :: cel R1.p [.slice R1.A R1.l.length R1.c, .int .i64 R1.lk] 36 :: rd eTh (.slice R1.A R1.l.length R1.c) R1.l :: trA T1 :: trA U :: cel pb [.int .i64 b.x0, .int .i64 b.y0, .int .i64 b.x1, .int .i64 b.y1] 31 :: L) Sb (Sub.trans rtA_open Sb)))) ?_
  repeat' (first | refine go ?_ | intro _ | (apply cG; first | refine cT ?_ | refine cF ?_ | refine cS (fun _ => ?_) fun _ => ?_) | (apply gW; refine sW ?_) | (apply gI; refine sI ?_) | (apply gE; refine sE ?_) | (apply gP; refine sP ?_) | (apply gC; refine sC ?_) | (apply gD; refine sD ?_) | fail)
  refine C_draw (n := 99) [cel R1.p [.slice R1.A R1.l.length R1.c, .int .i64 R1.lk] 36, cel S.p [.slice S.A S.l.length S.c, .int .i64 S.lk] 36] [(0, 1), (2, 1), (3, 1), (4, 1), (5, 1), (1, 0), (6, 1), (7, 1), (8, 1), (10, 1), (11, 1), (12, 1), (13, 1), (9, 0), (14, 1), (15, 1)] (by kernel_rfl) (by kernel_rfl) Sb ?_
  repeat' (first | refine go ?_ | intro _ | (apply cG; first | refine cT ?_ | refine cF ?_ | refine cS (fun _ => ?_) fun _ => ?_) | (apply gW; refine sW ?_) | (apply gI; refine sI ?_) | (apply gE; refine sE ?_) | (apply gP; refine sP ?_) | (apply gC; refine sC ?_) | (apply gD; refine sD ?_) | fail)
  refine D_op rfl ?_; refine X_d (dy_call ArgsI.pf (by first | exact rfl | trivial | (intro a b; rfl)) (CT.pull (i := 4) (by rfl) (Looks_ct (T := T1)))) ?_; rintro _ _ ⟨_, ⟨rfl, rfl⟩, rfl⟩; refine ⟨(by first | exact .inl rfl | exact .inr Sb), D_n ?_⟩
  rw [hlk3]
  repeat' (first | refine go ?_ | intro _ | (apply cG; first | refine cT ?_ | refine cF ?_ | refine cS (fun _ => ?_) fun _ => ?_) | (apply gW; refine sW ?_) | (apply gI; refine sI ?_) | (apply gE; refine sE ?_) | (apply gP; refine sP ?_) | (apply gC; refine sC ?_) | (apply gD; refine sD ?_) | fail)
  refine D_op rfl ?_; refine X_d (dy_call ArgsI.pf (by first | exact rfl | trivial | (intro a b; rfl)) (CT.pull (i := 5) (by rfl) (Looks_ct (T := U)))) ?_; rintro _ _ ⟨_, ⟨rfl, rfl⟩, rfl⟩; refine ⟨(by first | exact .inl rfl | exact .inr Sb), D_n ?_⟩
  rw [hlk4]
  repeat' (first | refine go ?_ | intro _ | (apply cG; first | refine cT ?_ | refine cF ?_ | refine cS (fun _ => ?_) fun _ => ?_) | (apply gW; refine sW ?_) | (apply gI; refine sI ?_) | (apply gE; refine sE ?_) | (apply gP; refine sP ?_) | (apply gC; refine sC ?_) | (apply gD; refine sD ?_) | fail)
  refine O_sub (S := trA T1 :: rtA R1 :: trA U :: rtA S :: cel pb [.int .i64 b.x0, .int .i64 b.y0, .int .i64 b.x1, .int .i64 b.y1] 31 :: L) (Sub.trans (B := cel R1.p [.slice R1.A R1.l.length R1.c, .int .i64 R1.lk] 36 :: rd eTh (.slice R1.A R1.l.length R1.c) R1.l :: cel S.p [.slice S.A S.l.length S.c, .int .i64 S.lk] 36 :: rd eTh (.slice S.A S.l.length S.c) S.l :: trA T1 :: trA U :: cel pb [.int .i64 b.x0, .int .i64 b.y0, .int .i64 b.x1, .int .i64 b.y1] 31 :: L) Sb (Sub.trans rtA_close (Sub.trans (B := cel S.p [.slice S.A S.l.length S.c, .int .i64 S.lk] 36 :: rd eTh (.slice S.A S.l.length S.c) S.l :: rtA R1 :: trA T1 :: trA U :: cel pb [.int .i64 b.x0, .int .i64 b.y0, .int .i64 b.x1, .int .i64 b.y1] 31 :: L) Sb (Sub.trans rtA_close Sb)))) ?_
  have hwR := hB1.w
  have hwS := hB2.w
  have hfk2 : fokB b 2 = true := by unfold fokB; rw [decide_eq_true hb]; rfl
  refine O_d (dy_call ArgsI.pf (by first | exact rfl | trivial | (intro a b; rfl)) (CT.pull (i := 0) (by rfl) (Find2_ct (T := T1) (b := b) (d := 2) hB1.t hB1.w))) ?_; rintro _ _ ⟨_, ⟨A5, c5, T2, hp1, hT2, hlk5, rfl, rfl⟩, rfl⟩; refine O_n ?_
  repeat' (first | refine go ?_ | intro _ | (apply cG; first | refine cT ?_ | refine cF ?_ | refine cS (fun _ => ?_) fun _ => ?_) | (apply gW; refine sW ?_) | (apply gI; refine sI ?_) | (apply gE; refine sE ?_) | (apply gP; refine sP ?_) | (apply gC; refine sC ?_) | (apply gD; refine sD ?_) | fail)
  refine O_d (dy_call ArgsI.pf (by first | exact rfl | trivial | (intro a b; rfl)) (CT.pull (i := 2) (by rfl) (rFind2_ct (R := R1) (b := b) (d := 2) hB1.w))) ?_; rintro _ _ ⟨_, ⟨A6, c6, R2, hq1, hl6, hlk6, rfl, rfl⟩, rfl⟩; refine O_n ?_
  repeat' (first | refine go ?_ | intro _ | (apply cG; first | refine cT ?_ | refine cF ?_ | refine cS (fun _ => ?_) fun _ => ?_) | (apply gW; refine sW ?_) | (apply gI; refine sI ?_) | (apply gE; refine sE ?_) | (apply gP; refine sP ?_) | (apply gC; refine sC ?_) | (apply gD; refine sD ?_) | fail)
  refine O_d (dy_call ArgsI.pf (by first | exact rfl | trivial | (intro a b; rfl)) (CT.pull (i := 4) (by rfl) (Find2_ct (T := U) (b := b) (d := 2) hB2.t hB2.w))) ?_; rintro _ _ ⟨_, ⟨A7, c7, U2, hp2, hU2, hlk7, rfl, rfl⟩, rfl⟩; refine O_n ?_
  repeat' (first | refine go ?_ | intro _ | (apply cG; first | refine cT ?_ | refine cF ?_ | refine cS (fun _ => ?_) fun _ => ?_) | (apply gW; refine sW ?_) | (apply gI; refine sI ?_) | (apply gE; refine sE ?_) | (apply gP; refine sP ?_) | (apply gC; refine sC ?_) | (apply gD; refine sD ?_) | fail)
  refine O_d (dy_call ArgsI.pf (by first | exact rfl | trivial | (intro a b; rfl)) (CT.pull (i := 6) (by rfl) (rFind2_ct (R := S) (b := b) (d := 2) hB2.w))) ?_; rintro _ _ ⟨_, ⟨A8, c8, S2, hq2, hl8, hlk8, rfl, rfl⟩, rfl⟩; refine O_n ?_
  rw [if_pos hfk2] at hlk5 hlk6 hlk7 hlk8
  have hk1 : T2.lk = R2.lk := by rw [hlk5, hlk6]
  have hk2 : U2.lk = S2.lk := by rw [hlk7, hlk8]
  have hf1 := findL_len (l := R1.l) (b := b) (d := 2)
  have hf2 := findL_len (l := S.l) (b := b) (d := 2)
  rw [show findE b 2 = 0 from if_pos hfk2]
  obtain ⟨o1, ho1⟩ : ∃ o, findL R1.l b 2 = o := ⟨_, rfl⟩
  obtain ⟨o2, ho2⟩ : ∃ o, findL S.l b 2 = o := ⟨_, rfl⟩
  rw [ho1] at hf1 ⊢
  rw [ho2] at hf2 ⊢
  rw [← hp1, ← hq1, ← hp2, ← hq2]
  repeat' (first | refine go ?_ | intro _ | (apply cG; first | refine cT ?_ | refine cF ?_ | refine cS (fun _ => ?_) fun _ => ?_) | (apply gW; refine sW ?_) | (apply gI; refine sI ?_) | (apply gE; refine sE ?_) | (apply gP; refine sP ?_) | (apply gC; refine sC ?_) | (apply gD; refine sD ?_) | fail)
  refine C_sub (S := cel R2.p [.slice R2.A R2.l.length R2.c, .int .i64 R2.lk] 36 :: rd eTh (.slice R2.A R2.l.length R2.c) R2.l :: cel S2.p [.slice S2.A S2.l.length S2.c, .int .i64 S2.lk] 36 :: rd eTh (.slice S2.A S2.l.length S2.c) S2.l :: trA T2 :: trA U2 :: own 3 eI (.slice A5 o1.length c5) o1 :: own 3 eI (.slice A6 o1.length c6) o1 :: own 3 eI (.slice A7 o2.length c7) o2 :: own 3 eI (.slice A8 o2.length c8) o2 :: L) (Sub.trans (B := rtA R2 :: rtA S2 :: trA T2 :: trA U2 :: own 3 eI (.slice A5 o1.length c5) o1 :: own 3 eI (.slice A6 o1.length c6) o1 :: own 3 eI (.slice A7 o2.length c7) o2 :: own 3 eI (.slice A8 o2.length c8) o2 :: L) Sb (Sub.trans rtA_open (Sub.trans (B := rtA S2 :: cel R2.p [.slice R2.A R2.l.length R2.c, .int .i64 R2.lk] 36 :: rd eTh (.slice R2.A R2.l.length R2.c) R2.l :: trA T2 :: trA U2 :: own 3 eI (.slice A5 o1.length c5) o1 :: own 3 eI (.slice A6 o1.length c6) o1 :: own 3 eI (.slice A7 o2.length c7) o2 :: own 3 eI (.slice A8 o2.length c8) o2 :: L) Sb (Sub.trans rtA_open Sb)))) ?_
  refine C_draw (n := 99) [cel R2.p [.slice R2.A R2.l.length R2.c, .int .i64 R2.lk] 36, cel S2.p [.slice S2.A S2.l.length S2.c, .int .i64 S2.lk] 36] [(0, 1), (1, 1), (2, 1), (3, 1), (4, 1), (5, 1), (6, 1), (7, 1), (8, 1), (9, 1), (10, 1), (11, 0), (12, 1), (13, 1), (14, 1), (15, 1), (16, 0), (17, 1), (18, 1), (19, 1), (21, 1), (22, 1), (23, 1), (24, 1), (20, 0), (25, 1), (26, 1), (27, 1), (28, 1), (30, 1), (31, 1), (32, 1), (33, 1), (29, 0), (34, 1), (35, 1), (36, 1), (37, 0), (38, 1), (39, 1)] (by kernel_rfl) (by kernel_rfl) Sb ?_
  repeat' (first | refine go ?_ | intro _ | (apply cG; first | refine cT ?_ | refine cF ?_ | refine cS (fun _ => ?_) fun _ => ?_) | (apply gW; refine sW ?_) | (apply gI; refine sI ?_) | (apply gE; refine sE ?_) | (apply gP; refine sP ?_) | (apply gC; refine sC ?_) | (apply gD; refine sD ?_) | fail)
  refine D_op rfl ?_; refine X_d (dy_call ArgsI.pf (by first | exact rfl | trivial | (intro a b; rfl)) (SameInts_ct (q := true) (la := o1) (lb := o1) (.inr ⟨_, .tail _ (.tail _ (.tail _ (.tail _ (.tail _ (.tail _ (.head _))))))⟩) (.inr ⟨_, .tail _ (.tail _ (.tail _ (.tail _ (.tail _ (.tail _ (.tail _ (.head _)))))))⟩) (by omega) (by omega) (decide_eq_true rfl))) ?_; rintro _ _ ⟨_, ⟨rfl, hLL⟩, rfl⟩; replace hLL := hLL.symm; subst hLL; refine ⟨(by first | exact .inl rfl | exact .inr Sb), D_n ?_⟩
  repeat' (first | refine go ?_ | intro _ | (apply cG; first | refine cT ?_ | refine cF ?_ | refine cS (fun _ => ?_) fun _ => ?_) | (apply gW; refine sW ?_) | (apply gI; refine sI ?_) | (apply gE; refine sE ?_) | (apply gP; refine sP ?_) | (apply gC; refine sC ?_) | (apply gD; refine sD ?_) | fail)
  refine D_op rfl ?_; refine X_d (dy_call ArgsI.pf (by first | exact rfl | trivial | (intro a b; rfl)) (SameInts_ct (q := true) (la := o2) (lb := o2) (.inr ⟨_, .tail _ (.tail _ (.tail _ (.tail _ (.tail _ (.tail _ (.tail _ (.tail _ (.head _))))))))⟩) (.inr ⟨_, .tail _ (.tail _ (.tail _ (.tail _ (.tail _ (.tail _ (.tail _ (.tail _ (.tail _ (.head _)))))))))⟩) (by omega) (by omega) (decide_eq_true rfl))) ?_; rintro _ _ ⟨_, ⟨rfl, hLL⟩, rfl⟩; replace hLL := hLL.symm; subst hLL; refine ⟨(by first | exact .inl rfl | exact .inr Sb), D_n ?_⟩
  repeat' (first | refine go ?_ | intro _ | (apply cG; first | refine cT ?_ | refine cF ?_ | refine cS (fun _ => ?_) fun _ => ?_) | (apply gW; refine sW ?_) | (apply gI; refine sI ?_) | (apply gE; refine sE ?_) | (apply gP; refine sP ?_) | (apply gC; refine sC ?_) | (apply gD; refine sD ?_) | fail)
  refine D_op rfl ?_; refine X_d (dy_call ArgsI.pf (by first | exact rfl | trivial | (intro a b; rfl)) (CT.pull (i := 4) (by rfl) (Looks_ct (T := T2)))) ?_; rintro _ _ ⟨_, ⟨rfl, rfl⟩, rfl⟩; refine ⟨(by first | exact .inl rfl | exact .inr Sb), D_n ?_⟩
  rw [hk1]
  repeat' (first | refine go ?_ | intro _ | (apply cG; first | refine cT ?_ | refine cF ?_ | refine cS (fun _ => ?_) fun _ => ?_) | (apply gW; refine sW ?_) | (apply gI; refine sI ?_) | (apply gE; refine sE ?_) | (apply gP; refine sP ?_) | (apply gC; refine sC ?_) | (apply gD; refine sD ?_) | fail)
  refine D_op rfl ?_; refine X_d (dy_call ArgsI.pf (by first | exact rfl | trivial | (intro a b; rfl)) (CT.pull (i := 5) (by rfl) (Looks_ct (T := U2)))) ?_; rintro _ _ ⟨_, ⟨rfl, rfl⟩, rfl⟩; refine ⟨(by first | exact .inl rfl | exact .inr Sb), D_n ?_⟩
  rw [hk2]
  repeat' (first | refine go ?_ | intro _ | (apply cG; first | refine cT ?_ | refine cF ?_ | refine cS (fun _ => ?_) fun _ => ?_) | (apply gW; refine sW ?_) | (apply gI; refine sI ?_) | (apply gE; refine sE ?_) | (apply gP; refine sP ?_) | (apply gC; refine sC ?_) | (apply gD; refine sD ?_) | fail)
  refine D_op rfl ?_; refine X_d (dy_call ArgsI.pf (by first | exact rfl | trivial | (intro a b; rfl)) (lives_ct)) ?_; rintro _ _ ⟨_, ⟨rfl, hLL⟩, rfl⟩; replace hLL := hLL.symm; subst hLL; refine ⟨(by first | exact .inl rfl | exact .inr Sb), D_n ?_⟩
  repeat' (first | refine go ?_ | intro _ | (apply cG; first | refine cT ?_ | refine cF ?_ | refine cS (fun _ => ?_) fun _ => ?_) | (apply gW; refine sW ?_) | (apply gI; refine sI ?_) | (apply gE; refine sE ?_) | (apply gP; refine sP ?_) | (apply gC; refine sC ?_) | (apply gD; refine sD ?_) | fail)
  repeat' (first | refine go ?_ | intro _ | (apply cG; first | refine cT ?_ | refine cF ?_ | refine cS (fun _ => ?_) fun _ => ?_) | (apply gW; refine sW ?_) | (apply gI; refine sI ?_) | (apply gE; refine sE ?_) | (apply gP; refine sP ?_) | (apply gC; refine sC ?_) | (apply gD; refine sD ?_) | fail)
  refine E_res1 (by rfl) (by rfl) ⟨rfl, rfl⟩ Sb
end
theorem IndexCopies_any {v v2 v3 : Value} {l k o : List Int} {n m : Int} {w : World} (s : St w w [rd eI v l, rd eI v2 k, rd eI v3 o]) (hl : l.length ≤ 9223372036854775807) (hr : ∀ n ∈ l, I64 n) (hl2 : k.length ≤ 9223372036854775807) (hr2 : ∀ n ∈ k, I64 n) (hl3 : o.length ≤ 9223372036854775807) (hr3 : ∀ n ∈ o, I64 n) (hn : I64 n) (hm : I64 m) :
    Calls Try.prog 9 #[v, v2, v3, .int .i64 n, .int .i64 m] w fun e w' => e = .returned (.bool true) ∧ Below w.heap.size w w' :=
  ((IndexCopies_ct (W0 := w) (.head _) hl hr (.tail _ (.head _)) hl2 hr2 (.tail _ (.tail _ (.head _))) hl3 hr3 hn hm).run w s).mono fun e w' h => by
    obtain ⟨v, L', rfl, ⟨rfl, rfl⟩, s⟩ := h
    exact ⟨rfl, s.below⟩
end Go.Proofs.Ytnjjifikogblpaa
namespace Go.Proofs.Ytnjjifikogblpaa
open Go Go.RowKit
set_option linter.unusedVariables false
set_option linter.unusedSimpArgs false
def toB (n : Int) : UInt8 := UInt8.ofNat n.toNat
theorem toB_wf {n : Int} (h : (Lit.int .u8 n).wf = true) : ((toB n).toNat : Int) = n := by
  simp [Lit.wf, IntKind.min, IntKind.max, IntKind.signed, IntKind.bits] at h
  unfold toB
  simp
  omega
/-- a row of numbers of one kind, said as the rows' proofs say it -/
theorem row_sl {α : Type} {f : α → Value} {hf : ∀ a, (f a).oneCell' = true} {k : IntKind} {w : World} {a : Option Addr} {len cap : Nat} {zs : List Int} {l : List α} (hl : l.map f = (zs.take len).map (Value.int k)) (hz : zs.length = cap) (hlc : len ≤ cap)
    {x : Addr} (ha : a = some x) (hcell : ∀ i, i < zs.length → w.cell? (x.add i) = some (.int k (zs.getD i 0))) : Sl (Hp.of w) (e1 f hf) (.slice a len cap) l := by
  have hlen : l.length = len := by
    have := congrArg List.length hl
    simp at this
    omega
  subst hlen
  refine ⟨a, cap, l.map fun b => [f b], rfl, hlc, all2_e1.2 rfl, ?_⟩
  by_cases h0 : l = []
  · exact .inl h0
  · right
    have hpos : 0 < l.length := List.length_pos_iff.2 h0
    obtain ⟨b, off, spot⟩ := x
    have h1 := hcell 0 (by omega)
    have hspot : spot = none := by simpa [Addr.add] using World.cell?_spot h1
    subst hspot
    rw [flat_one]
    have hb : ∃ cs t fr, w.heap[b]? = some (.cells cs t fr) := by
      unfold World.cell? at h1
      simp only [Addr.add] at h1
      split at h1
      · rename_i cs t fr he; exact ⟨cs, t, fr, he⟩
      · cases h1
    obtain ⟨cs, t, fr, hb⟩ := hb
    refine ⟨b, off, cs, t, fr, ha, hb, ?_⟩
    intro j u hj
    rw [hl] at hj
    have hjl : j < l.length := by
      have := (List.getElem?_eq_some_iff.1 hj).1
      simp at this
      omega
    have h2 := hcell j (by omega)
    have h3 : w.cell? ⟨b, off + j, none⟩ = some (.int k (zs.getD j 0)) := by
      have e : (Addr.add ⟨b, off, none⟩ j) = ⟨b, off + j, none⟩ := by
        by_cases hj0 : j = 0
        · subst hj0; rfl
        · simp [Addr.add, hj0]
      rw [e] at h2
      exact h2
    have h4 : cs[off + j]? = some (.int k (zs.getD j 0)) := by simpa [World.cell?, hb] using h3
    rw [h4]
    rw [List.getElem?_map, List.getElem?_take, if_pos hjl] at hj
    rw [List.getD_eq_getElem?_getD]
    cases hzz : zs[j]? with
    | none => rw [hzz] at hj; cases hj
    | some z => rw [hzz] at hj; simpa using hj
theorem row_i64 {w : World} {a : Option Addr} {len cap : Nat} {zs : List Int} (h : (a = none ∧ len = 0 ∧ cap = 0 ∧ zs = []) ∨
    ∃ x, a = some x ∧ len ≤ cap ∧ cap ≤ maxLen ∧ zs.length = cap ∧ (∀ i, i < zs.length → w.cell? (x.add i) = some (.int .i64 (zs.getD i 0))) ∧ ∀ n ∈ zs, (Lit.int .i64 n).wf = true) :
    ∃ l : List Int, Sl (Hp.of w) eI (.slice a len cap) l ∧ l.length = len ∧ len ≤ 9223372036854775807 ∧ ∀ n ∈ l, -9223372036854775808 ≤ n ∧ n ≤ 9223372036854775807 := by
  rcases h with ⟨rfl, rfl, rfl, rfl⟩ | ⟨x, ha, hl, hm, hz, hc, hw⟩
  · exact ⟨[], ⟨none, 0, [], rfl, Nat.le_refl _, trivial, .inl rfl⟩, rfl, by omega, by simp⟩
  · unfold maxLen at hm
    refine ⟨zs.take len, row_sl rfl hz hl ha hc, by simp; omega, by omega, fun n hn => ?_⟩
    have := hw n (List.mem_of_mem_take hn)
    simpa [Lit.wf, IntKind.min, IntKind.max, IntKind.signed, IntKind.bits] using this
theorem row_u8 {w : World} {a : Option Addr} {len cap : Nat} {zs : List Int} (h : (a = none ∧ len = 0 ∧ cap = 0 ∧ zs = []) ∨
    ∃ x, a = some x ∧ len ≤ cap ∧ cap ≤ maxLen ∧ zs.length = cap ∧ (∀ i, i < zs.length → w.cell? (x.add i) = some (.int .u8 (zs.getD i 0))) ∧ ∀ n ∈ zs, (Lit.int .u8 n).wf = true) :
    ∃ l : List UInt8, Sl (Hp.of w) eB (.slice a len cap) l ∧ l.length = len ∧ len ≤ 9223372036854775807 := by
  rcases h with ⟨rfl, rfl, rfl, rfl⟩ | ⟨x, ha, hl, hm, hz, hc, hw⟩
  · exact ⟨[], ⟨none, 0, [], rfl, Nat.le_refl _, trivial, .inl rfl⟩, rfl, by omega⟩
  · unfold maxLen at hm
    refine ⟨(zs.take len).map toB, row_sl ?_ hz hl ha hc, by simp; omega, by omega⟩
    rw [List.map_map]
    refine List.map_congr_left fun n hn => ?_
    show bv (toB n) = _
    rw [bv, toB_wf (hw n (List.mem_of_mem_take hn))]
theorem St.mem_ {W : World} {α : Type} {R : Enc α} {v : Value} {l : List α} {L : List HP} (h : Sl (Hp.of W) R v l) (hS : St W W L) : St W W (Go.Proofs.Ytnjjifikogblpaa.rd R v l :: L) := hS.old h
end Go.Proofs.Ytnjjifikogblpaa
