/-
  Walks of the wire laws: WireReads.
-/
import Derived.Test.YtjaopndlcghkcaaV21
namespace Go.Proofs.Ytjaopndlcghkcaa
open Go Go.RowKit
set_option linter.unusedVariables false
set_option linter.unusedSimpArgs false
set_option synthInstance.maxSize 100000
set_option synthInstance.maxHeartbeats 400000
/-- two readers that agree: after an error the bytes do not matter -/
theorem rV_same {k e : Int} {bs b : List UInt8} (h : e = 0 → b = bs) : ∃ b', rV k (b, e) = ((rV k (bs, e)).1, (b', (rV k (bs, e)).2.2)) ∧ ((rV k (bs, e)).2.2 = 0 → b' = (rV k (bs, e)).2.1) := by
  by_cases he : e = 0
  · rw [h he]
    exact ⟨_, rfl, fun _ => rfl⟩
  · rw [rV_err (s := (bs, e)) he, rV_err (s := (b, e)) he]
    exact ⟨b, rfl, fun h0 => absurd h0 he⟩
section
variable {W0 : World} {L : List HP}
set_option maxHeartbeats 1000000 in
theorem WireReads_ct {vr v vk : Value} {raw : List UInt8} {li kinds : List Int} {at_ : Int} {c8 : UInt8} (hraw : rd eB vr raw ∈ L) (hrl : raw.length ≤ 9223372036854775807) (hv : rd eI v li ∈ L) (hl : li.length ≤ 9223372036854775807) (hr : ∀ n ∈ li, -9223372036854775808 ≤ n ∧ n ≤ 9223372036854775807) (hn : -9223372036854775808 ≤ at_ ∧ at_ ≤ 9223372036854775807)
    (hk : rd eI vk kinds ∈ L) (hkl : kinds.length ≤ 9223372036854775807) (hkr : ∀ n ∈ kinds, -9223372036854775808 ≤ n ∧ n ≤ 9223372036854775807) :
    CT Try.prog 4 #[vr, v, .int .i64 at_, bv c8, vk] W0 L fun r L' => r = .bool true ∧ L' = L := by
  refine CT_fact (fun w s => ((Src.sl (.inl hk) s).form)) ?_
  rintro ⟨Ak, ck, rfl, hck⟩
  refine CT_enter Try.func4 rfl ?_; (simp only [Try.ntmps4, List.size_toArray, List.length_cons, List.length_nil, Nat.reduceAdd, Nat.reduceSub, Array.replicate_succ, Array.replicate_zero, List.push_toArray, List.append_toArray, List.nil_append, List.cons_append])
  refine C_sub (sub_dup hk) ?_
  repeat' (first | refine go ?_ | intro _ | (apply cG; first | refine cT ?_ | refine cF ?_ | refine cS (fun _ => ?_) fun _ => ?_) | (apply gW; refine sW ?_) | (apply gI; refine sI ?_) | (apply gE; refine sE ?_) | (apply gP; refine sP ?_) | (apply gC; refine sC ?_) | (apply gD; refine sD ?_) | fail)
  refine O_d (dy_call ArgsI.pf (by first | exact rfl | trivial | (intro a b; rfl)) (Vals_ct (.tail _ hv) hl hr)) ?_; rintro _ _ ⟨_, ⟨A, c, l, rfl, rfl, hg, h8⟩, rfl⟩; refine O_n ?_
  refine O_d (dy_call ArgsI.pf (by first | exact rfl | trivial | (intro a b; rfl)) (fEnc_ct (l := l) Sc.pf hg (by omega))) ?_; rintro _ _ ⟨_, ⟨A3, c3, rfl, rfl⟩, rfl⟩; refine O_n ?_
  have hel := encL_drop_len hg 0
  rw [List.drop_zero] at hel
  obtain ⟨enc, henc⟩ : ∃ enc, encL (l.map VV.toVal) = enc := ⟨_, rfl⟩
  rw [henc] at hel ⊢
  repeat' (first | ((fail_if_success apply AtE); refine go ?_) | intro _ | (apply cG; first | refine cT ?_ | refine cF ?_ | refine cS (fun _ => ?_) fun _ => ?_) | (apply gW; refine sW ?_) | (apply gI; refine sI ?_) | (apply gE; refine sE ?_) | (apply gP; refine sP ?_) | (apply gC; refine sC ?_) | (apply gD; refine sD ?_) | fail)
  refine go ?_; refine go ?_; refine C_join (κ := List UInt8) [false, false, false, false, false, false, false, false, false, false, false, false, false, false, false, false, false, false, false, false, false, true, true, true, true, true, true, true, true, true, true, false, false, false, false, false, false, false, false, false, false, false, false, false, false, false, false, false, false, false, false, false, false, false, false, false, false, false, false, false, false, false, false, false, false, false, false, false, false, false, false, false, false, false, false, false, false, false, false, false, false, false, false] (fun k => []) (fun k => [(0, own 5 eB (.slice A3 enc.length c3) k)]) (fun k => k.length = enc.length) ?_ ?_
  · by_cases hz : 0 < enc.length
    · repeat' (first | refine go ?_ | intro _ | (apply cG; first | refine cT ?_ | refine cF ?_ | refine cS (fun _ => ?_) fun _ => ?_) | (apply gW; refine sW ?_) | (apply gI; refine sI ?_) | (apply gE; refine sE ?_) | (apply gP; refine sP ?_) | (apply gC; refine sC ?_) | (apply gD; refine sD ?_) | fail)
      refine O_d (dy_call ArgsI.pf (by first | exact rfl | trivial | (intro a b; rfl)) (Around_ct hn.1 hn.2 (by omega) (by omega))) ?_; rintro _ _ ⟨_, ⟨rfl, hLL⟩, rfl⟩; replace hLL := hLL.symm; subst hLL; refine O_n ?_
      obtain ⟨kk, hkk, hkl⟩ : ∃ kk : Nat, around at_ (enc.length : Int) = (kk : Int) ∧ kk < enc.length := by
        have := around_in (n := at_) (most := enc.length) (by omega)
        exact ⟨(around at_ enc.length).toNat, by omega, by omega⟩
      rw [hkk]
      repeat' (first | refine go ?_ | intro _ | (apply cG; first | refine cT ?_ | refine cF ?_ | refine cS (fun _ => ?_) fun _ => ?_) | (apply gW; refine sW ?_) | (apply gI; refine sI ?_) | (apply gE; refine sE ?_) | (apply gP; refine sP ?_) | (apply gC; refine sC ?_) | (apply gD; refine sD ?_) | fail)
      refine O_d (dy_storeE (f := bv) (hf := fun _ => rfl) (n := enc.length) (c := c3) c8 (hy := by rfl) (hj := hkl)) ?_; rintro _ _ ⟨rfl, rfl⟩; refine O_n ?_
      repeat' (first | refine go ?_ | intro _ | (apply cG; first | refine cT ?_ | refine cF ?_ | refine cS (fun _ => ?_) fun _ => ?_) | (apply gW; refine sW ?_) | (apply gI; refine sI ?_) | (apply gE; refine sE ?_) | (apply gP; refine sP ?_) | (apply gC; refine sC ?_) | (apply gD; refine sD ?_) | fail)
      exact E_join (enc.set kk c8) (List.length_set) trivial
    · repeat' (first | refine go ?_ | intro _ | (apply cG; first | refine cT ?_ | refine cF ?_ | refine cS (fun _ => ?_) fun _ => ?_) | (apply gW; refine sW ?_) | (apply gI; refine sI ?_) | (apply gE; refine sE ?_) | (apply gP; refine sP ?_) | (apply gC; refine sC ?_) | (apply gD; refine sD ?_) | fail)
      exact E_join enc rfl trivial
  rintro turned u hturn
  rw [← hturn] at hel ⊢
  ((try dsimp only); refine C_n ?_; (try simp only [Nat.reduceAdd, Nat.zero_add]))
  repeat' (first | refine go ?_ | intro _ | (apply cG; first | refine cT ?_ | refine cF ?_ | refine cS (fun _ => ?_) fun _ => ?_) | (apply gW; refine sW ?_) | (apply gI; refine sI ?_) | (apply gE; refine sE ?_) | (apply gP; refine sP ?_) | (apply gC; refine sC ?_) | (apply gD; refine sD ?_) | fail)
  refine O_d (dy_call ArgsI.pf (by first | exact rfl | trivial | (intro a b; rfl)) (Few_ct (by repeat (first | exact hraw | apply List.mem_cons_of_mem)) hrl (most := 60) (by decide) (by decide))) ?_; rintro _ _ ⟨_, ⟨A7, c7, rfl, rfl⟩, rfl⟩; refine O_n ?_
  obtain ⟨few, hfew⟩ : ∃ few, raw.take (Int.toNat 60) = few := ⟨_, rfl⟩
  have hfl : few.length ≤ 60 := by rw [← hfew]; exact List.length_take_le _ _
  rw [hfew]
  repeat' (first | refine go ?_ | intro _ | (apply cG; first | refine cT ?_ | refine cF ?_ | refine cS (fun _ => ?_) fun _ => ?_) | (apply gW; refine sW ?_) | (apply gI; refine sI ?_) | (apply gE; refine sE ?_) | (apply gP; refine sP ?_) | (apply gC; refine sC ?_) | (apply gD; refine sD ?_) | fail)
  refine O_frz 0 ?_
  refine O_frz 1 ?_
  refine O_d (dy_litS (R := eSl eB) [few, turned] [.slice A7 few.length c7, .slice A3 turned.length c3] (by rfl) (fun m h hs => ⟨⟨_, rfl, rd_mem hs (by repeat (first | exact .head _ | refine .tail _ ?_))⟩, ⟨_, rfl, rd_mem hs (by repeat (first | exact .head _ | refine .tail _ ?_))⟩, trivial⟩)) ?_; rintro _ _ ⟨_, rfl, rfl⟩; refine O_n ?_
  repeat' (first | refine go ?_ | intro _ | (apply cG; first | refine cT ?_ | refine cF ?_ | refine cS (fun _ => ?_) fun _ => ?_) | (apply gW; refine sW ?_) | (apply gI; refine sI ?_) | (apply gE; refine sE ?_) | (apply gP; refine sP ?_) | (apply gC; refine sC ?_) | (apply gD; refine sD ?_) | fail)
  refine C_loopS (κ := Nat) [false, false, false, false, false, false, false, false, false, false, true, false, false, true, true, true, true, true, false, false, false, false, false, false, false, false, false, false, false, false, false, false, false, false, false, true, true, true, true, true, true, true, true, true, true, true, true, true, true, true, true, true, true, true, true, true, true, true, true, true, true, true, true, true, true, true, true, true, true, true, true, true, true, true, true, true, true, true, true, true, true, true, false] (fun k => [(13, .int .i64 (k : Int))]) (fun k => []) (fun k => k ≤ 2) (fun k => 2 - k) 0 (by decide) ⟨rfl, trivial⟩ ?_
  rintro i u2 hi
  ((try dsimp only); refine C_n ?_; (try simp only [Nat.reduceAdd, Nat.zero_add]))
  by_cases hlt : i < 2
  · obtain ⟨x, hx⟩ : ∃ x, [few, turned][i]? = some x := ⟨_, List.getElem?_eq_getElem hlt⟩
    have hax : At [few, turned] i x := ⟨hx⟩
    have hxl : x.length ≤ 10000 := by
      have := List.mem_of_getElem? hx
      simp only [List.mem_cons, List.not_mem_nil, or_false] at this
      rcases this with rfl | rfl <;> omega
    repeat' (first | refine go ?_ | intro _ | (apply cG; first | refine cT ?_ | refine cF ?_ | refine cS (fun _ => ?_) fun _ => ?_) | (apply gW; refine sW ?_) | (apply gI; refine sI ?_) | (apply gE; refine sE ?_) | (apply gP; refine sP ?_) | (apply gC; refine sC ?_) | (apply gD; refine sD ?_) | fail)
    refine O_d (dy_call ArgsI.pf (by first | exact rfl | trivial | (intro a b; rfl)) (Read_ct (l := x) (.inl (.head _)) (by omega))) ?_; rintro _ _ ⟨_, ⟨p1, rfl, rfl⟩, rfl⟩; refine O_n ?_
    repeat' (first | refine go ?_ | intro _ | (apply cG; first | refine cT ?_ | refine cF ?_ | refine cS (fun _ => ?_) fun _ => ?_) | (apply gW; refine sW ?_) | (apply gI; refine sI ?_) | (apply gE; refine sE ?_) | (apply gP; refine sP ?_) | (apply gC; refine sC ?_) | (apply gD; refine sD ?_) | fail)
    rename_i p2
    refine C_sub fr_sub ?_
    refine C_loopS (κ := Nat × List UInt8 × List UInt8 × Int) [false, false, false, false, false, false, false, false, false, false, true, false, false, false, false, false, true, true, false, false, false, false, false, false, false, false, false, false, false, false, false, false, false, false, false, false, false, false, false, false, false, false, false, false, false, false, false, false, false, false, false, false, true, true, true, true, true, true, true, true, true, true, true, true, true, true, true, true, true, true, true, true, true, true, true, true, true, true, true, true, true, true, false] (fun k => [(16, .int .i64 (k.1 : Int))]) (fun k => [(0, fr p2 k.2.2.1 k.2.2.2), (1, rr p1 k.2.1 k.2.2.2)]) (fun k => k.1 ≤ kinds.length ∧ k.1 ≤ 10 ∧ k.2.1.length ≤ 10000 ∧ k.2.2.1.length ≤ 10000 ∧ (k.2.2.2 = 0 → k.2.2.1 = k.2.1)) (fun k => kinds.length - k.1) (0, x, x, 0) ⟨Nat.zero_le _, Nat.zero_le _, hxl, hxl, fun _ => rfl⟩ ⟨rfl, trivial⟩ ?_
    rintro ⟨j, bs, b, e⟩ u3 ⟨hj, hj10, hbl, hbl2, hsame⟩
    dsimp only at hj hj10 hbl hbl2 hsame
    ((try dsimp only); refine C_n ?_; (try simp only [Nat.reduceAdd, Nat.zero_add]))
    by_cases hgo : j < kinds.length ∧ j < 10
    · obtain ⟨hlk, hl10⟩ := hgo
      obtain ⟨y, hy⟩ : ∃ y, kinds[j]? = some y := ⟨_, List.getElem?_eq_getElem hlk⟩
      have hby := hkr y (List.mem_of_getElem? hy)
      have hay : At kinds j y := ⟨hy⟩
      obtain ⟨kk, hkk⟩ : ∃ kk, around y 6 = kk := ⟨_, rfl⟩
      have hk2 := around_in (n := y) (most := 6) (by decide)
      rw [hkk] at hk2
      obtain ⟨z, b1, e1, hz⟩ : ∃ z b1 e1, rV kk (bs, e) = (z, (b1, e1)) := ⟨_, _, _, rfl⟩
      have hb1 := rV_len kk (bs, e)
      have hzb := rV_blen (k := kk) (s := (bs, e)) (by show bs.length ≤ _; omega)
      obtain ⟨b', hb', hkeep⟩ := rV_same (k := kk) hsame
      rw [hz] at hb1 hb' hkeep hzb
      dsimp only at hb1 hb' hkeep hzb
      repeat' (first | refine go ?_ | intro _ | (apply cG; first | refine cT ?_ | refine cF ?_ | refine cS (fun _ => ?_) fun _ => ?_) | (apply gW; refine sW ?_) | (apply gI; refine sI ?_) | (apply gE; refine sE ?_) | (apply gP; refine sP ?_) | (apply gC; refine sC ?_) | (apply gD; refine sD ?_) | fail)
      refine O_d (dy_call ArgsI.pf (by first | exact rfl | trivial | (intro a b; rfl)) (Around_ct hby.1 hby.2 (by decide) (by decide))) ?_; rintro _ _ ⟨_, ⟨rfl, hLL⟩, rfl⟩; replace hLL := hLL.symm; subst hLL; refine O_n ?_
      rw [hkk]
      repeat' (first | refine go ?_ | intro _ | (apply cG; first | refine cT ?_ | refine cF ?_ | refine cS (fun _ => ?_) fun _ => ?_) | (apply gW; refine sW ?_) | (apply gI; refine sI ?_) | (apply gE; refine sE ?_) | (apply gP; refine sP ?_) | (apply gC; refine sC ?_) | (apply gD; refine sD ?_) | fail)
      refine O_d (dy_call ArgsI.pf (by first | exact rfl | trivial | (intro a b; rfl)) (CT.pull (i := 1) (by rfl) (read_ct (by omega) (by omega) hz (by omega)))) ?_; rintro _ _ ⟨_, ⟨A5, c5, A6, c6, rfl, rfl⟩, rfl⟩; refine O_n ?_
      repeat' (first | refine go ?_ | intro _ | (apply cG; first | refine cT ?_ | refine cF ?_ | refine cS (fun _ => ?_) fun _ => ?_) | (apply gW; refine sW ?_) | (apply gI; refine sI ?_) | (apply gE; refine sE ?_) | (apply gP; refine sP ?_) | (apply gC; refine sC ?_) | (apply gD; refine sD ?_) | fail)
      refine O_d (dy_call ArgsI.pf (by first | exact rfl | trivial | (intro a b; rfl)) (CT.pull (i := 3) (by rfl) (fRd_ct (by omega) (by omega) hb' (by omega)))) ?_; rintro _ _ ⟨_, ⟨b2, A8, c8', A9, c9, ⟨hq1, hq2⟩, rfl, rfl⟩, rfl⟩; refine O_n ?_
      refine O_d (dy_call ArgsI.pf (by first | exact rfl | trivial | (intro a b; rfl)) (Same_ct (x := z) (y := z) (xb := .slice A5 _ c5) (xl := .slice A6 _ c6) (yb := .slice A8 _ c8') (yl := .slice A9 _ c9) (.inl (by repeat (first | exact .head _ | refine .tail _ ?_))) (.inl (by repeat (first | exact .head _ | refine .tail _ ?_))) (.inl (.head _)) (.inl (.tail _ (.head _))) (by omega) (by omega) (q := true) (decide_eq_true rfl))) ?_; rintro _ _ ⟨_, ⟨rfl, hLL⟩, rfl⟩; replace hLL := hLL.symm; subst hLL; refine O_n ?_
      repeat' (first | refine go ?_ | intro _ | (apply cG; first | refine cT ?_ | refine cF ?_ | refine cS (fun _ => ?_) fun _ => ?_) | (apply gW; refine sW ?_) | (apply gI; refine sI ?_) | (apply gE; refine sE ?_) | (apply gP; refine sP ?_) | (apply gC; refine sC ?_) | (apply gD; refine sD ?_) | fail)
      have hend : rEnd (b2, e1) = rEnd (b1, e1) := by
        by_cases h0 : e1 = 0
        · rw [hq1 h0, hkeep h0]
        · rw [rEnd_err h0, rEnd_err h0]
      refine O_d (dy_call ArgsI.pf (by first | exact rfl | trivial | (intro a b; rfl)) (CT.pull (i := 5) (by rfl) (End_ct (bs := b1) (e := e1) (x := rEnd (b1, e1)) rfl (by omega)))) ?_; rintro _ _ ⟨_, ⟨rfl, rfl⟩, rfl⟩; refine O_n ?_
      repeat' (first | refine go ?_ | intro _ | (apply cG; first | refine cT ?_ | refine cF ?_ | refine cS (fun _ => ?_) fun _ => ?_) | (apply gW; refine sW ?_) | (apply gI; refine sI ?_) | (apply gE; refine sE ?_) | (apply gP; refine sP ?_) | (apply gC; refine sC ?_) | (apply gD; refine sD ?_) | fail)
      refine O_d (dy_call ArgsI.pf (by first | exact rfl | trivial | (intro a b; rfl)) (CT.pull (i := 3) (by rfl) (fEnd_ct (bs := b2) (e := e1) (by omega)))) ?_; rintro _ _ ⟨_, ⟨rfl, rfl⟩, rfl⟩; refine O_n ?_
      rw [hend]
      repeat' (first | refine go ?_ | intro _ | (apply cG; first | refine cT ?_ | refine cF ?_ | refine cS (fun _ => ?_) fun _ => ?_) | (apply gW; refine sW ?_) | (apply gI; refine sI ?_) | (apply gE; refine sE ?_) | (apply gP; refine sP ?_) | (apply gC; refine sC ?_) | (apply gD; refine sD ?_) | fail)
      exact E_round (j + 1, b1, b2, e1) ⟨hlk, hl10, by show b1.length ≤ 10000; omega, by show b2.length ≤ 10000; omega, fun h0 => by
        have h0 : e1 = 0 := h0
        show b2 = b1
        rw [hq1 h0, hkeep h0]⟩ (by show kinds.length - (j + 1) < kinds.length - j; omega) ⟨rfl, trivial⟩ Sb
    by_cases hlk : j < kinds.length
    · repeat' (first | refine go ?_ | intro _ | (apply cG; first | refine cT ?_ | refine cF ?_ | refine cS (fun _ => ?_) fun _ => ?_) | (apply gW; refine sW ?_) | (apply gI; refine sI ?_) | (apply gE; refine sE ?_) | (apply gP; refine sP ?_) | (apply gC; refine sC ?_) | (apply gD; refine sD ?_) | fail)
      exact E_round (i + 1) hlt (by show 2 - (i + 1) < 2 - i; omega) ⟨rfl, trivial⟩ Sb
    · repeat' (first | refine go ?_ | intro _ | (apply cG; first | refine cT ?_ | refine cF ?_ | refine cS (fun _ => ?_) fun _ => ?_) | (apply gW; refine sW ?_) | (apply gI; refine sI ?_) | (apply gE; refine sE ?_) | (apply gP; refine sP ?_) | (apply gC; refine sC ?_) | (apply gD; refine sD ?_) | fail)
      exact E_round (i + 1) hlt (by show 2 - (i + 1) < 2 - i; omega) ⟨rfl, trivial⟩ Sb
  · obtain rfl : i = 2 := by omega
    repeat' (first | refine go ?_ | intro _ | (apply cG; first | refine cT ?_ | refine cF ?_ | refine cS (fun _ => ?_) fun _ => ?_) | (apply gW; refine sW ?_) | (apply gI; refine sI ?_) | (apply gE; refine sE ?_) | (apply gP; refine sP ?_) | (apply gC; refine sC ?_) | (apply gD; refine sD ?_) | fail)
    refine O_d (dy_call ArgsI.pf (by first | exact rfl | trivial | (intro a b; rfl)) (lives_ct)) ?_; rintro _ _ ⟨_, ⟨rfl, hLL⟩, rfl⟩; replace hLL := hLL.symm; subst hLL; refine O_n ?_
    repeat' (first | refine go ?_ | intro _ | (apply cG; first | refine cT ?_ | refine cF ?_ | refine cS (fun _ => ?_) fun _ => ?_) | (apply gW; refine sW ?_) | (apply gI; refine sI ?_) | (apply gE; refine sE ?_) | (apply gP; refine sP ?_) | (apply gC; refine sC ?_) | (apply gD; refine sD ?_) | fail)
    refine E_res1 (by rfl) (by rfl) ⟨rfl, rfl⟩ Sb
theorem WireReads_any {vr v vk : Value} {raw : List UInt8} {li kinds : List Int} {at_ : Int} {c8 : UInt8} {w : World} (s : St w w [rd eB vr raw, rd eI v li, rd eI vk kinds]) (hrl : raw.length ≤ 9223372036854775807) (hl : li.length ≤ 9223372036854775807) (hr : ∀ n ∈ li, -9223372036854775808 ≤ n ∧ n ≤ 9223372036854775807) (hn : -9223372036854775808 ≤ at_ ∧ at_ ≤ 9223372036854775807)
    (hkl : kinds.length ≤ 9223372036854775807) (hkr : ∀ n ∈ kinds, -9223372036854775808 ≤ n ∧ n ≤ 9223372036854775807) :
    Calls Try.prog 4 #[vr, v, .int .i64 at_, bv c8, vk] w fun e w' => e = .returned (.bool true) ∧ Below w.heap.size w w' :=
  ((WireReads_ct (W0 := w) (.head _) hrl (.tail _ (.head _)) hl hr hn (.tail _ (.tail _ (.head _))) hkl hkr).run w s).mono fun e w' h => by
    obtain ⟨v, L', rfl, ⟨rfl, rfl⟩, s⟩ := h
    exact ⟨rfl, s.below⟩
end
end Go.Proofs.Ytjaopndlcghkcaa
