/-
  Walks: ChannelOrder.
-/
import Derived.Test.YthbgmnoaaohbcaaMT
namespace Go.Proofs.Ythbgmnoaaohbcaa
open Go Go.RowKit
set_option linter.unusedVariables false
set_option linter.unusedSimpArgs false
set_option maxRecDepth 20000
set_option synthInstance.maxSize 100000
set_option synthInstance.maxHeartbeats 400000
section
variable {W0 : World} {L : List HP}
set_option maxHeartbeats 4000000 in
theorem ChannelOrder_ct {window : Int} {v : Value} {li : List Int} (hw1 : -9223372036854775808 ≤ window) (hw2 : window ≤ 9223372036854775807) (hv : rd eI v li ∈ L) (hl : li.length ≤ 9223372036854775807) (hr : ∀ n ∈ li, -9223372036854775808 ≤ n ∧ n ≤ 9223372036854775807) :
    CT Try.prog 4 #[.int .i64 window, v] W0 L fun r L' => r = .bool true ∧ L' = L := by
  refine CT_fact (fun w st => ((Src.sl (.inl hv) st).form)) ?_
  rintro ⟨Av, cv, rfl, hcv⟩
  obtain ⟨m, hm⟩ : ∃ m, min li.length 80 = m := ⟨_, rfl⟩
  refine CT_enter Try.func4 rfl ?_; (simp only [Try.ntmps4, List.size_toArray, List.length_cons, List.length_nil, Nat.reduceAdd, Nat.reduceSub, Array.replicate_succ, Array.replicate_zero, List.push_toArray, List.append_toArray, List.nil_append, List.cons_append])
  refine C_sub (sub_dup hv) ?_
  repeat' (first | refine go ?_ | intro _ | (apply cG; first | refine cT ?_ | refine cF ?_ | refine cS (fun _ => ?_) fun _ => ?_) | (apply gW; refine sW ?_) | (apply gI; refine sI ?_) | (apply gE; refine sE ?_) | (apply gP; refine sP ?_) | (apply gC; refine sC ?_) | (apply gD; refine sD ?_) | fail)
  refine O_d (dy_call ArgsI.pf (by first | exact rfl | trivial | (intro a b; rfl)) (ends_ct hw1 hw2)) ?_; rintro _ _ ⟨_, ⟨eg, pa, pb, wa, wb, hw, hwa, hwb, rfl, rfl⟩, rfl⟩; refine O_n ?_
  repeat' (first | refine go ?_ | intro _ | (apply cG; first | refine cT ?_ | refine cF ?_ | refine cS (fun _ => ?_) fun _ => ?_) | (apply gW; refine sW ?_) | (apply gI; refine sI ?_) | (apply gE; refine sE ?_) | (apply gP; refine sP ?_) | (apply gC; refine sC ?_) | (apply gD; refine sD ?_) | fail)
  refine O_d (dy_litP (f := rv) (hf := fun _ => rfl) [(none, 0, 0), (none, 0, 0)] (by rfl)) ?_; rintro _ _ ⟨_, rfl, rfl⟩; refine O_n ?_
  repeat' (first | refine go ?_ | intro _ | (apply cG; first | refine cT ?_ | refine cF ?_ | refine cS (fun _ => ?_) fun _ => ?_) | (apply gW; refine sW ?_) | (apply gI; refine sI ?_) | (apply gE; refine sE ?_) | (apply gP; refine sP ?_) | (apply gC; refine sC ?_) | (apply gD; refine sD ?_) | fail)
  refine O_d (dy_litP (f := iv) (hf := fun _ => rfl) [0, 0] (by rfl)) ?_; rintro _ _ ⟨_, rfl, rfl⟩; refine O_n ?_
  repeat' (first | refine go ?_ | intro _ | (apply cG; first | refine cT ?_ | refine cF ?_ | refine cS (fun _ => ?_) fun _ => ?_) | (apply gW; refine sW ?_) | (apply gI; refine sI ?_) | (apply gE; refine sE ?_) | (apply gP; refine sP ?_) | (apply gC; refine sC ?_) | (apply gD; refine sD ?_) | fail)
  rename_i sg gg
  refine C_ownnil 31 (eSl eB) ?_
  refine C_ownnil 31 (eSl eB) ?_
  refine C_ownnil 3 eI ?_
  refine C_ownnil 44 ePK ?_
  refine C_sub (S := own 44 ePK (.slice none 0 0) [] :: own 3 eI (.slice none 0 0) [] :: own 3 eI (.slice (some ⟨gg, 0, none⟩) 2 2) [0, 0] :: own 42 eRw (.slice (some ⟨sg, 0, none⟩) 2 2) [(none, 0, 0), (none, 0, 0)] :: own 31 (eSl eB) (.slice none 0 0) [] :: own 31 (eSl eB) (.slice none 0 0) [] :: ende pa ⟨wa, 0, 0, [], [], false⟩ :: ende pb ⟨wb, 0, 0, [], [], false⟩ :: rd ePt (.slice (some ⟨eg, 0, none⟩) 2 2) [pa, pb] :: rd eI (.slice Av li.length cv) li :: L) Sb ?_
  refine C_loopS (κ := OS) [false, false, false, false, true, false, false, false, true, true, true, true, true, true, true, true, true, true, true, true, true, false, false, false, false, false, false, true, true, true, true, true, true, true, true, true, true, true, true, true, true, true, true, true, true, true, true, true, true, true, true, true, true, true, true, true, true, true, true, true, true, true, true, true, true, true, true, true, true, true, true, true, true, true, true, true, true, true, true, true, true, true, true, true, true, true, true, true, true, true, true, true, true, true, true, true, true, true, true, true, true, true, true, true, true, true, true, true, true, true, true, true, true, true, true, true, true, true, true, true, true, true, true, true, true, true, true, true, true, true, true, true, true, true, true, true, true, true, true, true, true, true, true, true, true, true, true, true, true, true, true, true, true, true, true, true, true, true, true, true, true, true, true, true, true, true, true, true, true, true, true, true, true, true, true, true, true, true, true, true, true, true, true, true, true, true, true, true, true, true, true, true, true, true, true, true, false] (fun k => [(8, .slice k.la k.link.length k.lc), (9, .slice k.ta k.to.length k.tc), (10, .int .i64 (k.i : Int))]) (fun k => [(0, own 44 ePK (.slice k.la k.link.length k.lc) k.link), (1, own 3 eI (.slice k.ta k.to.length k.tc) k.to), (2, own 3 eI (.slice (some ⟨gg, 0, none⟩) 2 2) [k.g0, k.g1]), (3, own 42 eRw (.slice (some ⟨sg, 0, none⟩) 2 2) [(k.a0, k.s0.length, k.c0), (k.a1, k.s1.length, k.c1)]), (4, own 31 (eSl eB) (.slice k.a0 k.s0.length k.c0) k.s0), (5, own 31 (eSl eB) (.slice k.a1 k.s1.length k.c1) k.s1), (6, ende pa k.e0), (7, ende pb k.e1)]) (fun k => OI m k) (fun k => m - k.i) ⟨0, ⟨wa, 0, 0, [], [], false⟩, ⟨wb, 0, 0, [], [], false⟩, [], [], none, 0, none, 0, 0, 0, [], none, 0, [], none, 0⟩ ⟨Nat.zero_le _, ⟨rfl, Int.le_refl _, Int.le_refl _, Int.le_refl _, Int.le_refl _, ⟨List.nodup_nil, fun p hp => by cases hp⟩⟩, ⟨rfl, Int.le_refl _, Int.le_refl _, Int.le_refl _, Int.le_refl _, ⟨List.nodup_nil, fun p hp => by cases hp⟩⟩, rfl, rfl, Int.le_refl _, Int.le_refl _, ⟨hw.1, hw.2.1⟩, ⟨hw.2.2.1, hw.2.2.2⟩, Nat.le_refl _, Nat.le_refl _, Nat.le_refl _, Nat.le_refl _, (fun x hx => by cases hx), (fun x hx => by cases hx), rfl, Nat.le_refl _, (fun j x t h => by simp at h)⟩ ⟨rfl, rfl, rfl, trivial⟩ ?_
  rintro ⟨i, e0, e1, s0, s1, a0, c0, a1, c1, g0, g1, link, la, lc, to, ta, tc⟩ u hI
  have hi := hI.i
  dsimp only at hi
  dsimp only
  ((try dsimp only); refine C_n ?_; (try simp only [Nat.reduceAdd, Nat.zero_add]))
  by_cases hlt : i < m
  rotate_left
  · obtain rfl : i = m := by omega
    by_cases h80 : i < li.length
    · have : i = 80 := by omega
      repeat' (first | refine go ?_ | intro _ | (apply cG; first | refine cT ?_ | refine cF ?_ | refine cS (fun _ => ?_) fun _ => ?_) | (apply gW; refine sW ?_) | (apply gI; refine sI ?_) | (apply gE; refine sE ?_) | (apply gP; refine sP ?_) | (apply gC; refine sC ?_) | (apply gD; refine sD ?_) | fail)
      refine O_d (dy_call ArgsI.pf (by first | exact rfl | trivial | (intro a b; rfl)) (lives_ct)) ?_; rintro _ _ ⟨_, ⟨rfl, hLL⟩, rfl⟩; replace hLL := hLL.symm; subst hLL; refine O_n ?_
      repeat' (first | refine go ?_ | intro _ | (apply cG; first | refine cT ?_ | refine cF ?_ | refine cS (fun _ => ?_) fun _ => ?_) | (apply gW; refine sW ?_) | (apply gI; refine sI ?_) | (apply gE; refine sE ?_) | (apply gP; refine sP ?_) | (apply gC; refine sC ?_) | (apply gD; refine sD ?_) | fail)
      refine E_res1 (by rfl) (by rfl) ⟨rfl, rfl⟩ Sb
    · repeat' (first | refine go ?_ | intro _ | (apply cG; first | refine cT ?_ | refine cF ?_ | refine cS (fun _ => ?_) fun _ => ?_) | (apply gW; refine sW ?_) | (apply gI; refine sI ?_) | (apply gE; refine sE ?_) | (apply gP; refine sP ?_) | (apply gC; refine sC ?_) | (apply gD; refine sD ?_) | fail)
      refine O_d (dy_call ArgsI.pf (by first | exact rfl | trivial | (intro a b; rfl)) (lives_ct)) ?_; rintro _ _ ⟨_, ⟨rfl, hLL⟩, rfl⟩; replace hLL := hLL.symm; subst hLL; refine O_n ?_
      repeat' (first | refine go ?_ | intro _ | (apply cG; first | refine cT ?_ | refine cF ?_ | refine cS (fun _ => ?_) fun _ => ?_) | (apply gW; refine sW ?_) | (apply gI; refine sI ?_) | (apply gE; refine sE ?_) | (apply gP; refine sP ?_) | (apply gC; refine sC ?_) | (apply gD; refine sD ?_) | fail)
      refine E_res1 (by rfl) (by rfl) ⟨rfl, rfl⟩ Sb
  obtain ⟨x, hx⟩ : ∃ x, li[i]? = some x := ⟨_, List.getElem?_eq_getElem (by omega)⟩
  have hax : At li i x := ⟨hx⟩
  have hxr := hr x (List.mem_of_getElem? hx)
  have hq8 := tdiv_bd (n := x) (d := 8) (by decide) hxr.1 hxr.2
  have hwr : IntKind.i64.wrap (x.tdiv 8) = x.tdiv 8 := wr_i64 hq8.1 hq8.2
  repeat' (first | refine go ?_ | intro _ | (apply cG; first | refine cT ?_ | refine cF ?_ | refine cS (fun _ => ?_) fun _ => ?_) | (apply gI; refine sI ?_) | (apply gE; refine sE ?_) | (apply gP; refine sP ?_) | (apply gC; refine sC ?_) | (apply gD; refine sD ?_) | fail)
  apply gW; refine sW (r := x.tdiv 8) ?_ ⟨by decide, hwr⟩
  repeat' (first | refine go ?_ | intro _ | (apply cG; first | refine cT ?_ | refine cF ?_ | refine cS (fun _ => ?_) fun _ => ?_) | (apply gW; refine sW ?_) | (apply gI; refine sI ?_) | (apply gE; refine sE ?_) | (apply gP; refine sP ?_) | (apply gC; refine sC ?_) | (apply gD; refine sD ?_) | fail)
  refine O_d (dy_call ArgsI.pf (by first | exact rfl | trivial | (intro a b; rfl)) (Around_ct (most := 1073741824) hq8.1 hq8.2 (by decide) (by decide))) ?_; rintro _ _ ⟨_, ⟨rfl, hLL⟩, rfl⟩; replace hLL := hLL.symm; subst hLL; refine O_n ?_
  obtain ⟨n, hn, hn2⟩ : ∃ n : Nat, around (x.tdiv 8) 1073741824 = (n : Int) ∧ n < 1073741824 := by
    have := around_in (n := x.tdiv 8) (most := 1073741824) (by decide)
    exact ⟨(around (x.tdiv 8) 1073741824).toNat, by omega, by omega⟩
  rw [hn]
  obtain ⟨k, hk, hk2⟩ : ∃ k : Int, (n : Int) % 2 = k ∧ (k = 0 ∨ k = 1) := ⟨_, rfl, by omega⟩
  repeat' (first | refine go ?_ | intro _ | (apply cG; first | refine cT ?_ | refine cF ?_ | refine cS (fun _ => ?_) fun _ => ?_) | (apply gW; refine sW ?_) | (apply gI; refine sI ?_) | (apply gE; refine sE ?_) | (apply gP; refine sP ?_) | (apply gC; refine sC ?_) | (apply gD; refine sD ?_) | fail)
  rw [hk]
  refine O_d (dy_call ArgsI.pf (by first | exact rfl | trivial | (intro a b; rfl)) (Around_ct (most := 8) hxr.1 hxr.2 (by decide) (by decide))) ?_; rintro _ _ ⟨_, ⟨rfl, hLL⟩, rfl⟩; replace hLL := hLL.symm; subst hLL; refine O_n ?_
  obtain ⟨c, hc, hc8⟩ : ∃ c : Nat, around x 8 = (c : Int) ∧ c < 8 := by
    have := around_in (n := x) (most := 8) (by decide)
    exact ⟨(around x 8).toNat, by omega, by omega⟩
  rw [hc]
  have hp0 : At [pa, pb] 0 pa := ⟨rfl⟩
  have hp1 : At [pa, pb] 1 pb := ⟨rfl⟩
  have hr0 : At [(a0, s0.length, c0), (a1, s1.length, c1)] 0 (a0, s0.length, c0) := ⟨rfl⟩
  have hr1 : At [(a0, s0.length, c0), (a1, s1.length, c1)] 1 (a1, s1.length, c1) := ⟨rfl⟩
  have hg00 : At [g0, g1] 0 g0 := ⟨rfl⟩
  have hg11 : At [g0, g1] 1 g1 := ⟨rfl⟩
  repeat' (first | ((fail_if_success apply AtE); refine go ?_) | intro _ | (apply cG; first | refine cT ?_ | refine cF ?_ | refine cS (fun _ => ?_) fun _ => ?_) | (apply gW; refine sW ?_) | (apply gI; refine sI ?_) | (apply gE; refine sE ?_) | (apply gP; refine sP ?_) | (apply gC; refine sC ?_) | (apply gD; refine sD ?_) | fail)
  refine go ?_; refine C_join (κ := OS) [false, false, false, false, true, false, false, false, true, true, false, false, false, true, true, true, true, true, true, true, false, false, false, false, false, false, false, false, false, false, false, false, false, false, false, false, false, false, false, false, false, false, false, false, false, false, false, false, false, false, true, true, true, true, true, true, true, true, true, true, true, true, true, true, true, true, true, true, true, true, true, true, true, true, true, true, true, true, true, true, true, true, true, true, true, true, true, true, true, true, true, true, true, true, true, true, true, true, true, true, true, true, true, true, true, true, true, true, true, true, true, true, true, true, true, true, true, true, true, true, true, true, true, true, true, true, true, true, true, true, true, true, true, true, true, true, true, true, true, true, true, true, true, true, true, true, true, true, true, true, true, true, true, true, true, true, true, true, true, true, true, true, false, false, false, false, false, false, false, false, false, false, false, false, false, false, false, false, false, false, false, false, false, false, false, false, false, false, false, false, false, false, false, false, false, false, false] (fun k => [(8, .slice k.la k.link.length k.lc), (9, .slice k.ta k.to.length k.tc)]) (fun k => [(0, own 44 ePK (.slice k.la k.link.length k.lc) k.link), (1, own 3 eI (.slice k.ta k.to.length k.tc) k.to), (2, own 3 eI (.slice (some ⟨gg, 0, none⟩) 2 2) [k.g0, k.g1]), (3, own 42 eRw (.slice (some ⟨sg, 0, none⟩) 2 2) [(k.a0, k.s0.length, k.c0), (k.a1, k.s1.length, k.c1)]), (4, own 31 (eSl eB) (.slice k.a0 k.s0.length k.c0) k.s0), (5, own 31 (eSl eB) (.slice k.a1 k.s1.length k.c1) k.s1), (6, ende pa k.e0), (7, ende pb k.e1)]) (fun k => k.i = i + 1 ∧ OI m k) ?_ ?_
  · refine go ?_
    refine go ?_
    obtain ⟨q, hq⟩ : ∃ q, decide (c = 0 ∨ c = 1) = q := ⟨_, rfl⟩
    refine C_join (κ := Unit) [false, false, false, false, false, false, false, false, false, false, false, false, false, false, false, false, false, false, false, false, false, false, false, false, false, false, false, false, false, false, false, false, false, false, false, false, false, false, false, false, false, false, false, false, false, false, false, false, false, false, false, false, false, false, false, false, false, false, false, false, false, false, false, false, false, false, false, false, false, false, false, false, false, false, false, false, false, false, false, false, false, false, false, false, false, false, false, false, false, false, false, false, false, false, false, false, false, false, false, false, false, false, false, false, false, false, false, false, false, false, false, false, false, true, true, true, false, false, false, false, false, false, false, false, false, false, false, false, false, false, false, false, false, false, false, false, false, false, false, false, false, false, false, false, false, false, false, false, false, false, false, false, false, false, false, false, false, false, false, false, false, false, false, false, false, false, false, false, false, false, false, false, false, false, false, false, false, false, false, false, false, false, false, false, false, false, false, false, false, false, false, false, false, false, false, false, false] (fun _ => [(113, .bool q)]) (fun _ => []) (fun _ => True) ?_ ?_
    · by_cases h0 : c = 0
      · obtain rfl : q = true := by rw [← hq]; exact decide_eq_true (.inl h0)
        repeat' (first | refine go ?_ | intro _ | (apply cG; first | refine cT ?_ | refine cF ?_ | refine cS (fun _ => ?_) fun _ => ?_) | (apply gW; refine sW ?_) | (apply gI; refine sI ?_) | (apply gE; refine sE ?_) | (apply gP; refine sP ?_) | (apply gC; refine sC ?_) | (apply gD; refine sD ?_) | fail)
        exact E_join () trivial ⟨rfl, trivial⟩
      · by_cases h1 : c = 1
        · obtain rfl : q = true := by rw [← hq]; exact decide_eq_true (.inr h1)
          repeat' (first | refine go ?_ | intro _ | (apply cG; first | refine cT ?_ | refine cF ?_ | refine cS (fun _ => ?_) fun _ => ?_) | (apply gW; refine sW ?_) | (apply gI; refine sI ?_) | (apply gE; refine sE ?_) | (apply gP; refine sP ?_) | (apply gC; refine sC ?_) | (apply gD; refine sD ?_) | fail)
          exact E_join () trivial ⟨rfl, trivial⟩
        · obtain rfl : q = false := by rw [← hq]; exact decide_eq_false (by omega)
          repeat' (first | refine go ?_ | intro _ | (apply cG; first | refine cT ?_ | refine cF ?_ | refine cS (fun _ => ?_) fun _ => ?_) | (apply gW; refine sW ?_) | (apply gI; refine sI ?_) | (apply gE; refine sE ?_) | (apply gP; refine sP ?_) | (apply gC; refine sC ?_) | (apply gD; refine sD ?_) | fail)
          exact E_join () trivial ⟨rfl, trivial⟩
    rintro ⟨⟩ u2 _
    ((try dsimp only); refine C_n ?_; (try simp only [Nat.reduceAdd, Nat.zero_add]))
    cases q
    rotate_left
    · obtain ⟨b8, hb8⟩ : ∃ b8 : UInt8, (i : Int) = (b8.toNat : Int) := ⟨UInt8.ofNat i, by rw [UInt8.toNat_ofNat']; omega⟩
      have hb8w : IntKind.u8.wrap (i : Int) = (b8.toNat : Int) := by rw [← hb8]; exact wr_u8 (by omega) (by omega)
      have hsl0 : (s0 ++ [[b8, 3]]).length = s0.length + 1 := by rw [List.length_append]; rfl
      have hsl1 : (s1 ++ [[b8, 3]]).length = s1.length + 1 := by rw [List.length_append]; rfl
      rcases hk2 with rfl | rfl
      · repeat' (first | refine go ?_ | intro _ | (apply cG; first | refine cT ?_ | refine cF ?_ | refine cS (fun _ => ?_) fun _ => ?_) | (apply gI; refine sI ?_) | (apply gE; refine sE ?_) | (apply gP; refine sP ?_) | (apply gC; refine sC ?_) | (apply gD; refine sD ?_) | fail)
        apply gW; refine sW (r := (b8.toNat : Int)) ?_ hb8w
        repeat' (first | refine go ?_ | intro _ | (apply cG; first | refine cT ?_ | refine cF ?_ | refine cS (fun _ => ?_) fun _ => ?_) | (apply gW; refine sW ?_) | (apply gI; refine sI ?_) | (apply gE; refine sE ?_) | (apply gP; refine sP ?_) | (apply gC; refine sC ?_) | (apply gD; refine sD ?_) | fail)
        refine O_d (dy_litP (f := bv) (hf := fun _ => rfl) [b8, 3] (by rfl)) ?_; rintro _ _ ⟨_, rfl, rfl⟩; refine O_n ?_
        refine O_frz 0 ?_
        repeat' (first | refine go ?_ | intro _ | (apply cG; first | refine cT ?_ | refine cF ?_ | refine cS (fun _ => ?_) fun _ => ?_) | (apply gW; refine sW ?_) | (apply gI; refine sI ?_) | (apply gE; refine sE ?_) | (apply gP; refine sP ?_) | (apply gC; refine sC ?_) | (apply gD; refine sD ?_) | fail)
        refine O_d (dy_call ArgsI.pf (by first | exact rfl | trivial | (intro a b; rfl)) (CT.pull (i := 7) (by rfl) (Send_e (b := [b8, 3]) (e' := { e0 with wait := e0.wait ++ [[b8, 3]] }) Sc.pf (by show 2 ≤ 65536; decide) (by have := hI.wl0; dsimp only at this; omega) rfl))) ?_; rintro _ _ ⟨_, ⟨rfl, rfl⟩, rfl⟩; refine O_n ?_
        repeat' (first | refine go ?_ | intro _ | (apply cG; first | refine cT ?_ | refine cF ?_ | refine cS (fun _ => ?_) fun _ => ?_) | (apply gW; refine sW ?_) | (apply gI; refine sI ?_) | (apply gE; refine sE ?_) | (apply gP; refine sP ?_) | (apply gC; refine sC ?_) | (apply gD; refine sD ?_) | fail)
        refine O_d (dy_litS (R := eSl eB) [[b8, 3]] [.slice _ 2 2] (by rfl) (fun m h hs => ⟨⟨_, rfl, rd_mem hs (by repeat (first | exact .head _ | refine .tail _ ?_))⟩, trivial⟩)) ?_; rintro _ _ ⟨_, rfl, rfl⟩; refine O_n ?_
        refine O_d (dy_append (i := 7) (l := s0) (l2 := [[b8, 3]]) (hm := rfl) (hb := by have := hI.n0; dsimp only at this; omega) (h63 := by have := hI.n0; dsimp only at this; omega)) ?_; rintro _ _ ⟨A9, c9, rfl, rfl⟩; refine O_n ?_
        repeat' (first | refine go ?_ | intro _ | (apply cG; first | refine cT ?_ | refine cF ?_ | refine cS (fun _ => ?_) fun _ => ?_) | (apply gW; refine sW ?_) | (apply gI; refine sI ?_) | (apply gE; refine sE ?_) | (apply gP; refine sP ?_) | (apply gC; refine sC ?_) | (apply gD; refine sD ?_) | fail)
        refine O_d (dy_storeE (f := rv) (hf := fun _ => rfl) (j := 0) (n := 2) (c := 2) (A9, s0.length + 1, c9) (hy := by rfl) (hj := by show _ < 2; decide)) ?_; rintro _ _ ⟨rfl, rfl⟩; refine O_n ?_
        repeat' (first | refine go ?_ | intro _ | (apply cG; first | refine cT ?_ | refine cF ?_ | refine cS (fun _ => ?_) fun _ => ?_) | (apply gW; refine sW ?_) | (apply gI; refine sI ?_) | (apply gE; refine sE ?_) | (apply gP; refine sP ?_) | (apply gC; refine sC ?_) | (apply gD; refine sD ?_) | fail)
        exact E_join ⟨i + 1, { e0 with wait := e0.wait ++ [[b8, 3]] }, e1, s0 ++ [[b8, 3]], s1, A9, c9, a1, c1, g0, g1, link, la, lc, to, ta, tc⟩ ⟨rfl, hI.send0 (by omega) (Nat.le_refl _)⟩ ⟨rfl, rfl, trivial⟩ (by rw [hsl0]; exact Sb)
      · repeat' (first | refine go ?_ | intro _ | (apply cG; first | refine cT ?_ | refine cF ?_ | refine cS (fun _ => ?_) fun _ => ?_) | (apply gI; refine sI ?_) | (apply gE; refine sE ?_) | (apply gP; refine sP ?_) | (apply gC; refine sC ?_) | (apply gD; refine sD ?_) | fail)
        apply gW; refine sW (r := (b8.toNat : Int)) ?_ hb8w
        repeat' (first | refine go ?_ | intro _ | (apply cG; first | refine cT ?_ | refine cF ?_ | refine cS (fun _ => ?_) fun _ => ?_) | (apply gW; refine sW ?_) | (apply gI; refine sI ?_) | (apply gE; refine sE ?_) | (apply gP; refine sP ?_) | (apply gC; refine sC ?_) | (apply gD; refine sD ?_) | fail)
        refine O_d (dy_litP (f := bv) (hf := fun _ => rfl) [b8, 3] (by rfl)) ?_; rintro _ _ ⟨_, rfl, rfl⟩; refine O_n ?_
        refine O_frz 0 ?_
        repeat' (first | refine go ?_ | intro _ | (apply cG; first | refine cT ?_ | refine cF ?_ | refine cS (fun _ => ?_) fun _ => ?_) | (apply gW; refine sW ?_) | (apply gI; refine sI ?_) | (apply gE; refine sE ?_) | (apply gP; refine sP ?_) | (apply gC; refine sC ?_) | (apply gD; refine sD ?_) | fail)
        refine O_d (dy_call ArgsI.pf (by first | exact rfl | trivial | (intro a b; rfl)) (CT.pull (i := 8) (by rfl) (Send_e (b := [b8, 3]) (e' := { e1 with wait := e1.wait ++ [[b8, 3]] }) Sc.pf (by show 2 ≤ 65536; decide) (by have := hI.wl1; dsimp only at this; omega) rfl))) ?_; rintro _ _ ⟨_, ⟨rfl, rfl⟩, rfl⟩; refine O_n ?_
        repeat' (first | refine go ?_ | intro _ | (apply cG; first | refine cT ?_ | refine cF ?_ | refine cS (fun _ => ?_) fun _ => ?_) | (apply gW; refine sW ?_) | (apply gI; refine sI ?_) | (apply gE; refine sE ?_) | (apply gP; refine sP ?_) | (apply gC; refine sC ?_) | (apply gD; refine sD ?_) | fail)
        refine O_d (dy_litS (R := eSl eB) [[b8, 3]] [.slice _ 2 2] (by rfl) (fun m h hs => ⟨⟨_, rfl, rd_mem hs (by repeat (first | exact .head _ | refine .tail _ ?_))⟩, trivial⟩)) ?_; rintro _ _ ⟨_, rfl, rfl⟩; refine O_n ?_
        refine O_d (dy_append (i := 8) (l := s1) (l2 := [[b8, 3]]) (hm := rfl) (hb := by have := hI.n1; dsimp only at this; omega) (h63 := by have := hI.n1; dsimp only at this; omega)) ?_; rintro _ _ ⟨A9, c9, rfl, rfl⟩; refine O_n ?_
        repeat' (first | refine go ?_ | intro _ | (apply cG; first | refine cT ?_ | refine cF ?_ | refine cS (fun _ => ?_) fun _ => ?_) | (apply gW; refine sW ?_) | (apply gI; refine sI ?_) | (apply gE; refine sE ?_) | (apply gP; refine sP ?_) | (apply gC; refine sC ?_) | (apply gD; refine sD ?_) | fail)
        refine O_d (dy_storeE (f := rv) (hf := fun _ => rfl) (j := 1) (n := 2) (c := 2) (A9, s1.length + 1, c9) (hy := by rfl) (hj := by show _ < 2; decide)) ?_; rintro _ _ ⟨rfl, rfl⟩; refine O_n ?_
        repeat' (first | refine go ?_ | intro _ | (apply cG; first | refine cT ?_ | refine cF ?_ | refine cS (fun _ => ?_) fun _ => ?_) | (apply gW; refine sW ?_) | (apply gI; refine sI ?_) | (apply gE; refine sE ?_) | (apply gP; refine sP ?_) | (apply gC; refine sC ?_) | (apply gD; refine sD ?_) | fail)
        exact E_join ⟨i + 1, e0, { e1 with wait := e1.wait ++ [[b8, 3]] }, s0, s1 ++ [[b8, 3]], a0, c0, A9, c9, g0, g1, link, la, lc, to, ta, tc⟩ ⟨rfl, hI.send1 (by omega) (Nat.le_refl _)⟩ ⟨rfl, rfl, trivial⟩ (by rw [hsl1]; exact Sb)
    refine go ?_
    refine go ?_
    obtain ⟨q, hq⟩ : ∃ q, decide (c = 2 ∨ c = 3) = q := ⟨_, rfl⟩
    refine C_join (κ := Unit) [false, false, false, false, false, false, false, false, false, false, false, false, false, false, false, false, false, false, false, false, false, false, false, false, false, false, false, false, false, false, false, false, false, false, false, false, false, false, false, false, false, false, false, false, false, false, false, false, false, false, false, false, false, false, false, false, false, false, false, false, false, false, false, false, false, false, false, false, false, false, false, false, false, false, false, false, false, false, false, false, false, false, false, false, false, false, false, false, false, false, false, false, false, false, false, false, false, false, false, false, false, false, false, false, false, false, false, false, false, false, false, false, false, false, false, false, false, false, false, false, false, false, false, false, false, false, false, false, false, false, false, false, false, false, false, false, true, true, true, false, false, false, false, false, false, false, false, false, false, false, false, false, false, false, false, false, false, false, false, false, false, false, false, false, false, false, false, false, false, false, false, false, false, false, false, false, false, false, false, false, false, false, false, false, false, false, false, false, false, false, false, false, false, false, false, false, false] (fun _ => [(136, .bool q)]) (fun _ => []) (fun _ => True) ?_ ?_
    · by_cases h0 : c = 2
      · obtain rfl : q = true := by rw [← hq]; exact decide_eq_true (.inl h0)
        repeat' (first | refine go ?_ | intro _ | (apply cG; first | refine cT ?_ | refine cF ?_ | refine cS (fun _ => ?_) fun _ => ?_) | (apply gW; refine sW ?_) | (apply gI; refine sI ?_) | (apply gE; refine sE ?_) | (apply gP; refine sP ?_) | (apply gC; refine sC ?_) | (apply gD; refine sD ?_) | fail)
        exact E_join () trivial ⟨rfl, trivial⟩
      · by_cases h1 : c = 3
        · obtain rfl : q = true := by rw [← hq]; exact decide_eq_true (.inr h1)
          repeat' (first | refine go ?_ | intro _ | (apply cG; first | refine cT ?_ | refine cF ?_ | refine cS (fun _ => ?_) fun _ => ?_) | (apply gW; refine sW ?_) | (apply gI; refine sI ?_) | (apply gE; refine sE ?_) | (apply gP; refine sP ?_) | (apply gC; refine sC ?_) | (apply gD; refine sD ?_) | fail)
          exact E_join () trivial ⟨rfl, trivial⟩
        · obtain rfl : q = false := by rw [← hq]; exact decide_eq_false (by omega)
          repeat' (first | refine go ?_ | intro _ | (apply cG; first | refine cT ?_ | refine cF ?_ | refine cS (fun _ => ?_) fun _ => ?_) | (apply gW; refine sW ?_) | (apply gI; refine sI ?_) | (apply gE; refine sE ?_) | (apply gP; refine sP ?_) | (apply gC; refine sC ?_) | (apply gD; refine sD ?_) | fail)
          exact E_join () trivial ⟨rfl, trivial⟩
    rintro ⟨⟩ u3 _
    ((try dsimp only); refine C_n ?_; (try simp only [Nat.reduceAdd, Nat.zero_add]))
    cases q
    rotate_left
    · rcases hk2 with rfl | rfl
      · repeat' (first | refine go ?_ | intro _ | (apply cG; first | refine cT ?_ | refine cF ?_ | refine cS (fun _ => ?_) fun _ => ?_) | (apply gW; refine sW ?_) | (apply gI; refine sI ?_) | (apply gE; refine sE ?_) | (apply gP; refine sP ?_) | (apply gC; refine sC ?_) | (apply gD; refine sD ?_) | fail)
        refine O_d (dy_call ArgsI.pf (by first | exact rfl | trivial | (intro a b; rfl)) (CT.pull (i := 6) (by rfl) (Out_e (e' := { e0 with ow := false }) (hI.good0 (by omega)) hI.w0.1 hI.w0.2 hI.wb0 rfl))) ?_; rintro _ _ ⟨_, ⟨A1, c1', l, hl, rfl, rfl⟩, rfl⟩; refine O_n ?_
        have hll : l.length ≤ 16 := by
          have h1 := congrArg List.length hl
          have h2 := outP_len (w := e0.w) (acked := e0.acked) (got := e0.got) (wait := e0.wait) (ow := e0.ow) hI.w0.2
          rw [List.length_map] at h1
          rw [h1]
          exact h2
        have hlk := hI.ll
        have htl := hI.tl
        dsimp only at hlk htl
        repeat' (first | refine go ?_ | intro _ | (apply cG; first | refine cT ?_ | refine cF ?_ | refine cS (fun _ => ?_) fun _ => ?_) | (apply gW; refine sW ?_) | (apply gI; refine sI ?_) | (apply gE; refine sE ?_) | (apply gP; refine sP ?_) | (apply gC; refine sC ?_) | (apply gD; refine sD ?_) | fail)
        refine C_loopS (κ := Nat × Option Addr × Nat × Option Addr × Nat) [false, false, false, false, false, false, false, false, true, true, false, false, false, false, false, true, false, false, false, false, false, false, false, false, false, false, false, false, false, false, false, false, false, false, false, false, false, false, false, false, false, false, false, false, false, false, false, false, false, false, false, false, false, false, false, false, false, false, false, false, false, false, false, false, false, false, false, false, false, false, false, false, false, false, false, false, false, false, false, false, false, false, false, false, false, false, false, false, false, false, false, false, false, false, false, false, false, false, false, false, false, false, false, false, false, false, false, false, false, false, false, false, false, false, false, false, false, false, false, false, false, false, false, false, false, false, false, false, false, false, false, false, false, false, false, false, false, false, false, false, false, false, false, false, true, true, true, true, true, true, true, true, true, true, true, true, true, true, true, true, true, true, false, false, false, false, false, false, false, false, false, false, false, false, false, false, false, false, false, false, false, false, false, false, false, false, false, false, false, false, false, false, false, false, false, false, false] (fun k => [(8, .slice k.2.1 (link ++ l.take k.1).length k.2.2.1), (9, .slice k.2.2.2.1 (to ++ List.replicate k.1 1).length k.2.2.2.2), (15, .int .i64 (k.1 : Int))]) (fun k => [(2, own 44 ePK (.slice k.2.1 (link ++ l.take k.1).length k.2.2.1) (link ++ l.take k.1)), (3, own 3 eI (.slice k.2.2.2.1 (to ++ List.replicate k.1 1).length k.2.2.2.2) (to ++ List.replicate k.1 1))]) (fun k => k.1 ≤ l.length) (fun k => l.length - k.1) (0, la, lc, ta, tc) (Nat.zero_le _) (by simp only [List.take_zero, List.append_nil, List.replicate_zero]; exact ⟨rfl, rfl, rfl, trivial⟩) ?_ (by simp only [List.take_zero, List.append_nil, List.replicate_zero]; exact Sb)
        rintro ⟨j, LA, LC, TA, TC⟩ u3 hj
        dsimp only at hj
        dsimp only
        have hj1 : (link ++ l.take j).length = link.length + j := by rw [List.length_append, List.length_take]; omega
        have hj2 : (to ++ List.replicate j (1 : Int)).length = to.length + j := by rw [List.length_append, List.length_replicate]
        rw [hj1, hj2]
        ((try dsimp only); refine C_n ?_; (try simp only [Nat.reduceAdd, Nat.zero_add]))
        by_cases hjl : j < l.length
        · obtain ⟨y, hy⟩ : ∃ y, l[j]? = some y := ⟨_, List.getElem?_eq_getElem hjl⟩
          have hay : At l j y := ⟨hy⟩
          have ht1 : l.take (j + 1) = l.take j ++ [y] := by rw [List.take_add_one, hy]; rfl
          repeat' (first | refine go ?_ | intro _ | (apply cG; first | refine cT ?_ | refine cF ?_ | refine cS (fun _ => ?_) fun _ => ?_) | (apply gW; refine sW ?_) | (apply gI; refine sI ?_) | (apply gE; refine sE ?_) | (apply gP; refine sP ?_) | (apply gC; refine sC ?_) | (apply gD; refine sD ?_) | fail)
          refine O_sub (sub_peekP (l := l) (j := j) (x := y) (by repeat (first | exact .head _ | refine .tail _ ?_)) hy) ?_
          refine O_d (dy_lit1 (R := ePK) y (hcs := by rfl) (hel := fun m h hs => ⟨rfl, rd_mem hs (by repeat (first | exact .head _ | refine .tail _ ?_))⟩)) ?_; rintro _ _ ⟨_, rfl, rfl⟩; refine O_n ?_
          refine O_d (dy_append (i := 4) (l := link ++ l.take j) (l2 := [y]) (N := link.length + j + 1) (hm := rfl) (hN := by rw [hj1]; rfl)) ?_; rintro _ _ ⟨A8, c8, rfl, rfl⟩; refine O_n ?_
          repeat' (first | refine go ?_ | intro _ | (apply cG; first | refine cT ?_ | refine cF ?_ | refine cS (fun _ => ?_) fun _ => ?_) | (apply gW; refine sW ?_) | (apply gI; refine sI ?_) | (apply gE; refine sE ?_) | (apply gP; refine sP ?_) | (apply gC; refine sC ?_) | (apply gD; refine sD ?_) | fail)
          refine O_d (dy_lit1 (R := eI) (1 : Int) (hcs := by rfl) (hel := fun _ _ _ => by rfl)) ?_; rintro _ _ ⟨_, rfl, rfl⟩; refine O_n ?_
          refine O_d (dy_append (i := 6) (l := to ++ List.replicate j (1 : Int)) (l2 := [1]) (N := to.length + j + 1) (hm := rfl) (hN := by rw [hj2]; rfl)) ?_; rintro _ _ ⟨A9, c9, rfl, rfl⟩; refine O_n ?_
          repeat' (first | refine go ?_ | intro _ | (apply cG; first | refine cT ?_ | refine cF ?_ | refine cS (fun _ => ?_) fun _ => ?_) | (apply gW; refine sW ?_) | (apply gI; refine sI ?_) | (apply gE; refine sE ?_) | (apply gP; refine sP ?_) | (apply gC; refine sC ?_) | (apply gD; refine sD ?_) | fail)
          have hk1 : (link ++ l.take (j + 1)).length = link.length + j + 1 := by rw [List.length_append, List.length_take]; omega
          have hk2' : (to ++ List.replicate (j + 1) (1 : Int)).length = to.length + j + 1 := by rw [List.length_append, List.length_replicate]; omega
          have hk3 : link ++ l.take j ++ [y] = link ++ l.take (j + 1) := by rw [ht1, List.append_assoc]
          have hk4 : to ++ List.replicate j (1 : Int) ++ [1] = to ++ List.replicate (j + 1) (1 : Int) := by rw [List.replicate_succ', List.append_assoc]
          rw [hk3, hk4]
          refine E_round (j + 1, A8, c8, A9, c9) (by dsimp only; omega) (by show l.length - (j + 1) < l.length - j; omega) ?_ ?_
          · dsimp only
            rw [hk1, hk2']
            exact ⟨rfl, rfl, rfl, trivial⟩
          · dsimp only
            rw [hk1, hk2']
            exact Sb
        obtain rfl : j = l.length := by omega
        have hk1 : link.length + l.length = (link ++ l).length := by rw [List.length_append]
        have hk2' : to.length + l.length = (to ++ List.replicate l.length (1 : Int)).length := by rw [List.length_append, List.length_replicate]
        rw [List.take_length, hk1, hk2']
        repeat' (first | refine go ?_ | intro _ | (apply cG; first | refine cT ?_ | refine cF ?_ | refine cS (fun _ => ?_) fun _ => ?_) | (apply gW; refine sW ?_) | (apply gI; refine sI ?_) | (apply gE; refine sE ?_) | (apply gP; refine sP ?_) | (apply gC; refine sC ?_) | (apply gD; refine sD ?_) | fail)
        exact E_join ⟨i + 1, { e0 with ow := false }, e1, s0, s1, a0, c0, a1, c1, g0, g1, link ++ l, LA, LC, to ++ List.replicate l.length 1, TA, TC⟩ ⟨rfl, hI.out0 (by omega) hl⟩ ⟨rfl, rfl, trivial⟩ Sb
      · repeat' (first | refine go ?_ | intro _ | (apply cG; first | refine cT ?_ | refine cF ?_ | refine cS (fun _ => ?_) fun _ => ?_) | (apply gW; refine sW ?_) | (apply gI; refine sI ?_) | (apply gE; refine sE ?_) | (apply gP; refine sP ?_) | (apply gC; refine sC ?_) | (apply gD; refine sD ?_) | fail)
        refine O_d (dy_call ArgsI.pf (by first | exact rfl | trivial | (intro a b; rfl)) (CT.pull (i := 7) (by rfl) (Out_e (e' := { e1 with ow := false }) (hI.good1 (by omega)) hI.w1.1 hI.w1.2 hI.wb1 rfl))) ?_; rintro _ _ ⟨_, ⟨A1, c1', l, hl, rfl, rfl⟩, rfl⟩; refine O_n ?_
        have hll : l.length ≤ 16 := by
          have h1 := congrArg List.length hl
          have h2 := outP_len (w := e1.w) (acked := e1.acked) (got := e1.got) (wait := e1.wait) (ow := e1.ow) hI.w1.2
          rw [List.length_map] at h1
          rw [h1]
          exact h2
        have hlk := hI.ll
        have htl := hI.tl
        dsimp only at hlk htl
        repeat' (first | refine go ?_ | intro _ | (apply cG; first | refine cT ?_ | refine cF ?_ | refine cS (fun _ => ?_) fun _ => ?_) | (apply gW; refine sW ?_) | (apply gI; refine sI ?_) | (apply gE; refine sE ?_) | (apply gP; refine sP ?_) | (apply gC; refine sC ?_) | (apply gD; refine sD ?_) | fail)
        refine C_loopS (κ := Nat × Option Addr × Nat × Option Addr × Nat) [false, false, false, false, false, false, false, false, true, true, false, false, false, false, false, true, false, false, false, false, false, false, false, false, false, false, false, false, false, false, false, false, false, false, false, false, false, false, false, false, false, false, false, false, false, false, false, false, false, false, false, false, false, false, false, false, false, false, false, false, false, false, false, false, false, false, false, false, false, false, false, false, false, false, false, false, false, false, false, false, false, false, false, false, false, false, false, false, false, false, false, false, false, false, false, false, false, false, false, false, false, false, false, false, false, false, false, false, false, false, false, false, false, false, false, false, false, false, false, false, false, false, false, false, false, false, false, false, false, false, false, false, false, false, false, false, false, false, false, false, false, false, false, false, true, true, true, true, true, true, true, true, true, true, true, true, true, true, true, true, true, true, false, false, false, false, false, false, false, false, false, false, false, false, false, false, false, false, false, false, false, false, false, false, false, false, false, false, false, false, false, false, false, false, false, false, false] (fun k => [(8, .slice k.2.1 (link ++ l.take k.1).length k.2.2.1), (9, .slice k.2.2.2.1 (to ++ List.replicate k.1 0).length k.2.2.2.2), (15, .int .i64 (k.1 : Int))]) (fun k => [(2, own 44 ePK (.slice k.2.1 (link ++ l.take k.1).length k.2.2.1) (link ++ l.take k.1)), (3, own 3 eI (.slice k.2.2.2.1 (to ++ List.replicate k.1 0).length k.2.2.2.2) (to ++ List.replicate k.1 0))]) (fun k => k.1 ≤ l.length) (fun k => l.length - k.1) (0, la, lc, ta, tc) (Nat.zero_le _) (by simp only [List.take_zero, List.append_nil, List.replicate_zero]; exact ⟨rfl, rfl, rfl, trivial⟩) ?_ (by simp only [List.take_zero, List.append_nil, List.replicate_zero]; exact Sb)
        rintro ⟨j, LA, LC, TA, TC⟩ u3 hj
        dsimp only at hj
        dsimp only
        have hj1 : (link ++ l.take j).length = link.length + j := by rw [List.length_append, List.length_take]; omega
        have hj2 : (to ++ List.replicate j (0 : Int)).length = to.length + j := by rw [List.length_append, List.length_replicate]
        rw [hj1, hj2]
        ((try dsimp only); refine C_n ?_; (try simp only [Nat.reduceAdd, Nat.zero_add]))
        by_cases hjl : j < l.length
        · obtain ⟨y, hy⟩ : ∃ y, l[j]? = some y := ⟨_, List.getElem?_eq_getElem hjl⟩
          have hay : At l j y := ⟨hy⟩
          have ht1 : l.take (j + 1) = l.take j ++ [y] := by rw [List.take_add_one, hy]; rfl
          repeat' (first | refine go ?_ | intro _ | (apply cG; first | refine cT ?_ | refine cF ?_ | refine cS (fun _ => ?_) fun _ => ?_) | (apply gW; refine sW ?_) | (apply gI; refine sI ?_) | (apply gE; refine sE ?_) | (apply gP; refine sP ?_) | (apply gC; refine sC ?_) | (apply gD; refine sD ?_) | fail)
          refine O_sub (sub_peekP (l := l) (j := j) (x := y) (by repeat (first | exact .head _ | refine .tail _ ?_)) hy) ?_
          refine O_d (dy_lit1 (R := ePK) y (hcs := by rfl) (hel := fun m h hs => ⟨rfl, rd_mem hs (by repeat (first | exact .head _ | refine .tail _ ?_))⟩)) ?_; rintro _ _ ⟨_, rfl, rfl⟩; refine O_n ?_
          refine O_d (dy_append (i := 4) (l := link ++ l.take j) (l2 := [y]) (N := link.length + j + 1) (hm := rfl) (hN := by rw [hj1]; rfl)) ?_; rintro _ _ ⟨A8, c8, rfl, rfl⟩; refine O_n ?_
          repeat' (first | refine go ?_ | intro _ | (apply cG; first | refine cT ?_ | refine cF ?_ | refine cS (fun _ => ?_) fun _ => ?_) | (apply gW; refine sW ?_) | (apply gI; refine sI ?_) | (apply gE; refine sE ?_) | (apply gP; refine sP ?_) | (apply gC; refine sC ?_) | (apply gD; refine sD ?_) | fail)
          refine O_d (dy_lit1 (R := eI) (0 : Int) (hcs := by rfl) (hel := fun _ _ _ => by rfl)) ?_; rintro _ _ ⟨_, rfl, rfl⟩; refine O_n ?_
          refine O_d (dy_append (i := 6) (l := to ++ List.replicate j (0 : Int)) (l2 := [0]) (N := to.length + j + 1) (hm := rfl) (hN := by rw [hj2]; rfl)) ?_; rintro _ _ ⟨A9, c9, rfl, rfl⟩; refine O_n ?_
          repeat' (first | refine go ?_ | intro _ | (apply cG; first | refine cT ?_ | refine cF ?_ | refine cS (fun _ => ?_) fun _ => ?_) | (apply gW; refine sW ?_) | (apply gI; refine sI ?_) | (apply gE; refine sE ?_) | (apply gP; refine sP ?_) | (apply gC; refine sC ?_) | (apply gD; refine sD ?_) | fail)
          have hk1 : (link ++ l.take (j + 1)).length = link.length + j + 1 := by rw [List.length_append, List.length_take]; omega
          have hk2' : (to ++ List.replicate (j + 1) (0 : Int)).length = to.length + j + 1 := by rw [List.length_append, List.length_replicate]; omega
          have hk3 : link ++ l.take j ++ [y] = link ++ l.take (j + 1) := by rw [ht1, List.append_assoc]
          have hk4 : to ++ List.replicate j (0 : Int) ++ [0] = to ++ List.replicate (j + 1) (0 : Int) := by rw [List.replicate_succ', List.append_assoc]
          rw [hk3, hk4]
          refine E_round (j + 1, A8, c8, A9, c9) (by dsimp only; omega) (by show l.length - (j + 1) < l.length - j; omega) ?_ ?_
          · dsimp only
            rw [hk1, hk2']
            exact ⟨rfl, rfl, rfl, trivial⟩
          · dsimp only
            rw [hk1, hk2']
            exact Sb
        obtain rfl : j = l.length := by omega
        have hk1 : link.length + l.length = (link ++ l).length := by rw [List.length_append]
        have hk2' : to.length + l.length = (to ++ List.replicate l.length (0 : Int)).length := by rw [List.length_append, List.length_replicate]
        rw [List.take_length, hk1, hk2']
        repeat' (first | refine go ?_ | intro _ | (apply cG; first | refine cT ?_ | refine cF ?_ | refine cS (fun _ => ?_) fun _ => ?_) | (apply gW; refine sW ?_) | (apply gI; refine sI ?_) | (apply gE; refine sE ?_) | (apply gP; refine sP ?_) | (apply gC; refine sC ?_) | (apply gD; refine sD ?_) | fail)
        exact E_join ⟨i + 1, e0, { e1 with ow := false }, s0, s1, a0, c0, a1, c1, g0, g1, link ++ l, LA, LC, to ++ List.replicate l.length 0, TA, TC⟩ ⟨rfl, hI.out1 (by omega) hl⟩ ⟨rfl, rfl, trivial⟩ Sb
    have hlk := hI.ll
    have htl := hI.tl
    dsimp only at hlk htl
    by_cases hz : link.length = 0
    · repeat' (first | refine go ?_ | intro _ | (apply cG; first | refine cT ?_ | refine cF ?_ | refine cS (fun _ => ?_) fun _ => ?_) | (apply gW; refine sW ?_) | (apply gI; refine sI ?_) | (apply gE; refine sE ?_) | (apply gP; refine sP ?_) | (apply gC; refine sC ?_) | (apply gD; refine sD ?_) | fail)
      exact E_round ⟨i + 1, e0, e1, s0, s1, a0, c0, a1, c1, g0, g1, link, la, lc, to, ta, tc⟩ (hI.step (by omega)) (by show m - (i + 1) < m - i; omega) ⟨rfl, rfl, rfl, trivial⟩ Sb
    obtain ⟨jj, hjj, hjl⟩ : ∃ jj : Nat, (n : Int) / 2 % (link.length : Int) = (jj : Int) ∧ jj < link.length := by
      have h1 := Int.emod_nonneg ((n : Int) / 2) (b := (link.length : Int)) (by omega)
      have h2 := Int.emod_lt_of_pos ((n : Int) / 2) (b := (link.length : Int)) (by omega)
      exact ⟨((n : Int) / 2 % (link.length : Int)).toNat, by omega, by omega⟩
    obtain ⟨y, hy⟩ : ∃ y, link[jj]? = some y := ⟨_, List.getElem?_eq_getElem hjl⟩
    obtain ⟨tt, ht⟩ : ∃ tt, to[jj]? = some tt := ⟨_, List.getElem?_eq_getElem (by omega)⟩
    have hay : At link jj y := ⟨hy⟩
    have hat : At to jj tt := ⟨ht⟩
    repeat' (first | ((fail_if_success apply AtE); refine go ?_) | intro _ | (apply cG; first | refine cT ?_ | refine cF ?_ | refine cS (fun _ => ?_) fun _ => ?_) | (apply gW; refine sW ?_) | (apply gI; refine sI ?_) | (apply gE; refine sE ?_) | (apply gP; refine sP ?_) | (apply gC; refine sC ?_) | (apply gD; refine sD ?_) | fail)
    refine go ?_
    repeat' (first | ((fail_if_success apply AtE); refine go ?_) | intro _ | (apply cG; first | refine cT ?_ | refine cF ?_ | refine cS (fun _ => ?_) fun _ => ?_) | (apply gW; refine sW ?_) | (apply gI; refine sI ?_) | (apply gE; refine sE ?_) | (apply gP; refine sP ?_) | (apply gC; refine sC ?_) | (apply gD; refine sD ?_) | fail)
    refine go ?_
    repeat' (first | ((fail_if_success apply AtE); refine go ?_) | intro _ | (apply cG; first | refine cT ?_ | refine cF ?_ | refine cS (fun _ => ?_) fun _ => ?_) | (apply gW; refine sW ?_) | (apply gI; refine sI ?_) | (apply gE; refine sE ?_) | (apply gP; refine sP ?_) | (apply gC; refine sC ?_) | (apply gD; refine sD ?_) | fail)
    rw [hjj]
    rcases hI.p jj y tt hy ht with ⟨rfl, hpk⟩ | ⟨rfl, hpk⟩
    · have hyb : y.b.length ≤ 2 := by
        rcases hpk.s with ⟨_, h⟩ | ⟨_, _, h⟩
        · rw [h]; exact Nat.zero_le _
        · exact hI.b0 _ (List.mem_of_getElem? h)
      refine E_sub (sub_peekP (l := link) (j := jj) (x := y) (by repeat (first | exact .head _ | refine .tail _ ?_)) hy) ?_
      repeat' (first | refine go ?_ | intro _ | (apply cG; first | refine cT ?_ | refine cF ?_ | refine cS (fun _ => ?_) fun _ => ?_) | (apply gW; refine sW ?_) | (apply gI; refine sI ?_) | (apply gE; refine sE ?_) | (apply gP; refine sP ?_) | (apply gC; refine sC ?_) | (apply gD; refine sD ?_) | fail)
      refine C_draw (n := 99) [rd ePt (.slice (some ⟨eg, 0, none⟩) 2 2) [pa, pb], own 44 ePK (.slice la link.length lc) link] [(0, 1), (1, 1), (2, 1), (3, 1), (4, 1), (5, 1), (6, 1), (7, 1), (8, 0), (9, 1)] (by kernel_rfl) (by kernel_rfl) Sb ?_
      repeat' (first | refine go ?_ | intro _ | (apply cG; first | refine cT ?_ | refine cF ?_ | refine cS (fun _ => ?_) fun _ => ?_) | (apply gW; refine sW ?_) | (apply gI; refine sI ?_) | (apply gE; refine sE ?_) | (apply gP; refine sP ?_) | (apply gC; refine sC ?_) | (apply gD; refine sD ?_) | fail)
      refine D_op rfl ?_; refine X_d (dy_call ArgsI.pf (by first | exact rfl | trivial | (intro a b; rfl)) (CT.pull (i := 8) (by rfl) (In_ct (b := y.b) Sc.pf (hI.good1 (by omega)) (by omega)))) ?_; rintro _ _ ⟨_, ⟨A2, c2', z, hz', rfl, rfl⟩, rfl⟩; refine ⟨(by first | exact .inl rfl | exact .inr Sb), D_n ?_⟩
      obtain ⟨hI2, hI3, hI4⟩ := hI.in1 (s := y.s) (a := y.a) (y := z) (by omega) (by rw [hz']; exact hpk)
      obtain ⟨E, out, hEo⟩ : ∃ E out, inP e1 y.s y.a z = (E, out) := ⟨_, _, rfl⟩
      rw [hEo] at hI2 hI3 hI4 ⊢
      dsimp only at hI2 hI3 hI4 ⊢
      have hgg := hI.g1
      have hg0 := hI.o1.g0
      have hnn := hI.n0
      dsimp only at hgg hg0 hnn
      repeat' (first | refine go ?_ | intro _ | (apply cG; first | refine cT ?_ | refine cF ?_ | refine cS (fun _ => ?_) fun _ => ?_) | (apply gW; refine sW ?_) | (apply gI; refine sI ?_) | (apply gE; refine sE ?_) | (apply gP; refine sP ?_) | (apply gC; refine sC ?_) | (apply gD; refine sD ?_) | fail)
      refine C_ownSB 0 rfl fun out' ho' => ?_
      simp only [List.set_cons_zero]
      refine C_ownSB 7 rfl fun S' hS' => ?_
      simp only [List.set_cons_zero, List.set_cons_succ]
      have hol : out'.length = out.length := by rw [← ho', List.length_map]
      have hSl : S'.length = s0.length := by rw [← hS', List.length_map]
      refine C_loopS (κ := Nat) [false, false, false, false, true, false, false, false, false, false, false, false, false, false, false, false, false, false, false, true, false, false, false, false, false, false, false, false, false, false, false, false, false, false, false, false, false, false, false, false, false, false, false, false, false, false, false, false, false, false, false, false, false, false, false, false, false, false, false, false, false, false, false, false, false, false, false, false, false, false, false, true, true, true, true, true, true, true, true, true, true, true, true, true, true, true, true, true, true, true, true, true, true, true, true, true, true, true, true, true, true, true, true, true, true, true, true, true, true, true, true, true, true, false, false, false, false, false, false, false, false, false, false, false, false, false, false, false, false, false, false, false, false, false, false, false, false, false, false, false, false, false, false, false, false, false, false, false, false, false, false, false, false, false, false, false, false, false, false, false, false, false, false, false, false, false, false, false, false, false, false, false, false, false, false, false, false, false, false, false, false, false, false, false, false, false, false, false, false, false, false, false, false, false, false, false, false] (fun k => [(19, .int .i64 (k : Int))]) (fun k => [(5, own 3 eI (.slice (some ⟨gg, 0, none⟩) 2 2) [g0, g1 + (k : Int)])]) (fun k => k ≤ out.length) (fun k => out.length - k) 0 (Nat.zero_le _) ⟨rfl, trivial⟩ ?_ (by simp only [Int.natCast_zero, Int.add_zero]; exact Sb)
      rintro r u4 hrr
      ((try dsimp only); refine C_n ?_; (try simp only [Nat.reduceAdd, Nat.zero_add]))
      by_cases hrl : r < out.length
      · obtain ⟨zv, hzv⟩ : ∃ zv, out'[r]? = some zv := ⟨_, List.getElem?_eq_getElem (by omega)⟩
        obtain ⟨gv, hgv⟩ : ∃ gv, S'[e1.got.toNat + r]? = some gv := ⟨_, List.getElem?_eq_getElem (by omega)⟩
        have hzb : out[r]? = some zv.b := by rw [← ho', List.getElem?_map, hzv]; rfl
        have hgb : s0[e1.got.toNat + r]? = some gv.b := by rw [← hS', List.getElem?_map, hgv]; rfl
        have hzg : zv.b = gv.b := by
          have := hI3 r hrl
          rw [hzb, hgb] at this
          injection this
        have hgl2 := hI.b0 _ (List.mem_of_getElem? hgb)
        have hzl2 : zv.b.length ≤ 2 := by rw [hzg]; exact hgl2
        obtain ⟨gx, hgx⟩ : ∃ gx : Nat, g1 + (r : Int) = (gx : Int) := ⟨(g1 + (r : Int)).toNat, by omega⟩
        have hix : gx = e1.got.toNat + r := by omega
        rw [hgx]
        have at1 : At out' r zv := ⟨hzv⟩
        have at2 : At S' gx gv := ⟨by rw [hix]; exact hgv⟩
        have at3 : At [g0, (gx : Int)] 1 (gx : Int) := ⟨rfl⟩
        refine C_sub (sub_peekSBo (l := out') (j := r) (x := zv) (by repeat (first | exact .head _ | refine .tail _ ?_)) hzv) ?_
        refine C_sub (sub_peekSBo (l := S') (j := e1.got.toNat + r) (x := gv) (by repeat (first | exact .head _ | refine .tail _ ?_)) hgv) ?_
        repeat' (first | refine go ?_ | intro _ | (apply cG; first | refine cT ?_ | refine cF ?_ | refine cS (fun _ => ?_) fun _ => ?_) | (apply gW; refine sW ?_) | (apply gI; refine sI ?_) | (apply gE; refine sE ?_) | (apply gP; refine sP ?_) | (apply gC; refine sC ?_) | (apply gD; refine sD ?_) | fail)
        refine C_draw (n := 99) [rd eB gv.v gv.b, rd eB zv.v zv.b, own 31 eSB (.slice A2 out.length c2') out', own 3 eI (.slice (some ⟨gg, 0, none⟩) 2 2) [g0, (gx : Int)], own 42 eRw (.slice (some ⟨sg, 0, none⟩) 2 2) [(a0, s0.length, c0), (a1, s1.length, c1)], own 31 eSB (.slice a0 s0.length c0) S'] [(0, 1), (1, 1), (2, 1), (3, 1), (4, 1), (5, 1), (6, 1), (7, 1), (8, 1), (9, 1), (10, 1), (11, 1), (12, 1), (13, 1), (14, 1), (15, 1), (16, 1), (17, 1), (18, 1), (19, 1), (20, 1), (21, 1), (22, 1), (23, 1), (24, 1), (25, 1), (26, 1), (27, 0), (28, 1), (29, 1)] (by kernel_rfl) (by kernel_rfl) Sb ?_
        repeat' (first | refine go ?_ | intro _ | (apply cG; first | refine cT ?_ | refine cF ?_ | refine cS (fun _ => ?_) fun _ => ?_) | (apply gW; refine sW ?_) | (apply gI; refine sI ?_) | (apply gE; refine sE ?_) | (apply gP; refine sP ?_) | (apply gC; refine sC ?_) | (apply gD; refine sD ?_) | fail)
        refine D_op rfl ?_; refine X_d (dy_call ArgsI.pf (by first | exact rfl | trivial | (intro a b; rfl)) (SameBytes_ct (la := zv.b) (lb := gv.b) (.inl (by repeat (first | exact .head _ | refine .tail _ ?_))) (.inl (by repeat (first | exact .head _ | refine .tail _ ?_))) (by omega) (by omega) (q := true) (decide_eq_true hzg))) ?_; rintro _ _ ⟨_, ⟨rfl, hLL⟩, rfl⟩; replace hLL := hLL.symm; subst hLL; refine ⟨(by first | exact .inl rfl | exact .inr Sb), D_n ?_⟩
        repeat' (first | refine go ?_ | intro _ | (apply cG; first | refine cT ?_ | refine cF ?_ | refine cS (fun _ => ?_) fun _ => ?_) | (apply gW; refine sW ?_) | (apply gI; refine sI ?_) | (apply gE; refine sE ?_) | (apply gP; refine sP ?_) | (apply gC; refine sC ?_) | (apply gD; refine sD ?_) | fail)
        refine O_d (dy_storeE (f := iv) (hf := fun _ => rfl) (j := 1) (n := 2) (c := 2) ((gx : Int) + 1) (hy := by rfl) (hj := by show _ < 2; decide)) ?_; rintro _ _ ⟨rfl, rfl⟩; refine O_n ?_
        repeat' (first | refine go ?_ | intro _ | (apply cG; first | refine cT ?_ | refine cF ?_ | refine cS (fun _ => ?_) fun _ => ?_) | (apply gW; refine sW ?_) | (apply gI; refine sI ?_) | (apply gE; refine sE ?_) | (apply gP; refine sP ?_) | (apply gC; refine sC ?_) | (apply gD; refine sD ?_) | fail)
        have hset : [g0, (gx : Int)].set 1 ((gx : Int) + 1) = [g0, g1 + ((r + 1 : Nat) : Int)] := by
          simp only [List.set_cons_zero, List.set_cons_succ]
          push_cast
          rw [← Int.add_assoc, hgx]
        rw [hset]
        exact E_round (r + 1) hrl (by show out.length - (r + 1) < out.length - r; omega) ⟨rfl, trivial⟩ Sb
      obtain rfl : r = out.length := by omega
      repeat' (first | refine go ?_ | intro _ | (apply cG; first | refine cT ?_ | refine cF ?_ | refine cS (fun _ => ?_) fun _ => ?_) | (apply gW; refine sW ?_) | (apply gI; refine sI ?_) | (apply gE; refine sE ?_) | (apply gP; refine sP ?_) | (apply gC; refine sC ?_) | (apply gD; refine sD ?_) | fail)
      refine E_sub (sub_ownSB 7 rfl) ?_
      simp only [List.set_cons_zero, List.set_cons_succ, hS']
      exact E_join ⟨i + 1, e0, E, s0, s1, a0, c0, a1, c1, g0, g1 + (out.length : Int), link, la, lc, to, ta, tc⟩ ⟨rfl, hI2⟩ ⟨rfl, rfl, trivial⟩ Sb
    · have hyb : y.b.length ≤ 2 := by
        rcases hpk.s with ⟨_, h⟩ | ⟨_, _, h⟩
        · rw [h]; exact Nat.zero_le _
        · exact hI.b1 _ (List.mem_of_getElem? h)
      refine E_sub (sub_peekP (l := link) (j := jj) (x := y) (by repeat (first | exact .head _ | refine .tail _ ?_)) hy) ?_
      repeat' (first | refine go ?_ | intro _ | (apply cG; first | refine cT ?_ | refine cF ?_ | refine cS (fun _ => ?_) fun _ => ?_) | (apply gW; refine sW ?_) | (apply gI; refine sI ?_) | (apply gE; refine sE ?_) | (apply gP; refine sP ?_) | (apply gC; refine sC ?_) | (apply gD; refine sD ?_) | fail)
      refine C_draw (n := 99) [rd ePt (.slice (some ⟨eg, 0, none⟩) 2 2) [pa, pb], own 44 ePK (.slice la link.length lc) link] [(0, 1), (1, 1), (2, 1), (3, 1), (4, 1), (5, 1), (6, 1), (7, 1), (8, 0), (9, 1)] (by kernel_rfl) (by kernel_rfl) Sb ?_
      repeat' (first | refine go ?_ | intro _ | (apply cG; first | refine cT ?_ | refine cF ?_ | refine cS (fun _ => ?_) fun _ => ?_) | (apply gW; refine sW ?_) | (apply gI; refine sI ?_) | (apply gE; refine sE ?_) | (apply gP; refine sP ?_) | (apply gC; refine sC ?_) | (apply gD; refine sD ?_) | fail)
      refine D_op rfl ?_; refine X_d (dy_call ArgsI.pf (by first | exact rfl | trivial | (intro a b; rfl)) (CT.pull (i := 7) (by rfl) (In_ct (b := y.b) Sc.pf (hI.good0 (by omega)) (by omega)))) ?_; rintro _ _ ⟨_, ⟨A2, c2', z, hz', rfl, rfl⟩, rfl⟩; refine ⟨(by first | exact .inl rfl | exact .inr Sb), D_n ?_⟩
      obtain ⟨hI2, hI3, hI4⟩ := hI.in0 (s := y.s) (a := y.a) (y := z) (by omega) (by rw [hz']; exact hpk)
      obtain ⟨E, out, hEo⟩ : ∃ E out, inP e0 y.s y.a z = (E, out) := ⟨_, _, rfl⟩
      rw [hEo] at hI2 hI3 hI4 ⊢
      dsimp only at hI2 hI3 hI4 ⊢
      have hgg := hI.g0
      have hg0 := hI.o0.g0
      have hnn := hI.n1
      dsimp only at hgg hg0 hnn
      repeat' (first | refine go ?_ | intro _ | (apply cG; first | refine cT ?_ | refine cF ?_ | refine cS (fun _ => ?_) fun _ => ?_) | (apply gW; refine sW ?_) | (apply gI; refine sI ?_) | (apply gE; refine sE ?_) | (apply gP; refine sP ?_) | (apply gC; refine sC ?_) | (apply gD; refine sD ?_) | fail)
      refine C_ownSB 0 rfl fun out' ho' => ?_
      simp only [List.set_cons_zero]
      refine C_ownSB 8 rfl fun S' hS' => ?_
      simp only [List.set_cons_zero, List.set_cons_succ]
      have hol : out'.length = out.length := by rw [← ho', List.length_map]
      have hSl : S'.length = s1.length := by rw [← hS', List.length_map]
      refine C_loopS (κ := Nat) [false, false, false, false, true, false, false, false, false, false, false, false, false, false, false, false, false, false, false, true, false, false, false, false, false, false, false, false, false, false, false, false, false, false, false, false, false, false, false, false, false, false, false, false, false, false, false, false, false, false, false, false, false, false, false, false, false, false, false, false, false, false, false, false, false, false, false, false, false, false, false, true, true, true, true, true, true, true, true, true, true, true, true, true, true, true, true, true, true, true, true, true, true, true, true, true, true, true, true, true, true, true, true, true, true, true, true, true, true, true, true, true, true, false, false, false, false, false, false, false, false, false, false, false, false, false, false, false, false, false, false, false, false, false, false, false, false, false, false, false, false, false, false, false, false, false, false, false, false, false, false, false, false, false, false, false, false, false, false, false, false, false, false, false, false, false, false, false, false, false, false, false, false, false, false, false, false, false, false, false, false, false, false, false, false, false, false, false, false, false, false, false, false, false, false, false, false] (fun k => [(19, .int .i64 (k : Int))]) (fun k => [(5, own 3 eI (.slice (some ⟨gg, 0, none⟩) 2 2) [g0 + (k : Int), g1])]) (fun k => k ≤ out.length) (fun k => out.length - k) 0 (Nat.zero_le _) ⟨rfl, trivial⟩ ?_ (by simp only [Int.natCast_zero, Int.add_zero]; exact Sb)
      rintro r u4 hrr
      ((try dsimp only); refine C_n ?_; (try simp only [Nat.reduceAdd, Nat.zero_add]))
      by_cases hrl : r < out.length
      · obtain ⟨zv, hzv⟩ : ∃ zv, out'[r]? = some zv := ⟨_, List.getElem?_eq_getElem (by omega)⟩
        obtain ⟨gv, hgv⟩ : ∃ gv, S'[e0.got.toNat + r]? = some gv := ⟨_, List.getElem?_eq_getElem (by omega)⟩
        have hzb : out[r]? = some zv.b := by rw [← ho', List.getElem?_map, hzv]; rfl
        have hgb : s1[e0.got.toNat + r]? = some gv.b := by rw [← hS', List.getElem?_map, hgv]; rfl
        have hzg : zv.b = gv.b := by
          have := hI3 r hrl
          rw [hzb, hgb] at this
          injection this
        have hgl2 := hI.b1 _ (List.mem_of_getElem? hgb)
        have hzl2 : zv.b.length ≤ 2 := by rw [hzg]; exact hgl2
        obtain ⟨gx, hgx⟩ : ∃ gx : Nat, g0 + (r : Int) = (gx : Int) := ⟨(g0 + (r : Int)).toNat, by omega⟩
        have hix : gx = e0.got.toNat + r := by omega
        rw [hgx]
        have at1 : At out' r zv := ⟨hzv⟩
        have at2 : At S' gx gv := ⟨by rw [hix]; exact hgv⟩
        have at3 : At [(gx : Int), g1] 0 (gx : Int) := ⟨rfl⟩
        refine C_sub (sub_peekSBo (l := out') (j := r) (x := zv) (by repeat (first | exact .head _ | refine .tail _ ?_)) hzv) ?_
        refine C_sub (sub_peekSBo (l := S') (j := e0.got.toNat + r) (x := gv) (by repeat (first | exact .head _ | refine .tail _ ?_)) hgv) ?_
        repeat' (first | refine go ?_ | intro _ | (apply cG; first | refine cT ?_ | refine cF ?_ | refine cS (fun _ => ?_) fun _ => ?_) | (apply gW; refine sW ?_) | (apply gI; refine sI ?_) | (apply gE; refine sE ?_) | (apply gP; refine sP ?_) | (apply gC; refine sC ?_) | (apply gD; refine sD ?_) | fail)
        refine C_draw (n := 99) [rd eB gv.v gv.b, rd eB zv.v zv.b, own 31 eSB (.slice A2 out.length c2') out', own 3 eI (.slice (some ⟨gg, 0, none⟩) 2 2) [(gx : Int), g1], own 42 eRw (.slice (some ⟨sg, 0, none⟩) 2 2) [(a0, s0.length, c0), (a1, s1.length, c1)], own 31 eSB (.slice a1 s1.length c1) S'] [(0, 1), (1, 1), (2, 1), (3, 1), (4, 1), (5, 1), (6, 1), (7, 1), (8, 1), (9, 1), (10, 1), (11, 1), (12, 1), (13, 1), (14, 1), (15, 1), (16, 1), (17, 1), (18, 1), (19, 1), (20, 1), (21, 1), (22, 1), (23, 1), (24, 1), (25, 1), (26, 1), (27, 0), (28, 1), (29, 1)] (by kernel_rfl) (by kernel_rfl) Sb ?_
        repeat' (first | refine go ?_ | intro _ | (apply cG; first | refine cT ?_ | refine cF ?_ | refine cS (fun _ => ?_) fun _ => ?_) | (apply gW; refine sW ?_) | (apply gI; refine sI ?_) | (apply gE; refine sE ?_) | (apply gP; refine sP ?_) | (apply gC; refine sC ?_) | (apply gD; refine sD ?_) | fail)
        refine D_op rfl ?_; refine X_d (dy_call ArgsI.pf (by first | exact rfl | trivial | (intro a b; rfl)) (SameBytes_ct (la := zv.b) (lb := gv.b) (.inl (by repeat (first | exact .head _ | refine .tail _ ?_))) (.inl (by repeat (first | exact .head _ | refine .tail _ ?_))) (by omega) (by omega) (q := true) (decide_eq_true hzg))) ?_; rintro _ _ ⟨_, ⟨rfl, hLL⟩, rfl⟩; replace hLL := hLL.symm; subst hLL; refine ⟨(by first | exact .inl rfl | exact .inr Sb), D_n ?_⟩
        repeat' (first | refine go ?_ | intro _ | (apply cG; first | refine cT ?_ | refine cF ?_ | refine cS (fun _ => ?_) fun _ => ?_) | (apply gW; refine sW ?_) | (apply gI; refine sI ?_) | (apply gE; refine sE ?_) | (apply gP; refine sP ?_) | (apply gC; refine sC ?_) | (apply gD; refine sD ?_) | fail)
        refine O_d (dy_storeE (f := iv) (hf := fun _ => rfl) (j := 0) (n := 2) (c := 2) ((gx : Int) + 1) (hy := by rfl) (hj := by show _ < 2; decide)) ?_; rintro _ _ ⟨rfl, rfl⟩; refine O_n ?_
        repeat' (first | refine go ?_ | intro _ | (apply cG; first | refine cT ?_ | refine cF ?_ | refine cS (fun _ => ?_) fun _ => ?_) | (apply gW; refine sW ?_) | (apply gI; refine sI ?_) | (apply gE; refine sE ?_) | (apply gP; refine sP ?_) | (apply gC; refine sC ?_) | (apply gD; refine sD ?_) | fail)
        have hset : [(gx : Int), g1].set 0 ((gx : Int) + 1) = [g0 + ((r + 1 : Nat) : Int), g1] := by
          simp only [List.set_cons_zero, List.set_cons_succ]
          push_cast
          rw [← Int.add_assoc, hgx]
        rw [hset]
        exact E_round (r + 1) hrl (by show out.length - (r + 1) < out.length - r; omega) ⟨rfl, trivial⟩ Sb
      obtain rfl : r = out.length := by omega
      repeat' (first | refine go ?_ | intro _ | (apply cG; first | refine cT ?_ | refine cF ?_ | refine cS (fun _ => ?_) fun _ => ?_) | (apply gW; refine sW ?_) | (apply gI; refine sI ?_) | (apply gE; refine sE ?_) | (apply gP; refine sP ?_) | (apply gC; refine sC ?_) | (apply gD; refine sD ?_) | fail)
      refine E_sub (sub_ownSB 8 rfl) ?_
      simp only [List.set_cons_zero, List.set_cons_succ, hS']
      exact E_join ⟨i + 1, E, e1, s0, s1, a0, c0, a1, c1, g0 + (out.length : Int), g1, link, la, lc, to, ta, tc⟩ ⟨rfl, hI2⟩ ⟨rfl, rfl, trivial⟩ Sb
  rintro ⟨i2, e0, e1, s0, s1, a0, c0, a1, c1, g0, g1, link, la, lc, to, ta, tc⟩ u5 ⟨hki, hI1⟩
  dsimp only at hki
  subst hki
  ((try dsimp only); refine C_n ?_; (try simp only [Nat.reduceAdd, Nat.zero_add]))
  have hat0 : At [(a0, s0.length, c0), (a1, s1.length, c1)] 0 (a0, s0.length, c0) := ⟨rfl⟩
  have hat1 : At [(a0, s0.length, c0), (a1, s1.length, c1)] 1 (a1, s1.length, c1) := ⟨rfl⟩
  have hgt0 : At [g0, g1] 0 g0 := ⟨rfl⟩
  have hgt1 : At [g0, g1] 1 g1 := ⟨rfl⟩
  have hwl0 : e0.wait.length = s0.length - e0.acked.toNat := by have := hI1.o0.wait; dsimp only at this; rw [this, List.length_drop]
  have hwl1 : e1.wait.length = s1.length - e1.acked.toNat := by have := hI1.o1.wait; dsimp only at this; rw [this, List.length_drop]
  have q1 := hI1.o0.a0
  have q2 := hI1.o0.a1
  have q3 := hI1.o1.a0
  have q4 := hI1.o1.a1
  have q5 := hI1.k0
  have q6 := hI1.k1
  have q7 := hI1.g0
  have q8 := hI1.g1
  have q9 := hI1.n0
  have q10 := hI1.n1
  have q11 := hI1.o0.g0
  have q12 := hI1.o1.g0
  have q13 := hI1.o0.g1
  have q14 := hI1.o1.g1
  dsimp only at q1 q2 q3 q4 q5 q6 q7 q8 q9 q10 q11 q12 q13 q14
  repeat' (first | refine go ?_ | intro _ | (apply cG; first | refine cT ?_ | refine cF ?_ | refine cS (fun _ => ?_) fun _ => ?_) | (apply gW; refine sW ?_) | (apply gI; refine sI ?_) | (apply gE; refine sE ?_) | (apply gP; refine sP ?_) | (apply gC; refine sC ?_) | (apply gD; refine sD ?_) | fail)
  refine C_loopS (κ := Nat) [false, false, false, false, true, false, false, false, false, false, false, false, false, false, false, false, false, false, false, false, true, false, false, false, false, false, false, false, false, false, false, false, false, false, false, false, false, false, false, false, false, false, false, false, false, false, false, false, false, false, false, false, false, false, false, false, false, false, false, false, false, false, false, false, false, false, false, false, false, false, false, false, false, false, false, false, false, false, false, false, false, false, false, false, false, false, false, false, false, false, false, false, false, false, false, false, false, false, false, false, false, false, false, false, false, false, false, false, false, false, false, false, false, false, false, false, false, false, false, false, false, false, false, false, false, false, false, false, false, false, false, false, false, false, false, false, false, false, false, false, false, false, false, false, false, false, false, false, false, false, false, false, false, false, false, false, false, false, false, false, false, false, true, true, true, true, true, true, true, true, true, true, true, true, true, true, true, true, true, true, true, true, true, true, true, true, true, true, true, true, true, true, true, true, true, true, false] (fun k => [(20, .int .i64 (k : Int))]) (fun k => []) (fun k => k ≤ 2) (fun k => 2 - k) 0 (by decide) ⟨rfl, trivial⟩ ?_
  rintro j u6 hj
  ((try dsimp only); refine C_n ?_; (try simp only [Nat.reduceAdd, Nat.zero_add]))
  obtain rfl | rfl | rfl : j = 0 ∨ j = 1 ∨ j = 2 := by omega
  · repeat' (first | refine go ?_ | intro _ | (apply cG; first | refine cT ?_ | refine cF ?_ | refine cS (fun _ => ?_) fun _ => ?_) | (apply gW; refine sW ?_) | (apply gI; refine sI ?_) | (apply gE; refine sE ?_) | (apply gP; refine sP ?_) | (apply gC; refine sC ?_) | (apply gD; refine sD ?_) | fail)
    refine C_draw (n := 99) [rd ePt (.slice (some ⟨eg, 0, none⟩) 2 2) [pa, pb], own 42 eRw (.slice (some ⟨sg, 0, none⟩) 2 2) [(a0, s0.length, c0), (a1, s1.length, c1)], own 3 eI (.slice (some ⟨gg, 0, none⟩) 2 2) [g0, g1]] [(0, 1), (1, 1), (2, 1), (3, 1), (5, 1), (6, 1), (7, 1), (8, 1), (9, 1), (4, 0), (10, 1), (11, 1), (12, 1), (13, 1), (14, 1), (15, 1), (17, 1), (18, 1), (19, 1), (20, 1), (21, 1), (22, 1), (23, 1), (24, 1), (25, 1), (26, 1), (27, 1), (16, 0), (28, 1), (29, 1)] (by kernel_rfl) (by kernel_rfl) Sb ?_
    repeat' (first | refine go ?_ | intro _ | (apply cG; first | refine cT ?_ | refine cF ?_ | refine cS (fun _ => ?_) fun _ => ?_) | (apply gW; refine sW ?_) | (apply gI; refine sI ?_) | (apply gE; refine sE ?_) | (apply gP; refine sP ?_) | (apply gC; refine sC ?_) | (apply gD; refine sD ?_) | fail)
    refine D_op rfl ?_; refine X_d (dy_call ArgsI.pf (by first | exact rfl | trivial | (intro a b; rfl)) (CT.pull (i := 6) (by rfl) (Waiting_e))) ?_; rintro _ _ ⟨_, ⟨rfl, rfl⟩, rfl⟩; refine ⟨(by first | exact .inl rfl | exact .inr Sb), D_n ?_⟩
    repeat' (first | refine go ?_ | intro _ | (apply cG; first | refine cT ?_ | refine cF ?_ | refine cS (fun _ => ?_) fun _ => ?_) | (apply gW; refine sW ?_) | (apply gI; refine sI ?_) | (apply gE; refine sE ?_) | (apply gP; refine sP ?_) | (apply gC; refine sC ?_) | (apply gD; refine sD ?_) | fail)
    refine D_op rfl ?_; refine X_d (dy_call ArgsI.pf (by first | exact rfl | trivial | (intro a b; rfl)) (CT.pull (i := 0) (by rfl) (Waiting_e))) ?_; rintro _ _ ⟨_, ⟨rfl, rfl⟩, rfl⟩; refine ⟨(by first | exact .inl rfl | exact .inr Sb), D_n ?_⟩
    repeat' (first | refine go ?_ | intro _ | (apply cG; first | refine cT ?_ | refine cF ?_ | refine cS (fun _ => ?_) fun _ => ?_) | (apply gW; refine sW ?_) | (apply gI; refine sI ?_) | (apply gE; refine sE ?_) | (apply gP; refine sP ?_) | (apply gC; refine sC ?_) | (apply gD; refine sD ?_) | fail)
    exact E_round 1 (by decide) (by decide) ⟨rfl, trivial⟩ Sb
  · repeat' (first | refine go ?_ | intro _ | (apply cG; first | refine cT ?_ | refine cF ?_ | refine cS (fun _ => ?_) fun _ => ?_) | (apply gW; refine sW ?_) | (apply gI; refine sI ?_) | (apply gE; refine sE ?_) | (apply gP; refine sP ?_) | (apply gC; refine sC ?_) | (apply gD; refine sD ?_) | fail)
    refine C_draw (n := 99) [rd ePt (.slice (some ⟨eg, 0, none⟩) 2 2) [pa, pb], own 42 eRw (.slice (some ⟨sg, 0, none⟩) 2 2) [(a0, s0.length, c0), (a1, s1.length, c1)], own 3 eI (.slice (some ⟨gg, 0, none⟩) 2 2) [g0, g1]] [(0, 1), (1, 1), (2, 1), (3, 1), (5, 1), (6, 1), (7, 1), (8, 1), (9, 1), (4, 0), (10, 1), (11, 1), (12, 1), (13, 1), (14, 1), (15, 1), (17, 1), (18, 1), (19, 1), (20, 1), (21, 1), (22, 1), (23, 1), (24, 1), (25, 1), (26, 1), (27, 1), (16, 0), (28, 1), (29, 1)] (by kernel_rfl) (by kernel_rfl) Sb ?_
    repeat' (first | refine go ?_ | intro _ | (apply cG; first | refine cT ?_ | refine cF ?_ | refine cS (fun _ => ?_) fun _ => ?_) | (apply gW; refine sW ?_) | (apply gI; refine sI ?_) | (apply gE; refine sE ?_) | (apply gP; refine sP ?_) | (apply gC; refine sC ?_) | (apply gD; refine sD ?_) | fail)
    refine D_op rfl ?_; refine X_d (dy_call ArgsI.pf (by first | exact rfl | trivial | (intro a b; rfl)) (CT.pull (i := 7) (by rfl) (Waiting_e))) ?_; rintro _ _ ⟨_, ⟨rfl, rfl⟩, rfl⟩; refine ⟨(by first | exact .inl rfl | exact .inr Sb), D_n ?_⟩
    repeat' (first | refine go ?_ | intro _ | (apply cG; first | refine cT ?_ | refine cF ?_ | refine cS (fun _ => ?_) fun _ => ?_) | (apply gW; refine sW ?_) | (apply gI; refine sI ?_) | (apply gE; refine sE ?_) | (apply gP; refine sP ?_) | (apply gC; refine sC ?_) | (apply gD; refine sD ?_) | fail)
    refine D_op rfl ?_; refine X_d (dy_call ArgsI.pf (by first | exact rfl | trivial | (intro a b; rfl)) (CT.pull (i := 0) (by rfl) (Waiting_e))) ?_; rintro _ _ ⟨_, ⟨rfl, rfl⟩, rfl⟩; refine ⟨(by first | exact .inl rfl | exact .inr Sb), D_n ?_⟩
    repeat' (first | refine go ?_ | intro _ | (apply cG; first | refine cT ?_ | refine cF ?_ | refine cS (fun _ => ?_) fun _ => ?_) | (apply gW; refine sW ?_) | (apply gI; refine sI ?_) | (apply gE; refine sE ?_) | (apply gP; refine sP ?_) | (apply gC; refine sC ?_) | (apply gD; refine sD ?_) | fail)
    exact E_round 2 (by decide) (by decide) ⟨rfl, trivial⟩ Sb
  · repeat' (first | refine go ?_ | intro _ | (apply cG; first | refine cT ?_ | refine cF ?_ | refine cS (fun _ => ?_) fun _ => ?_) | (apply gW; refine sW ?_) | (apply gI; refine sI ?_) | (apply gE; refine sE ?_) | (apply gP; refine sP ?_) | (apply gC; refine sC ?_) | (apply gD; refine sD ?_) | fail)
    exact E_round ⟨i + 1, e0, e1, s0, s1, a0, c0, a1, c1, g0, g1, link, la, lc, to, ta, tc⟩ hI1 (by show m - (i + 1) < m - i; omega) ⟨rfl, rfl, rfl, trivial⟩ Sb
theorem ChannelOrder_any {window : Int} {v : Value} {li : List Int} {w : World} (s : St w w [rd eI v li]) (hw1 : -9223372036854775808 ≤ window) (hw2 : window ≤ 9223372036854775807) (hl : li.length ≤ 9223372036854775807) (hr : ∀ n ∈ li, -9223372036854775808 ≤ n ∧ n ≤ 9223372036854775807) :
    Calls Try.prog 4 #[.int .i64 window, v] w fun e w' => e = .returned (.bool true) ∧ Below w.heap.size w w' :=
  ((ChannelOrder_ct (W0 := w) hw1 hw2 (.head _) hl hr).run w s).mono fun e w' h => by
    obtain ⟨v, L', rfl, ⟨rfl, rfl⟩, s⟩ := h
    exact ⟨rfl, s.below⟩
end
end Go.Proofs.Ythbgmnoaaohbcaa
