/-
  Walks: ChannelRuns.
-/
import Derived.Test.YthbgmnoaaohbcaaMW
namespace Go.Proofs.Ythbgmnoaaohbcaa
open Go Go.RowKit
set_option linter.unusedVariables false
set_option linter.unusedSimpArgs false
set_option maxRecDepth 20000
set_option synthInstance.maxSize 100000
set_option synthInstance.maxHeartbeats 400000
theorem D_frS {P : Program} {W0 : World} {L S : List HP} {n : Nat} {l : List Oper} {Q : Exit → Act → World → Prop} {br : Bool} {pl : List (Nat × Nat)} {a : Act} {E : TypeId} {v : Value} {x : List (List UInt8)} (i : Nat) {L' : List HP} (h : L[i]? = some (own E (eSl eB) v x)) (hL : L.set i (rd (eSl eB) v x) = L') (k : DL P W0 S n l Q br pl L' a) : DL P W0 S n l Q br pl L a := by
  subst hL
  exact ⟨fun w s => k.run w ((s.at_ h).own_rd.back h)⟩
section
variable {W0 : World} {L : List HP}
set_option maxHeartbeats 8000000 in
theorem ChannelRuns_ct {window : Int} {v : Value} {li : List Int} (hw1 : -9223372036854775808 ≤ window) (hw2 : window ≤ 9223372036854775807) (hv : rd eI v li ∈ L) (hl : li.length ≤ 9223372036854775807) (hr : ∀ n ∈ li, -9223372036854775808 ≤ n ∧ n ≤ 9223372036854775807) :
    CT Try.prog 3 #[.int .i64 window, v] W0 L fun r L' => r = .bool true ∧ L' = L := by
  refine CT_fact (fun w st => ((Src.sl (.inl hv) st).form)) ?_
  rintro ⟨Av, cv, rfl, hcv⟩
  obtain ⟨m, hm⟩ : ∃ m, min li.length 60 = m := ⟨_, rfl⟩
  have hq16 := tdiv_bd (n := window) (d := 16) (by decide) hw1 hw2
  have hwr16 : IntKind.i64.wrap (window.tdiv 16) = window.tdiv 16 := wr_i64 hq16.1 hq16.2
  refine CT_enter Try.func3 rfl ?_; (simp only [Try.ntmps3, List.size_toArray, List.length_cons, List.length_nil, Nat.reduceAdd, Nat.reduceSub, Array.replicate_succ, Array.replicate_zero, List.push_toArray, List.append_toArray, List.nil_append, List.cons_append])
  refine C_sub (sub_dup hv) ?_
  repeat' (first | refine go ?_ | intro _ | (apply cG; first | refine cT ?_ | refine cF ?_ | refine cS (fun _ => ?_) fun _ => ?_) | (apply gW; refine sW ?_) | (apply gI; refine sI ?_) | (apply gE; refine sE ?_) | (apply gP; refine sP ?_) | (apply gC; refine sC ?_) | (apply gD; refine sD ?_) | fail)
  refine O_d (dy_call ArgsI.pf (by first | exact rfl | trivial | (intro a b; rfl)) (ends_ct hw1 hw2)) ?_; rintro _ _ ⟨_, ⟨eg, pa, pb, wa, wb, hw, hwa, hwb, rfl, rfl⟩, rfl⟩; refine O_n ?_
  repeat' (first | refine go ?_ | intro _ | (apply cG; first | refine cT ?_ | refine cF ?_ | refine cS (fun _ => ?_) fun _ => ?_) | (apply gW; refine sW ?_) | (apply gI; refine sI ?_) | (apply gE; refine sE ?_) | (apply gP; refine sP ?_) | (apply gC; refine sC ?_) | (apply gD; refine sD ?_) | fail)
  refine C_ownnil 26 ePt ?_
  refine C_loop (κ := Nat × Value × Nat × Nat) [false, false, false, false, true, false, true, true, true, true, false, false, false, false, false, false, false, false, false, false, false, false, false, false, false, false, true, true, true, true, true, true, true, true, true, true, true, true, true, true, true, true, true, true, true, true, true, true, true, false, false, false, false, false, false, false, false, false, false, false, false, false, false, false, false, false, false, false, false, false, false, false, false, false, false, false, false, false, false, false, false, false, false, false, false, false, false, false, false, false, false, false, false, false, false, false, false, false, false, false, false, false, false, false, false, false, false, false, false, false, false, false, false, false, false, false, false, false, false, false, false, false, false, false, false, false, false, false, false, false, false, false, false, false, false, false, false, false, false, false, false, false, false, false, false, false, false, false, false, false, false, false, false, false, false, false, false, false, false, false, false, false, false, false, false, false, false, false, false, false, false, false, false, false, false, false, false, false, false, false, false, false, false, false, false, false, false, false, false, false, false, false, false, false, false, false, false, false, false, false, false, false, false, false, false, false, false, false, false, false, false, false, false, false, false] (fun k => [(6, k.2.1), (7, .int .i64 (k.1 : Int))]) (fun k => (match k.1 with | 0 => own 26 ePt k.2.1 [] :: rd ePt (.slice (some ⟨eg, 0, none⟩) 2 2) [pa, pb] :: ende pa ⟨wa, 0, 0, [], [], false⟩ :: ende pb ⟨wb, 0, 0, [], [], false⟩ :: rd eI (.slice Av li.length cv) li :: L | 1 => own 26 ePt k.2.1 [k.2.2.1] :: fende k.2.2.1 ⟨wa, 0, 0, [], [], false⟩ :: rd ePt (.slice (some ⟨eg, 0, none⟩) 2 2) [pa, pb] :: ende pa ⟨wa, 0, 0, [], [], false⟩ :: ende pb ⟨wb, 0, 0, [], [], false⟩ :: rd eI (.slice Av li.length cv) li :: L | _ => own 26 ePt k.2.1 [k.2.2.1, k.2.2.2] :: fende k.2.2.1 ⟨wa, 0, 0, [], [], false⟩ :: fende k.2.2.2 ⟨wb, 0, 0, [], [], false⟩ :: rd ePt (.slice (some ⟨eg, 0, none⟩) 2 2) [pa, pb] :: ende pa ⟨wa, 0, 0, [], [], false⟩ :: ende pb ⟨wb, 0, 0, [], [], false⟩ :: rd eI (.slice Av li.length cv) li :: L)) (fun k => k.1 ≤ 2 ∧ ∃ A c, k.2.1 = .slice A k.1 c) (fun k => 2 - k.1) (0, .slice none 0 0, 0, 0) ⟨by decide, none, 0, rfl⟩ ⟨rfl, rfl, trivial⟩ Sb ?_
  rintro ⟨k, vm, qa, qb⟩ u ⟨hk, Am, cm, hvm⟩
  dsimp only at hk hvm
  subst hvm
  obtain rfl | rfl | rfl : k = 0 ∨ k = 1 ∨ k = 2 := by omega
  · dsimp only
    ((try dsimp only); refine C_n ?_; (try simp only [Nat.reduceAdd, Nat.zero_add]))
    have hat : At [window, window.tdiv 16] 0 window := ⟨rfl⟩
    repeat' (first | refine go ?_ | intro _ | (apply cG; first | refine cT ?_ | refine cF ?_ | refine cS (fun _ => ?_) fun _ => ?_) | (apply gI; refine sI ?_) | (apply gE; refine sE ?_) | (apply gP; refine sP ?_) | (apply gC; refine sC ?_) | (apply gD; refine sD ?_) | fail)
    apply gW; refine sW (r := window.tdiv 16) ?_ ⟨by decide, hwr16⟩
    repeat' (first | refine go ?_ | intro _ | (apply cG; first | refine cT ?_ | refine cF ?_ | refine cS (fun _ => ?_) fun _ => ?_) | (apply gW; refine sW ?_) | (apply gI; refine sI ?_) | (apply gE; refine sE ?_) | (apply gP; refine sP ?_) | (apply gC; refine sC ?_) | (apply gD; refine sD ?_) | fail)
    refine O_d (dy_litP (f := iv) (hf := fun _ => rfl) [window, window.tdiv 16] (by rfl)) ?_; rintro _ LI' ⟨_, rfl, hLL⟩; replace hLL : LI' = own _ eI _ _ :: _ := hLL; subst hLL; refine O_n ?_
    repeat' (first | refine go ?_ | intro _ | (apply cG; first | refine cT ?_ | refine cF ?_ | refine cS (fun _ => ?_) fun _ => ?_) | (apply gW; refine sW ?_) | (apply gI; refine sI ?_) | (apply gE; refine sE ?_) | (apply gP; refine sP ?_) | (apply gC; refine sC ?_) | (apply gD; refine sD ?_) | fail)
    refine O_d (dy_call ArgsI.pf (by first | exact rfl | trivial | (intro a b; rfl)) (Around_ct (most := 16) hw1 hw2 (by decide) (by decide))) ?_; rintro _ _ ⟨_, ⟨rfl, hLL⟩, rfl⟩; replace hLL := hLL.symm; subst hLL; refine O_n ?_
    repeat' (first | refine go ?_ | intro _ | (apply cG; first | refine cT ?_ | refine cF ?_ | refine cS (fun _ => ?_) fun _ => ?_) | (apply gW; refine sW ?_) | (apply gI; refine sI ?_) | (apply gE; refine sE ?_) | (apply gP; refine sP ?_) | (apply gC; refine sC ?_) | (apply gD; refine sD ?_) | fail)
    rw [← hwa]
    refine O_d (dy_call ArgsI.pf (by first | exact rfl | trivial | (intro a b; rfl)) (fNew_ct (w := wa) (by omega) (by omega))) ?_; rintro _ _ ⟨_, ⟨p, rfl, rfl⟩, rfl⟩; refine O_n ?_
    repeat' (first | refine go ?_ | intro _ | (apply cG; first | refine cT ?_ | refine cF ?_ | refine cS (fun _ => ?_) fun _ => ?_) | (apply gW; refine sW ?_) | (apply gI; refine sI ?_) | (apply gE; refine sE ?_) | (apply gP; refine sP ?_) | (apply gC; refine sC ?_) | (apply gD; refine sD ?_) | fail)
    refine O_ownnil 91 eHd ?_
    refine O_ownnil 31 (eSl eB) ?_
    refine O_d (dy_litP (f := pv) (hf := fun _ => rfl) [p] (by rfl)) ?_; rintro _ _ ⟨_, rfl, rfl⟩; refine O_n ?_
    refine O_d (dy_append (i := 5) (l := ([] : List Nat)) (l2 := [p]) (R := ePt) (hm := rfl)) ?_; rintro _ _ ⟨A2, c2, rfl, rfl⟩; refine O_n ?_
    repeat' (first | refine go ?_ | intro _ | (apply cG; first | refine cT ?_ | refine cF ?_ | refine cS (fun _ => ?_) fun _ => ?_) | (apply gW; refine sW ?_) | (apply gI; refine sI ?_) | (apply gE; refine sE ?_) | (apply gP; refine sP ?_) | (apply gC; refine sC ?_) | (apply gD; refine sD ?_) | fail)
    refine E_sub (S := cel p [.int .i64 wa, .slice none 0 0, .int .i64 0, .int .i64 0, .slice none 0 0, .bool false] 50 :: own 31 (eSl eB) (.slice none 0 0) [] :: own 91 eHd (.slice none 0 0) [] :: own 26 ePt (.slice A2 1 c2) [p] :: rd ePt (.slice (some ⟨eg, 0, none⟩) 2 2) [pa, pb] :: ende pa ⟨wa, 0, 0, [], [], false⟩ :: ende pb ⟨wb, 0, 0, [], [], false⟩ :: rd eI (.slice Av li.length cv) li :: L) Sb ?_
    refine E_sub (fende_sub (f := ⟨wa, 0, 0, [], [], false⟩)) ?_
    exact E_round (1, .slice A2 1 c2, p, 0) ⟨by show 1 ≤ 2; decide, A2, c2, rfl⟩ (by show 2 - 1 < 2 - 0; decide) ⟨rfl, rfl, trivial⟩ (Sub.trans (B := own 26 ePt (.slice A2 1 c2) [p] :: fende p ⟨wa, 0, 0, [], [], false⟩ :: rd ePt (.slice (some ⟨eg, 0, none⟩) 2 2) [pa, pb] :: ende pa ⟨wa, 0, 0, [], [], false⟩ :: ende pb ⟨wb, 0, 0, [], [], false⟩ :: rd eI (.slice Av li.length cv) li :: L) Sb (Sub.refl _))
  · refine C_sub (S := own 26 ePt (.slice Am 1 cm) [qa] :: fende qa ⟨wa, 0, 0, [], [], false⟩ :: rd ePt (.slice (some ⟨eg, 0, none⟩) 2 2) [pa, pb] :: ende pa ⟨wa, 0, 0, [], [], false⟩ :: ende pb ⟨wb, 0, 0, [], [], false⟩ :: rd eI (.slice Av li.length cv) li :: L) (Sub.refl _) ?_
    ((try dsimp only); refine C_n ?_; (try simp only [Nat.reduceAdd, Nat.zero_add]))
    have hat : At [window, window.tdiv 16] 1 (window.tdiv 16) := ⟨rfl⟩
    repeat' (first | refine go ?_ | intro _ | (apply cG; first | refine cT ?_ | refine cF ?_ | refine cS (fun _ => ?_) fun _ => ?_) | (apply gI; refine sI ?_) | (apply gE; refine sE ?_) | (apply gP; refine sP ?_) | (apply gC; refine sC ?_) | (apply gD; refine sD ?_) | fail)
    apply gW; refine sW (r := window.tdiv 16) ?_ ⟨by decide, hwr16⟩
    repeat' (first | refine go ?_ | intro _ | (apply cG; first | refine cT ?_ | refine cF ?_ | refine cS (fun _ => ?_) fun _ => ?_) | (apply gW; refine sW ?_) | (apply gI; refine sI ?_) | (apply gE; refine sE ?_) | (apply gP; refine sP ?_) | (apply gC; refine sC ?_) | (apply gD; refine sD ?_) | fail)
    refine O_d (dy_litP (f := iv) (hf := fun _ => rfl) [window, window.tdiv 16] (by rfl)) ?_; rintro _ LI' ⟨_, rfl, hLL⟩; replace hLL : LI' = own _ eI _ _ :: _ := hLL; subst hLL; refine O_n ?_
    repeat' (first | refine go ?_ | intro _ | (apply cG; first | refine cT ?_ | refine cF ?_ | refine cS (fun _ => ?_) fun _ => ?_) | (apply gW; refine sW ?_) | (apply gI; refine sI ?_) | (apply gE; refine sE ?_) | (apply gP; refine sP ?_) | (apply gC; refine sC ?_) | (apply gD; refine sD ?_) | fail)
    refine O_d (dy_call ArgsI.pf (by first | exact rfl | trivial | (intro a b; rfl)) (Around_ct (most := 16) hq16.1 hq16.2 (by decide) (by decide))) ?_; rintro _ _ ⟨_, ⟨rfl, hLL⟩, rfl⟩; replace hLL := hLL.symm; subst hLL; refine O_n ?_
    repeat' (first | refine go ?_ | intro _ | (apply cG; first | refine cT ?_ | refine cF ?_ | refine cS (fun _ => ?_) fun _ => ?_) | (apply gW; refine sW ?_) | (apply gI; refine sI ?_) | (apply gE; refine sE ?_) | (apply gP; refine sP ?_) | (apply gC; refine sC ?_) | (apply gD; refine sD ?_) | fail)
    rw [← hwb]
    refine O_d (dy_call ArgsI.pf (by first | exact rfl | trivial | (intro a b; rfl)) (fNew_ct (w := wb) (by omega) (by omega))) ?_; rintro _ _ ⟨_, ⟨p, rfl, rfl⟩, rfl⟩; refine O_n ?_
    repeat' (first | refine go ?_ | intro _ | (apply cG; first | refine cT ?_ | refine cF ?_ | refine cS (fun _ => ?_) fun _ => ?_) | (apply gW; refine sW ?_) | (apply gI; refine sI ?_) | (apply gE; refine sE ?_) | (apply gP; refine sP ?_) | (apply gC; refine sC ?_) | (apply gD; refine sD ?_) | fail)
    refine O_ownnil 91 eHd ?_
    refine O_ownnil 31 (eSl eB) ?_
    refine O_d (dy_litP (f := pv) (hf := fun _ => rfl) [p] (by rfl)) ?_; rintro _ _ ⟨_, rfl, rfl⟩; refine O_n ?_
    refine O_d (dy_append (i := 5) (l := [qa]) (l2 := [p]) (R := ePt) (hm := rfl)) ?_; rintro _ _ ⟨A2, c2, rfl, rfl⟩; refine O_n ?_
    repeat' (first | refine go ?_ | intro _ | (apply cG; first | refine cT ?_ | refine cF ?_ | refine cS (fun _ => ?_) fun _ => ?_) | (apply gW; refine sW ?_) | (apply gI; refine sI ?_) | (apply gE; refine sE ?_) | (apply gP; refine sP ?_) | (apply gC; refine sC ?_) | (apply gD; refine sD ?_) | fail)
    refine E_sub (S := cel p [.int .i64 wb, .slice none 0 0, .int .i64 0, .int .i64 0, .slice none 0 0, .bool false] 50 :: own 31 (eSl eB) (.slice none 0 0) [] :: own 91 eHd (.slice none 0 0) [] :: own 26 ePt (.slice A2 2 c2) [qa, p] :: fende qa ⟨wa, 0, 0, [], [], false⟩ :: rd ePt (.slice (some ⟨eg, 0, none⟩) 2 2) [pa, pb] :: ende pa ⟨wa, 0, 0, [], [], false⟩ :: ende pb ⟨wb, 0, 0, [], [], false⟩ :: rd eI (.slice Av li.length cv) li :: L) Sb ?_
    refine E_sub (fende_sub (f := ⟨wb, 0, 0, [], [], false⟩)) ?_
    exact E_round (2, .slice A2 2 c2, qa, p) ⟨by show 2 ≤ 2; decide, A2, c2, rfl⟩ (by show 2 - 2 < 2 - 1; decide) ⟨rfl, rfl, trivial⟩ (Sub.trans (B := own 26 ePt (.slice A2 2 c2) [qa, p] :: fende qa ⟨wa, 0, 0, [], [], false⟩ :: fende p ⟨wb, 0, 0, [], [], false⟩ :: rd ePt (.slice (some ⟨eg, 0, none⟩) 2 2) [pa, pb] :: ende pa ⟨wa, 0, 0, [], [], false⟩ :: ende pb ⟨wb, 0, 0, [], [], false⟩ :: rd eI (.slice Av li.length cv) li :: L) Sb (Sub.refl _))
  refine C_sub (S := own 26 ePt (.slice Am 2 cm) [qa, qb] :: fende qa ⟨wa, 0, 0, [], [], false⟩ :: fende qb ⟨wb, 0, 0, [], [], false⟩ :: rd ePt (.slice (some ⟨eg, 0, none⟩) 2 2) [pa, pb] :: ende pa ⟨wa, 0, 0, [], [], false⟩ :: ende pb ⟨wb, 0, 0, [], [], false⟩ :: rd eI (.slice Av li.length cv) li :: L) (Sub.refl _) ?_
  ((try dsimp only); refine C_n ?_; (try simp only [Nat.reduceAdd, Nat.zero_add]))
  refine C_frz 0 ?_
  repeat' (first | refine go ?_ | intro _ | (apply cG; first | refine cT ?_ | refine cF ?_ | refine cS (fun _ => ?_) fun _ => ?_) | (apply gW; refine sW ?_) | (apply gI; refine sI ?_) | (apply gE; refine sE ?_) | (apply gP; refine sP ?_) | (apply gC; refine sC ?_) | (apply gD; refine sD ?_) | fail)
  refine C_ownnil 3 eI ?_
  refine C_ownnil 40 ePK ?_
  refine C_sub (S := own 40 ePK (.slice none 0 0) [] :: own 3 eI (.slice none 0 0) [] :: ende pa ⟨wa, 0, 0, [], [], false⟩ :: ende pb ⟨wb, 0, 0, [], [], false⟩ :: fende qa ⟨wa, 0, 0, [], [], false⟩ :: fende qb ⟨wb, 0, 0, [], [], false⟩ :: rd ePt (.slice (some ⟨eg, 0, none⟩) 2 2) [pa, pb] :: rd ePt (.slice Am 2 cm) [qa, qb] :: rd eI (.slice Av li.length cv) li :: L) Sb ?_
  refine C_loopS (κ := RS) [false, false, false, false, true, false, false, false, false, false, true, true, true, true, true, true, true, true, true, true, true, true, false, false, false, false, false, false, false, false, false, false, false, false, false, false, false, false, false, false, false, false, false, false, false, false, false, false, false, true, true, true, true, true, true, true, true, true, true, true, true, true, true, true, true, true, true, true, true, true, true, true, true, true, true, true, true, true, true, true, true, true, true, true, true, true, true, true, true, true, true, true, true, true, true, true, true, true, true, true, true, true, true, true, true, true, true, true, true, true, true, true, true, true, true, true, true, true, true, true, true, true, true, true, true, true, true, true, true, true, true, true, true, true, true, true, true, true, true, true, true, true, true, true, true, true, true, true, true, true, true, true, true, true, true, true, true, true, true, true, true, true, true, true, true, true, true, true, true, true, true, true, true, true, true, true, true, true, true, true, true, true, true, true, true, true, true, true, true, true, true, true, true, true, true, true, true, true, true, true, true, true, true, true, true, true, true, true, true, true, true, true, true, true, false] (fun k => [(10, .slice k.la k.link.length k.lc), (11, .slice k.ta k.to.length k.tc), (12, .int .i64 (k.i : Int))]) (fun k => [(0, own 40 ePK (.slice k.la k.link.length k.lc) k.link), (1, own 3 eI (.slice k.ta k.to.length k.tc) k.to), (2, ende pa k.e0), (3, ende pb k.e1), (4, fende qa k.f0), (5, fende qb k.f1)]) (fun k => RI m k) (fun k => m - k.i) ⟨0, ⟨wa, 0, 0, [], [], false⟩, ⟨wb, 0, 0, [], [], false⟩, ⟨wa, 0, 0, [], [], false⟩, ⟨wb, 0, 0, [], [], false⟩, [], none, 0, [], none, 0⟩ ⟨Nat.zero_le _, ⟨rfl, rfl, rfl, rfl, rfl, Int.le_refl _, Int.le_refl _, Int.le_refl _, rfl, rfl⟩, ⟨rfl, rfl, rfl, rfl, rfl, Int.le_refl _, Int.le_refl _, Int.le_refl _, rfl, rfl⟩, ⟨hw.1, hw.2.1⟩, ⟨hw.2.2.1, hw.2.2.2⟩, Nat.le_refl _, Nat.le_refl _, (fun x hx => by cases hx), (fun x hx => by cases hx), Int.le_refl _, Int.le_refl _, rfl, Nat.le_refl _, (fun x hx => by cases hx), (fun x hx => by cases hx), (fun x hx => by cases hx), (fun x hx => by cases hx)⟩ ⟨rfl, rfl, rfl, trivial⟩ ?_
  rintro ⟨i, e0, e1, f0, f1, link, la, lc, to, ta, tc⟩ u hI
  have hi := hI.i
  dsimp only at hi
  dsimp only
  ((try dsimp only); refine C_n ?_; (try simp only [Nat.reduceAdd, Nat.zero_add]))
  by_cases hlt : i < m
  rotate_left
  · obtain rfl : i = m := by omega
    by_cases h80 : i < li.length
    · have : i = 60 := by omega
      repeat' (first | refine go ?_ | intro _ | (apply cG; first | refine cT ?_ | refine cF ?_ | refine cS (fun _ => ?_) fun _ => ?_) | (apply gW; refine sW ?_) | (apply gI; refine sI ?_) | (apply gE; refine sE ?_) | (apply gP; refine sP ?_) | (apply gC; refine sC ?_) | (apply gD; refine sD ?_) | fail)
      refine O_d (dy_call ArgsI.pf (by first | exact rfl | trivial | (intro a b; rfl)) (lives_ct)) ?_; rintro _ _ ⟨_, ⟨rfl, hLL⟩, rfl⟩; replace hLL := hLL.symm; subst hLL; refine O_n ?_
      repeat' (first | refine go ?_ | intro _ | (apply cG; first | refine cT ?_ | refine cF ?_ | refine cS (fun _ => ?_) fun _ => ?_) | (apply gW; refine sW ?_) | (apply gI; refine sI ?_) | (apply gE; refine sE ?_) | (apply gP; refine sP ?_) | (apply gC; refine sC ?_) | (apply gD; refine sD ?_) | fail)
      refine E_res1 (by rfl) (by rfl) ⟨rfl, rfl⟩ Sb
    · repeat' (first | refine go ?_ | intro _ | (apply cG; first | refine cT ?_ | refine cF ?_ | refine cS (fun _ => ?_) fun _ => ?_) | (apply gW; refine sW ?_) | (apply gI; refine sI ?_) | (apply gE; refine sE ?_) | (apply gP; refine sP ?_) | (apply gC; refine sC ?_) | (apply gD; refine sD ?_) | fail)
      refine O_d (dy_call ArgsI.pf (by first | exact rfl | trivial | (intro a b; rfl)) (lives_ct)) ?_; rintro _ _ ⟨_, ⟨rfl, hLL⟩, rfl⟩; replace hLL := hLL.symm; subst hLL; refine O_n ?_
      repeat' (first | refine go ?_ | intro _ | (apply cG; first | refine cT ?_ | refine cF ?_ | refine cS (fun _ => ?_) fun _ => ?_) | (apply gW; refine sW ?_) | (apply gI; refine sI ?_) | (apply gE; refine sE ?_) | (apply gP; refine sP ?_) | (apply gC; refine sC ?_) | (apply gD; refine sD ?_) | fail)
      refine E_res1 (by rfl) (by rfl) ⟨rfl, rfl⟩ Sb
  obtain ⟨x, hx⟩ : ∃ x, li[i]? = some x := ⟨_, List.getElem?_eq_getElem (by omega)⟩
  have hax : At li i x := ⟨hx⟩
  have hxr := hr x (List.mem_of_getElem? hx)
  have hq8 := tdiv_bd (n := x) (d := 8) (by decide) hxr.1 hxr.2
  have hwr : IntKind.i64.wrap (x.tdiv 8) = x.tdiv 8 := wr_i64 hq8.1 hq8.2
  repeat' (first | refine go ?_ | intro _ | (apply cG; first | refine cT ?_ | refine cF ?_ | refine cS (fun _ => ?_) fun _ => ?_) | (apply gI; refine sI ?_) | (apply gE; refine sE ?_) | (apply gP; refine sP ?_) | (apply gC; refine sC ?_) | (apply gD; refine sD ?_) | fail)
  apply gW; refine sW (r := x.tdiv 8) ?_ ⟨by decide, hwr⟩
  repeat' (first | refine go ?_ | intro _ | (apply cG; first | refine cT ?_ | refine cF ?_ | refine cS (fun _ => ?_) fun _ => ?_) | (apply gW; refine sW ?_) | (apply gI; refine sI ?_) | (apply gE; refine sE ?_) | (apply gP; refine sP ?_) | (apply gC; refine sC ?_) | (apply gD; refine sD ?_) | fail)
  refine O_d (dy_call ArgsI.pf (by first | exact rfl | trivial | (intro a b; rfl)) (Around_ct (most := 1073741824) hq8.1 hq8.2 (by decide) (by decide))) ?_; rintro _ _ ⟨_, ⟨rfl, hLL⟩, rfl⟩; replace hLL := hLL.symm; subst hLL; refine O_n ?_
  obtain ⟨n, hn, hn2⟩ : ∃ n : Nat, around (x.tdiv 8) 1073741824 = (n : Int) ∧ n < 1073741824 := by
    have := around_in (n := x.tdiv 8) (most := 1073741824) (by decide)
    exact ⟨(around (x.tdiv 8) 1073741824).toNat, by omega, by omega⟩
  rw [hn]
  obtain ⟨k, hk, hk2⟩ : ∃ k : Int, (n : Int) % 2 = k ∧ (k = 0 ∨ k = 1) := ⟨_, rfl, by omega⟩
  repeat' (first | refine go ?_ | intro _ | (apply cG; first | refine cT ?_ | refine cF ?_ | refine cS (fun _ => ?_) fun _ => ?_) | (apply gW; refine sW ?_) | (apply gI; refine sI ?_) | (apply gE; refine sE ?_) | (apply gP; refine sP ?_) | (apply gC; refine sC ?_) | (apply gD; refine sD ?_) | fail)
  rw [hk]
  refine O_d (dy_call ArgsI.pf (by first | exact rfl | trivial | (intro a b; rfl)) (Around_ct (most := 8) hxr.1 hxr.2 (by decide) (by decide))) ?_; rintro _ _ ⟨_, ⟨rfl, hLL⟩, rfl⟩; replace hLL := hLL.symm; subst hLL; refine O_n ?_
  obtain ⟨c, hc, hc8⟩ : ∃ c : Nat, around x 8 = (c : Int) ∧ c < 8 := by
    have := around_in (n := x) (most := 8) (by decide)
    exact ⟨(around x 8).toNat, by omega, by omega⟩
  rw [hc]
  have hp0 : At [pa, pb] 0 pa := ⟨rfl⟩
  have hp1 : At [pa, pb] 1 pb := ⟨rfl⟩
  have hq0 : At [qa, qb] 0 qa := ⟨rfl⟩
  have hq1 : At [qa, qb] 1 qb := ⟨rfl⟩
  repeat' (first | ((fail_if_success apply AtE); refine go ?_) | intro _ | (apply cG; first | refine cT ?_ | refine cF ?_ | refine cS (fun _ => ?_) fun _ => ?_) | (apply gW; refine sW ?_) | (apply gI; refine sI ?_) | (apply gE; refine sE ?_) | (apply gP; refine sP ?_) | (apply gC; refine sC ?_) | (apply gD; refine sD ?_) | fail)
  refine go ?_; refine C_join (κ := RS) [false, false, false, false, true, false, false, false, false, false, true, true, false, false, false, true, true, true, true, true, true, false, false, false, false, false, false, false, false, false, false, false, false, false, false, false, false, false, false, false, false, false, false, false, false, false, false, false, false, false, false, false, false, false, false, false, false, false, false, false, false, false, false, false, false, false, false, false, false, false, false, false, true, true, true, true, true, true, true, true, true, true, true, true, true, true, true, true, true, true, true, true, true, true, true, true, true, true, true, true, true, true, true, true, true, true, true, true, true, true, true, true, true, true, true, true, true, true, true, true, true, true, true, true, true, true, true, true, true, true, true, true, true, true, true, true, true, true, true, true, true, true, true, true, true, true, true, true, true, true, true, true, true, true, true, true, true, true, true, true, true, true, true, true, true, true, true, true, true, true, true, true, true, true, true, true, true, true, true, true, true, true, true, true, true, true, true, true, false, false, false, false, false, false, false, false, false, false, false, false, false, false, false, false, false, false, false, false, false, false, false, false, false, false, false] (fun k => [(10, .slice k.la k.link.length k.lc), (11, .slice k.ta k.to.length k.tc)]) (fun k => [(0, own 40 ePK (.slice k.la k.link.length k.lc) k.link), (1, own 3 eI (.slice k.ta k.to.length k.tc) k.to), (2, ende pa k.e0), (3, ende pb k.e1), (4, fende qa k.f0), (5, fende qb k.f1)]) (fun k => k.i = i + 1 ∧ RI m k) ?_ ?_
  · refine go ?_
    refine go ?_
    obtain ⟨q, hq⟩ : ∃ q, decide (c = 0 ∨ c = 1) = q := ⟨_, rfl⟩
    refine C_join (κ := Unit) [false, false, false, false, false, false, false, false, false, false, false, false, false, false, false, false, false, false, false, false, false, false, false, false, false, false, false, false, false, false, false, false, false, false, false, false, false, false, false, false, false, false, false, false, false, false, false, false, false, false, false, false, false, false, false, false, false, false, false, false, false, false, false, false, false, false, false, false, false, false, false, false, false, false, false, false, false, false, false, false, false, false, false, false, false, false, false, false, false, false, false, false, false, false, false, false, false, false, false, false, false, false, false, false, false, false, false, false, false, false, false, false, false, false, false, false, false, false, false, false, false, false, false, false, false, false, false, false, false, false, false, false, true, true, true, false, false, false, false, false, false, false, false, false, false, false, false, false, false, false, false, false, false, false, false, false, false, false, false, false, false, false, false, false, false, false, false, false, false, false, false, false, false, false, false, false, false, false, false, false, false, false, false, false, false, false, false, false, false, false, false, false, false, false, false, false, false, false, false, false, false, false, false, false, false, false, false, false, false, false, false, false, false, false, false] (fun _ => [(132, .bool q)]) (fun _ => []) (fun _ => True) ?_ ?_
    · by_cases h0 : c = 0
      · obtain rfl : q = true := by rw [← hq]; exact decide_eq_true (.inl h0)
        repeat' (first | refine go ?_ | intro _ | (apply cG; first | refine cT ?_ | refine cF ?_ | refine cS (fun _ => ?_) fun _ => ?_) | (apply gW; refine sW ?_) | (apply gI; refine sI ?_) | (apply gE; refine sE ?_) | (apply gP; refine sP ?_) | (apply gC; refine sC ?_) | (apply gD; refine sD ?_) | fail)
        exact E_join () trivial ⟨rfl, trivial⟩
      · by_cases h1 : c = 1
        · obtain rfl : q = true := by rw [← hq]; exact decide_eq_true (.inr h1)
          repeat' (first | refine go ?_ | intro _ | (apply cG; first | refine cT ?_ | refine cF ?_ | refine cS (fun _ => ?_) fun _ => ?_) | (apply gW; refine sW ?_) | (apply gI; refine sI ?_) | (apply gE; refine sE ?_) | (apply gP; refine sP ?_) | (apply gC; refine sC ?_) | (apply gD; refine sD ?_) | fail)
          exact E_join () trivial ⟨rfl, trivial⟩
        · obtain rfl : q = false := by rw [← hq]; exact decide_eq_false (by omega)
          repeat' (first | refine go ?_ | intro _ | (apply cG; first | refine cT ?_ | refine cF ?_ | refine cS (fun _ => ?_) fun _ => ?_) | (apply gW; refine sW ?_) | (apply gI; refine sI ?_) | (apply gE; refine sE ?_) | (apply gP; refine sP ?_) | (apply gC; refine sC ?_) | (apply gD; refine sD ?_) | fail)
          exact E_join () trivial ⟨rfl, trivial⟩
    rintro ⟨⟩ u2 _
    ((try dsimp only); refine C_n ?_; (try simp only [Nat.reduceAdd, Nat.zero_add]))
    cases q
    rotate_left
    · obtain ⟨b8, hb8⟩ : ∃ b8 : UInt8, (i : Int) = (b8.toNat : Int) := ⟨UInt8.ofNat i, by rw [UInt8.toNat_ofNat']; omega⟩
      have hb8w : IntKind.u8.wrap (i : Int) = (b8.toNat : Int) := by rw [← hb8]; exact wr_u8 (by omega) (by omega)
      obtain ⟨b9, hb9w⟩ := u8_any2 (n : Int)
      rcases hk2 with rfl | rfl
      · repeat' (first | refine go ?_ | intro _ | (apply cG; first | refine cT ?_ | refine cF ?_ | refine cS (fun _ => ?_) fun _ => ?_) | (apply gI; refine sI ?_) | (apply gE; refine sE ?_) | (apply gP; refine sP ?_) | (apply gC; refine sC ?_) | (apply gD; refine sD ?_) | fail)
        apply gW; refine sW (r := (b8.toNat : Int)) ?_ hb8w
        repeat' (first | refine go ?_ | intro _ | (apply cG; first | refine cT ?_ | refine cF ?_ | refine cS (fun _ => ?_) fun _ => ?_) | (apply gI; refine sI ?_) | (apply gE; refine sE ?_) | (apply gP; refine sP ?_) | (apply gC; refine sC ?_) | (apply gD; refine sD ?_) | fail)
        apply gW; refine sW (r := (b9.toNat : Int)) ?_ hb9w
        repeat' (first | refine go ?_ | intro _ | (apply cG; first | refine cT ?_ | refine cF ?_ | refine cS (fun _ => ?_) fun _ => ?_) | (apply gW; refine sW ?_) | (apply gI; refine sI ?_) | (apply gE; refine sE ?_) | (apply gP; refine sP ?_) | (apply gC; refine sC ?_) | (apply gD; refine sD ?_) | fail)
        refine O_d (dy_litP (f := bv) (hf := fun _ => rfl) [b8, b9] (by rfl)) ?_; rintro _ _ ⟨_, rfl, rfl⟩; refine O_n ?_
        refine O_frz 0 ?_
        repeat' (first | refine go ?_ | intro _ | (apply cG; first | refine cT ?_ | refine cF ?_ | refine cS (fun _ => ?_) fun _ => ?_) | (apply gW; refine sW ?_) | (apply gI; refine sI ?_) | (apply gE; refine sE ?_) | (apply gP; refine sP ?_) | (apply gC; refine sC ?_) | (apply gD; refine sD ?_) | fail)
        rename_i lg
        refine C_draw (n := 99) [rd ePt (.slice (some ⟨eg, 0, none⟩) 2 2) [pa, pb], rd ePt (.slice Am 2 cm) [qa, qb]] [(0, 1), (1, 1), (2, 1), (3, 1), (4, 1), (6, 1), (7, 1), (8, 1), (9, 1), (10, 1), (5, 0), (11, 0), (12, 1)] (by kernel_rfl) (by kernel_rfl) Sb ?_
        repeat' (first | refine go ?_ | intro _ | (apply cG; first | refine cT ?_ | refine cF ?_ | refine cS (fun _ => ?_) fun _ => ?_) | (apply gW; refine sW ?_) | (apply gI; refine sI ?_) | (apply gE; refine sE ?_) | (apply gP; refine sP ?_) | (apply gC; refine sC ?_) | (apply gD; refine sD ?_) | fail)
        refine D_op rfl ?_; refine X_d (dy_call ArgsI.pf (by first | exact rfl | trivial | (intro a b; rfl)) (CT.pull (i := 3) (by rfl) (Send_e (e := e0) (b := [b8, b9]) (e' := { e0 with wait := e0.wait ++ [[b8, b9]] }) Sc.pf (by show 2 ≤ 65536; decide) (by have := hI.wl0; dsimp only at this; omega) rfl))) ?_; rintro _ _ ⟨_, ⟨rfl, rfl⟩, rfl⟩; refine ⟨(by first | exact .inl rfl | exact .inr Sb), D_n ?_⟩
        repeat' (first | refine go ?_ | intro _ | (apply cG; first | refine cT ?_ | refine cF ?_ | refine cS (fun _ => ?_) fun _ => ?_) | (apply gW; refine sW ?_) | (apply gI; refine sI ?_) | (apply gE; refine sE ?_) | (apply gP; refine sP ?_) | (apply gC; refine sC ?_) | (apply gD; refine sD ?_) | fail)
        refine D_op rfl ?_; refine X_d (dy_call ArgsI.pf (by first | exact rfl | trivial | (intro a b; rfl)) (CT.pull (i := 5) (by rfl) (fSend_ct (e := f0) (b := [b8, b9]) (.tail _ (.head _)) (by show 2 ≤ 65536; decide) (by have := hI.n0; dsimp only at this; omega) hI.r0.a0 (by have h1 := hI.n0; have h2 := hI.r0.a1; dsimp only at h1 h2; omega) rfl))) ?_; rintro _ _ ⟨_, ⟨rfl, rfl⟩, rfl⟩; refine ⟨(by first | exact .inl rfl | exact .inr Sb), D_n ?_⟩
        repeat' (first | refine go ?_ | intro _ | (apply cG; first | refine cT ?_ | refine cF ?_ | refine cS (fun _ => ?_) fun _ => ?_) | (apply gW; refine sW ?_) | (apply gI; refine sI ?_) | (apply gE; refine sE ?_) | (apply gP; refine sP ?_) | (apply gC; refine sC ?_) | (apply gD; refine sD ?_) | fail)
        exact E_join ⟨i + 1, { e0 with wait := e0.wait ++ [[b8, b9]] }, e1, { f0 with wait := f0.wait ++ [[b8, b9]] }, f1, link, la, lc, to, ta, tc⟩ ⟨rfl, hI.send0 (by omega) (Nat.le_refl _)⟩ ⟨rfl, rfl, trivial⟩ Sb
      · repeat' (first | refine go ?_ | intro _ | (apply cG; first | refine cT ?_ | refine cF ?_ | refine cS (fun _ => ?_) fun _ => ?_) | (apply gI; refine sI ?_) | (apply gE; refine sE ?_) | (apply gP; refine sP ?_) | (apply gC; refine sC ?_) | (apply gD; refine sD ?_) | fail)
        apply gW; refine sW (r := (b8.toNat : Int)) ?_ hb8w
        repeat' (first | refine go ?_ | intro _ | (apply cG; first | refine cT ?_ | refine cF ?_ | refine cS (fun _ => ?_) fun _ => ?_) | (apply gI; refine sI ?_) | (apply gE; refine sE ?_) | (apply gP; refine sP ?_) | (apply gC; refine sC ?_) | (apply gD; refine sD ?_) | fail)
        apply gW; refine sW (r := (b9.toNat : Int)) ?_ hb9w
        repeat' (first | refine go ?_ | intro _ | (apply cG; first | refine cT ?_ | refine cF ?_ | refine cS (fun _ => ?_) fun _ => ?_) | (apply gW; refine sW ?_) | (apply gI; refine sI ?_) | (apply gE; refine sE ?_) | (apply gP; refine sP ?_) | (apply gC; refine sC ?_) | (apply gD; refine sD ?_) | fail)
        refine O_d (dy_litP (f := bv) (hf := fun _ => rfl) [b8, b9] (by rfl)) ?_; rintro _ _ ⟨_, rfl, rfl⟩; refine O_n ?_
        refine O_frz 0 ?_
        repeat' (first | refine go ?_ | intro _ | (apply cG; first | refine cT ?_ | refine cF ?_ | refine cS (fun _ => ?_) fun _ => ?_) | (apply gW; refine sW ?_) | (apply gI; refine sI ?_) | (apply gE; refine sE ?_) | (apply gP; refine sP ?_) | (apply gC; refine sC ?_) | (apply gD; refine sD ?_) | fail)
        rename_i lg
        refine C_draw (n := 99) [rd ePt (.slice (some ⟨eg, 0, none⟩) 2 2) [pa, pb], rd ePt (.slice Am 2 cm) [qa, qb]] [(0, 1), (1, 1), (2, 1), (3, 1), (4, 1), (6, 1), (7, 1), (8, 1), (9, 1), (10, 1), (5, 0), (11, 0), (12, 1)] (by kernel_rfl) (by kernel_rfl) Sb ?_
        repeat' (first | refine go ?_ | intro _ | (apply cG; first | refine cT ?_ | refine cF ?_ | refine cS (fun _ => ?_) fun _ => ?_) | (apply gW; refine sW ?_) | (apply gI; refine sI ?_) | (apply gE; refine sE ?_) | (apply gP; refine sP ?_) | (apply gC; refine sC ?_) | (apply gD; refine sD ?_) | fail)
        refine D_op rfl ?_; refine X_d (dy_call ArgsI.pf (by first | exact rfl | trivial | (intro a b; rfl)) (CT.pull (i := 4) (by rfl) (Send_e (e := e1) (b := [b8, b9]) (e' := { e1 with wait := e1.wait ++ [[b8, b9]] }) Sc.pf (by show 2 ≤ 65536; decide) (by have := hI.wl1; dsimp only at this; omega) rfl))) ?_; rintro _ _ ⟨_, ⟨rfl, rfl⟩, rfl⟩; refine ⟨(by first | exact .inl rfl | exact .inr Sb), D_n ?_⟩
        repeat' (first | refine go ?_ | intro _ | (apply cG; first | refine cT ?_ | refine cF ?_ | refine cS (fun _ => ?_) fun _ => ?_) | (apply gW; refine sW ?_) | (apply gI; refine sI ?_) | (apply gE; refine sE ?_) | (apply gP; refine sP ?_) | (apply gC; refine sC ?_) | (apply gD; refine sD ?_) | fail)
        refine D_op rfl ?_; refine X_d (dy_call ArgsI.pf (by first | exact rfl | trivial | (intro a b; rfl)) (CT.pull (i := 6) (by rfl) (fSend_ct (e := f1) (b := [b8, b9]) (.tail _ (.head _)) (by show 2 ≤ 65536; decide) (by have := hI.n1; dsimp only at this; omega) hI.r1.a0 (by have h1 := hI.n1; have h2 := hI.r1.a1; dsimp only at h1 h2; omega) rfl))) ?_; rintro _ _ ⟨_, ⟨rfl, rfl⟩, rfl⟩; refine ⟨(by first | exact .inl rfl | exact .inr Sb), D_n ?_⟩
        repeat' (first | refine go ?_ | intro _ | (apply cG; first | refine cT ?_ | refine cF ?_ | refine cS (fun _ => ?_) fun _ => ?_) | (apply gW; refine sW ?_) | (apply gI; refine sI ?_) | (apply gE; refine sE ?_) | (apply gP; refine sP ?_) | (apply gC; refine sC ?_) | (apply gD; refine sD ?_) | fail)
        exact E_join ⟨i + 1, e0, { e1 with wait := e1.wait ++ [[b8, b9]] }, f0, { f1 with wait := f1.wait ++ [[b8, b9]] }, link, la, lc, to, ta, tc⟩ ⟨rfl, hI.send1 (by omega) (Nat.le_refl _)⟩ ⟨rfl, rfl, trivial⟩ Sb
    refine go ?_
    refine go ?_
    obtain ⟨q, hq⟩ : ∃ q, decide (c = 2 ∨ c = 3) = q := ⟨_, rfl⟩
    refine C_join (κ := Unit) [false, false, false, false, false, false, false, false, false, false, false, false, false, false, false, false, false, false, false, false, false, false, false, false, false, false, false, false, false, false, false, false, false, false, false, false, false, false, false, false, false, false, false, false, false, false, false, false, false, false, false, false, false, false, false, false, false, false, false, false, false, false, false, false, false, false, false, false, false, false, false, false, false, false, false, false, false, false, false, false, false, false, false, false, false, false, false, false, false, false, false, false, false, false, false, false, false, false, false, false, false, false, false, false, false, false, false, false, false, false, false, false, false, false, false, false, false, false, false, false, false, false, false, false, false, false, false, false, false, false, false, false, false, false, false, false, false, false, false, false, false, false, false, false, false, false, false, false, false, false, false, false, false, true, true, true, false, false, false, false, false, false, false, false, false, false, false, false, false, false, false, false, false, false, false, false, false, false, false, false, false, false, false, false, false, false, false, false, false, false, false, false, false, false, false, false, false, false, false, false, false, false, false, false, false, false, false, false, false, false, false, false, false, false, false] (fun _ => [(153, .bool q)]) (fun _ => []) (fun _ => True) ?_ ?_
    · by_cases h0 : c = 2
      · obtain rfl : q = true := by rw [← hq]; exact decide_eq_true (.inl h0)
        repeat' (first | refine go ?_ | intro _ | (apply cG; first | refine cT ?_ | refine cF ?_ | refine cS (fun _ => ?_) fun _ => ?_) | (apply gW; refine sW ?_) | (apply gI; refine sI ?_) | (apply gE; refine sE ?_) | (apply gP; refine sP ?_) | (apply gC; refine sC ?_) | (apply gD; refine sD ?_) | fail)
        exact E_join () trivial ⟨rfl, trivial⟩
      · by_cases h1 : c = 3
        · obtain rfl : q = true := by rw [← hq]; exact decide_eq_true (.inr h1)
          repeat' (first | refine go ?_ | intro _ | (apply cG; first | refine cT ?_ | refine cF ?_ | refine cS (fun _ => ?_) fun _ => ?_) | (apply gW; refine sW ?_) | (apply gI; refine sI ?_) | (apply gE; refine sE ?_) | (apply gP; refine sP ?_) | (apply gC; refine sC ?_) | (apply gD; refine sD ?_) | fail)
          exact E_join () trivial ⟨rfl, trivial⟩
        · obtain rfl : q = false := by rw [← hq]; exact decide_eq_false (by omega)
          repeat' (first | refine go ?_ | intro _ | (apply cG; first | refine cT ?_ | refine cF ?_ | refine cS (fun _ => ?_) fun _ => ?_) | (apply gW; refine sW ?_) | (apply gI; refine sI ?_) | (apply gE; refine sE ?_) | (apply gP; refine sP ?_) | (apply gC; refine sC ?_) | (apply gD; refine sD ?_) | fail)
          exact E_join () trivial ⟨rfl, trivial⟩
    rintro ⟨⟩ u3 _
    ((try dsimp only); refine C_n ?_; (try simp only [Nat.reduceAdd, Nat.zero_add]))
    cases q
    rotate_left
    · rcases hk2 with rfl | rfl
      · repeat' (first | refine go ?_ | intro _ | (apply cG; first | refine cT ?_ | refine cF ?_ | refine cS (fun _ => ?_) fun _ => ?_) | (apply gW; refine sW ?_) | (apply gI; refine sI ?_) | (apply gE; refine sE ?_) | (apply gP; refine sP ?_) | (apply gC; refine sC ?_) | (apply gD; refine sD ?_) | fail)
        refine O_d (dy_call ArgsI.pf (by first | exact rfl | trivial | (intro a b; rfl)) (CT.pull (i := 2) (by rfl) (Out_e (e := e0) (e' := { e0 with ow := false }) (hI.good0 (by omega)) hI.w0.1 hI.w0.2 hI.wb0 rfl))) ?_; rintro _ _ ⟨_, ⟨A1, c1', p, hp, rfl, rfl⟩, rfl⟩; refine O_n ?_
        obtain ⟨aN, haN⟩ : ∃ aN : Nat, f0.acked = (aN : Int) := ⟨f0.acked.toNat, by have := hI.r0.a0; dsimp only at this; omega⟩
        have hrr := hI.r0
        have hr1 := hrr.a1
        have hn := hI.n0
        have hcn := hI.c0
        have hg0 := hrr.g0
        have hgg := hrr.got
        have hww := hI.w0
        have hwe := hrr.w
        dsimp only at hrr hr1 hn hcn hg0 hgg hww hwe
        refine O_frz 0 ?_
        repeat' (first | refine go ?_ | intro _ | (apply cG; first | refine cT ?_ | refine cF ?_ | refine cS (fun _ => ?_) fun _ => ?_) | (apply gW; refine sW ?_) | (apply gI; refine sI ?_) | (apply gE; refine sE ?_) | (apply gP; refine sP ?_) | (apply gC; refine sC ?_) | (apply gD; refine sD ?_) | fail)
        refine O_d (dy_call ArgsI.pf (by first | exact rfl | trivial | (intro a b; rfl)) (CT.pull (i := 5) (by rfl) (fOut_ct (e := f0) (e' := { f0 with ow := false }) haN (by omega) (by omega) (by omega) (by omega) (by omega) (by omega) rfl))) ?_; rintro _ _ ⟨_, ⟨A2, c2', l, hl, rfl, rfl⟩, rfl⟩; refine O_n ?_
        have hpl : p.map PK.p = l.map PK.p := by
          have h1 := hrr.wait
          have h2 : f0.acked.toNat = aN := by rw [haN]; rfl
          rw [h2] at h1
          rw [hp, hl, hrr.w, hrr.acked, hrr.got, h1, hrr.ow]
        have hll : l.length ≤ 16 := by
          have h1 := congrArg List.length hl
          have h2 := outP_len (w := f0.w) (acked := f0.acked) (got := f0.got) (wait := f0.wait.drop aN) (ow := f0.ow) (by omega)
          rw [List.length_map] at h1
          exact Nat.le_trans (Nat.le_of_eq h1) h2
        have hlb : ∀ x ∈ l, x.b.length ≤ 2 := fun x hx => outP_b (fun y hy => hI.b0 y (List.mem_of_mem_drop hy)) (pk_mem hl hx)
        have hpb : ∀ x ∈ p, x.b.length ≤ 1000000 := fun x hx => by
          obtain ⟨y, hy, hyp⟩ : ∃ y ∈ l, y.p = x.p := by
            have : x.p ∈ p.map PK.p := List.mem_map.2 ⟨x, hx, rfl⟩
            rw [hpl] at this
            exact List.mem_map.1 this
          have h2 : y.b = x.b := congrArg (fun t => t.2.2) hyp
          have := hlb y hy
          rw [h2] at this
          omega
        have hplen : p.length = l.length := by have := congrArg List.length hpl; simpa using this
        have hlk := hI.ll
        have htl := hI.tl
        dsimp only at hlk htl
        refine O_frz 0 ?_
        repeat' (first | refine go ?_ | intro _ | (apply cG; first | refine cT ?_ | refine cF ?_ | refine cS (fun _ => ?_) fun _ => ?_) | (apply gW; refine sW ?_) | (apply gI; refine sI ?_) | (apply gE; refine sE ?_) | (apply gP; refine sP ?_) | (apply gC; refine sC ?_) | (apply gD; refine sD ?_) | fail)
        refine O_d (dy_call ArgsI.pf (by first | exact rfl | trivial | (intro a b; rfl)) (same_ct (la := p) (lb := l) (.tail _ (.tail _ (.head _))) (.head _) (by omega) hpl hpb)) ?_; rintro _ _ ⟨_, ⟨rfl, hLL⟩, rfl⟩; replace hLL := hLL.symm; subst hLL; refine O_n ?_
        repeat' (first | refine go ?_ | intro _ | (apply cG; first | refine cT ?_ | refine cF ?_ | refine cS (fun _ => ?_) fun _ => ?_) | (apply gW; refine sW ?_) | (apply gI; refine sI ?_) | (apply gE; refine sE ?_) | (apply gP; refine sP ?_) | (apply gC; refine sC ?_) | (apply gD; refine sD ?_) | fail)
        refine C_loopS (κ := Nat × Option Addr × Nat × Option Addr × Nat) [false, false, false, false, false, false, false, false, false, false, true, true, false, false, false, false, false, false, true, false, false, false, false, false, false, false, false, false, false, false, false, false, false, false, false, false, false, false, false, false, false, false, false, false, false, false, false, false, false, false, false, false, false, false, false, false, false, false, false, false, false, false, false, false, false, false, false, false, false, false, false, false, false, false, false, false, false, false, false, false, false, false, false, false, false, false, false, false, false, false, false, false, false, false, false, false, false, false, false, false, false, false, false, false, false, false, false, false, false, false, false, false, false, false, false, false, false, false, false, false, false, false, false, false, false, false, false, false, false, false, false, false, false, false, false, false, false, false, false, false, false, false, false, false, false, false, false, false, false, false, false, false, false, false, false, false, false, false, false, false, false, false, false, false, false, false, false, false, false, false, true, true, true, true, true, true, true, true, true, true, true, true, true, true, true, true, true, true, false, false, false, false, false, false, false, false, false, false, false, false, false, false, false, false, false, false, false, false, false, false, false, false, false, false, false] (fun k => [(10, .slice k.2.1 (link ++ l.take k.1).length k.2.2.1), (11, .slice k.2.2.2.1 (to ++ List.replicate k.1 1).length k.2.2.2.2), (18, .int .i64 (k.1 : Int))]) (fun k => [(4, own 40 ePK (.slice k.2.1 (link ++ l.take k.1).length k.2.2.1) (link ++ l.take k.1)), (5, own 3 eI (.slice k.2.2.2.1 (to ++ List.replicate k.1 1).length k.2.2.2.2) (to ++ List.replicate k.1 1))]) (fun k => k.1 ≤ l.length) (fun k => l.length - k.1) (0, la, lc, ta, tc) (Nat.zero_le _) (by simp only [List.take_zero, List.append_nil, List.replicate_zero]; exact ⟨rfl, rfl, rfl, trivial⟩) ?_ (by simp only [List.take_zero, List.append_nil, List.replicate_zero]; exact Sb)
        rintro ⟨j, LA, LC, TA, TC⟩ u3 hj
        dsimp only at hj
        dsimp only
        have hj1 : (link ++ l.take j).length = link.length + j := by rw [List.length_append, List.length_take]; omega
        have hj2 : (to ++ List.replicate j (1 : Int)).length = to.length + j := by rw [List.length_append, List.length_replicate]
        rw [hj1, hj2]
        ((try dsimp only); refine C_n ?_; (try simp only [Nat.reduceAdd, Nat.zero_add]))
        by_cases hjl : j < l.length
        · obtain ⟨y, hy⟩ : ∃ y, l[j]? = some y := ⟨_, List.getElem?_eq_getElem hjl⟩
          have hay : At l j y := ⟨hy⟩
          have ht1 : l.take (j + 1) = l.take j ++ [y] := by rw [List.take_add_one, hy]; rfl
          repeat' (first | refine go ?_ | intro _ | (apply cG; first | refine cT ?_ | refine cF ?_ | refine cS (fun _ => ?_) fun _ => ?_) | (apply gW; refine sW ?_) | (apply gI; refine sI ?_) | (apply gE; refine sE ?_) | (apply gP; refine sP ?_) | (apply gC; refine sC ?_) | (apply gD; refine sD ?_) | fail)
          refine O_sub (sub_peekP' (l := l) (j := j) (x := y) (by repeat (first | exact .head _ | refine .tail _ ?_)) hy) ?_
          refine O_d (dy_lit1 (R := ePK) y (hcs := by rfl) (hel := fun m h hs => ⟨rfl, rd_mem hs (by repeat (first | exact .head _ | refine .tail _ ?_))⟩)) ?_; rintro _ _ ⟨_, rfl, rfl⟩; refine O_n ?_
          refine O_d (dy_append (i := 6) (l := link ++ l.take j) (l2 := [y]) (N := link.length + j + 1) (hm := rfl) (hN := by rw [hj1]; rfl)) ?_; rintro _ _ ⟨A8, c8, rfl, rfl⟩; refine O_n ?_
          repeat' (first | refine go ?_ | intro _ | (apply cG; first | refine cT ?_ | refine cF ?_ | refine cS (fun _ => ?_) fun _ => ?_) | (apply gW; refine sW ?_) | (apply gI; refine sI ?_) | (apply gE; refine sE ?_) | (apply gP; refine sP ?_) | (apply gC; refine sC ?_) | (apply gD; refine sD ?_) | fail)
          refine O_d (dy_lit1 (R := eI) (1 : Int) (hcs := by rfl) (hel := fun _ _ _ => by rfl)) ?_; rintro _ _ ⟨_, rfl, rfl⟩; refine O_n ?_
          refine O_d (dy_append (i := 8) (l := to ++ List.replicate j (1 : Int)) (l2 := [1]) (N := to.length + j + 1) (hm := rfl) (hN := by rw [hj2]; rfl)) ?_; rintro _ _ ⟨A9, c9, rfl, rfl⟩; refine O_n ?_
          repeat' (first | refine go ?_ | intro _ | (apply cG; first | refine cT ?_ | refine cF ?_ | refine cS (fun _ => ?_) fun _ => ?_) | (apply gW; refine sW ?_) | (apply gI; refine sI ?_) | (apply gE; refine sE ?_) | (apply gP; refine sP ?_) | (apply gC; refine sC ?_) | (apply gD; refine sD ?_) | fail)
          have hk1 : (link ++ l.take (j + 1)).length = link.length + j + 1 := by rw [List.length_append, List.length_take]; omega
          have hk2' : (to ++ List.replicate (j + 1) (1 : Int)).length = to.length + j + 1 := by rw [List.length_append, List.length_replicate]; omega
          have hk3 : link ++ l.take j ++ [y] = link ++ l.take (j + 1) := by rw [ht1, List.append_assoc]
          have hk4 : to ++ List.replicate j (1 : Int) ++ [1] = to ++ List.replicate (j + 1) (1 : Int) := by rw [List.replicate_succ', List.append_assoc]
          rw [hk3, hk4]
          refine E_round (j + 1, A8, c8, A9, c9) (by dsimp only; omega) (by show l.length - (j + 1) < l.length - j; omega) ?_ ?_
          · dsimp only
            rw [hk1, hk2']
            exact ⟨rfl, rfl, rfl, trivial⟩
          · dsimp only
            rw [hk1, hk2']
            exact Sb
        obtain rfl : j = l.length := by omega
        have hk1 : link.length + l.length = (link ++ l).length := by rw [List.length_append]
        have hk2' : to.length + l.length = (to ++ List.replicate l.length (1 : Int)).length := by rw [List.length_append, List.length_replicate]
        rw [List.take_length, hk1, hk2']
        repeat' (first | refine go ?_ | intro _ | (apply cG; first | refine cT ?_ | refine cF ?_ | refine cS (fun _ => ?_) fun _ => ?_) | (apply gW; refine sW ?_) | (apply gI; refine sI ?_) | (apply gE; refine sE ?_) | (apply gP; refine sP ?_) | (apply gC; refine sC ?_) | (apply gD; refine sD ?_) | fail)
        exact E_join ⟨i + 1, { e0 with ow := false }, e1, { f0 with ow := false }, f1, link ++ l, LA, LC, to ++ List.replicate l.length 1, TA, TC⟩ ⟨rfl, hI.out0 (by omega) hll hlb⟩ ⟨rfl, rfl, trivial⟩ Sb
      · repeat' (first | refine go ?_ | intro _ | (apply cG; first | refine cT ?_ | refine cF ?_ | refine cS (fun _ => ?_) fun _ => ?_) | (apply gW; refine sW ?_) | (apply gI; refine sI ?_) | (apply gE; refine sE ?_) | (apply gP; refine sP ?_) | (apply gC; refine sC ?_) | (apply gD; refine sD ?_) | fail)
        refine O_d (dy_call ArgsI.pf (by first | exact rfl | trivial | (intro a b; rfl)) (CT.pull (i := 3) (by rfl) (Out_e (e := e1) (e' := { e1 with ow := false }) (hI.good1 (by omega)) hI.w1.1 hI.w1.2 hI.wb1 rfl))) ?_; rintro _ _ ⟨_, ⟨A1, c1', p, hp, rfl, rfl⟩, rfl⟩; refine O_n ?_
        obtain ⟨aN, haN⟩ : ∃ aN : Nat, f1.acked = (aN : Int) := ⟨f1.acked.toNat, by have := hI.r1.a0; dsimp only at this; omega⟩
        have hrr := hI.r1
        have hr1 := hrr.a1
        have hn := hI.n1
        have hcn := hI.c1
        have hg0 := hrr.g0
        have hgg := hrr.got
        have hww := hI.w1
        have hwe := hrr.w
        dsimp only at hrr hr1 hn hcn hg0 hgg hww hwe
        refine O_frz 0 ?_
        repeat' (first | refine go ?_ | intro _ | (apply cG; first | refine cT ?_ | refine cF ?_ | refine cS (fun _ => ?_) fun _ => ?_) | (apply gW; refine sW ?_) | (apply gI; refine sI ?_) | (apply gE; refine sE ?_) | (apply gP; refine sP ?_) | (apply gC; refine sC ?_) | (apply gD; refine sD ?_) | fail)
        refine O_d (dy_call ArgsI.pf (by first | exact rfl | trivial | (intro a b; rfl)) (CT.pull (i := 6) (by rfl) (fOut_ct (e := f1) (e' := { f1 with ow := false }) haN (by omega) (by omega) (by omega) (by omega) (by omega) (by omega) rfl))) ?_; rintro _ _ ⟨_, ⟨A2, c2', l, hl, rfl, rfl⟩, rfl⟩; refine O_n ?_
        have hpl : p.map PK.p = l.map PK.p := by
          have h1 := hrr.wait
          have h2 : f1.acked.toNat = aN := by rw [haN]; rfl
          rw [h2] at h1
          rw [hp, hl, hrr.w, hrr.acked, hrr.got, h1, hrr.ow]
        have hll : l.length ≤ 16 := by
          have h1 := congrArg List.length hl
          have h2 := outP_len (w := f1.w) (acked := f1.acked) (got := f1.got) (wait := f1.wait.drop aN) (ow := f1.ow) (by omega)
          rw [List.length_map] at h1
          exact Nat.le_trans (Nat.le_of_eq h1) h2
        have hlb : ∀ x ∈ l, x.b.length ≤ 2 := fun x hx => outP_b (fun y hy => hI.b1 y (List.mem_of_mem_drop hy)) (pk_mem hl hx)
        have hpb : ∀ x ∈ p, x.b.length ≤ 1000000 := fun x hx => by
          obtain ⟨y, hy, hyp⟩ : ∃ y ∈ l, y.p = x.p := by
            have : x.p ∈ p.map PK.p := List.mem_map.2 ⟨x, hx, rfl⟩
            rw [hpl] at this
            exact List.mem_map.1 this
          have h2 : y.b = x.b := congrArg (fun t => t.2.2) hyp
          have := hlb y hy
          rw [h2] at this
          omega
        have hplen : p.length = l.length := by have := congrArg List.length hpl; simpa using this
        have hlk := hI.ll
        have htl := hI.tl
        dsimp only at hlk htl
        refine O_frz 0 ?_
        repeat' (first | refine go ?_ | intro _ | (apply cG; first | refine cT ?_ | refine cF ?_ | refine cS (fun _ => ?_) fun _ => ?_) | (apply gW; refine sW ?_) | (apply gI; refine sI ?_) | (apply gE; refine sE ?_) | (apply gP; refine sP ?_) | (apply gC; refine sC ?_) | (apply gD; refine sD ?_) | fail)
        refine O_d (dy_call ArgsI.pf (by first | exact rfl | trivial | (intro a b; rfl)) (same_ct (la := p) (lb := l) (.tail _ (.tail _ (.head _))) (.head _) (by omega) hpl hpb)) ?_; rintro _ _ ⟨_, ⟨rfl, hLL⟩, rfl⟩; replace hLL := hLL.symm; subst hLL; refine O_n ?_
        repeat' (first | refine go ?_ | intro _ | (apply cG; first | refine cT ?_ | refine cF ?_ | refine cS (fun _ => ?_) fun _ => ?_) | (apply gW; refine sW ?_) | (apply gI; refine sI ?_) | (apply gE; refine sE ?_) | (apply gP; refine sP ?_) | (apply gC; refine sC ?_) | (apply gD; refine sD ?_) | fail)
        refine C_loopS (κ := Nat × Option Addr × Nat × Option Addr × Nat) [false, false, false, false, false, false, false, false, false, false, true, true, false, false, false, false, false, false, true, false, false, false, false, false, false, false, false, false, false, false, false, false, false, false, false, false, false, false, false, false, false, false, false, false, false, false, false, false, false, false, false, false, false, false, false, false, false, false, false, false, false, false, false, false, false, false, false, false, false, false, false, false, false, false, false, false, false, false, false, false, false, false, false, false, false, false, false, false, false, false, false, false, false, false, false, false, false, false, false, false, false, false, false, false, false, false, false, false, false, false, false, false, false, false, false, false, false, false, false, false, false, false, false, false, false, false, false, false, false, false, false, false, false, false, false, false, false, false, false, false, false, false, false, false, false, false, false, false, false, false, false, false, false, false, false, false, false, false, false, false, false, false, false, false, false, false, false, false, false, false, true, true, true, true, true, true, true, true, true, true, true, true, true, true, true, true, true, true, false, false, false, false, false, false, false, false, false, false, false, false, false, false, false, false, false, false, false, false, false, false, false, false, false, false, false] (fun k => [(10, .slice k.2.1 (link ++ l.take k.1).length k.2.2.1), (11, .slice k.2.2.2.1 (to ++ List.replicate k.1 0).length k.2.2.2.2), (18, .int .i64 (k.1 : Int))]) (fun k => [(4, own 40 ePK (.slice k.2.1 (link ++ l.take k.1).length k.2.2.1) (link ++ l.take k.1)), (5, own 3 eI (.slice k.2.2.2.1 (to ++ List.replicate k.1 0).length k.2.2.2.2) (to ++ List.replicate k.1 0))]) (fun k => k.1 ≤ l.length) (fun k => l.length - k.1) (0, la, lc, ta, tc) (Nat.zero_le _) (by simp only [List.take_zero, List.append_nil, List.replicate_zero]; exact ⟨rfl, rfl, rfl, trivial⟩) ?_ (by simp only [List.take_zero, List.append_nil, List.replicate_zero]; exact Sb)
        rintro ⟨j, LA, LC, TA, TC⟩ u3 hj
        dsimp only at hj
        dsimp only
        have hj1 : (link ++ l.take j).length = link.length + j := by rw [List.length_append, List.length_take]; omega
        have hj2 : (to ++ List.replicate j (0 : Int)).length = to.length + j := by rw [List.length_append, List.length_replicate]
        rw [hj1, hj2]
        ((try dsimp only); refine C_n ?_; (try simp only [Nat.reduceAdd, Nat.zero_add]))
        by_cases hjl : j < l.length
        · obtain ⟨y, hy⟩ : ∃ y, l[j]? = some y := ⟨_, List.getElem?_eq_getElem hjl⟩
          have hay : At l j y := ⟨hy⟩
          have ht1 : l.take (j + 1) = l.take j ++ [y] := by rw [List.take_add_one, hy]; rfl
          repeat' (first | refine go ?_ | intro _ | (apply cG; first | refine cT ?_ | refine cF ?_ | refine cS (fun _ => ?_) fun _ => ?_) | (apply gW; refine sW ?_) | (apply gI; refine sI ?_) | (apply gE; refine sE ?_) | (apply gP; refine sP ?_) | (apply gC; refine sC ?_) | (apply gD; refine sD ?_) | fail)
          refine O_sub (sub_peekP' (l := l) (j := j) (x := y) (by repeat (first | exact .head _ | refine .tail _ ?_)) hy) ?_
          refine O_d (dy_lit1 (R := ePK) y (hcs := by rfl) (hel := fun m h hs => ⟨rfl, rd_mem hs (by repeat (first | exact .head _ | refine .tail _ ?_))⟩)) ?_; rintro _ _ ⟨_, rfl, rfl⟩; refine O_n ?_
          refine O_d (dy_append (i := 6) (l := link ++ l.take j) (l2 := [y]) (N := link.length + j + 1) (hm := rfl) (hN := by rw [hj1]; rfl)) ?_; rintro _ _ ⟨A8, c8, rfl, rfl⟩; refine O_n ?_
          repeat' (first | refine go ?_ | intro _ | (apply cG; first | refine cT ?_ | refine cF ?_ | refine cS (fun _ => ?_) fun _ => ?_) | (apply gW; refine sW ?_) | (apply gI; refine sI ?_) | (apply gE; refine sE ?_) | (apply gP; refine sP ?_) | (apply gC; refine sC ?_) | (apply gD; refine sD ?_) | fail)
          refine O_d (dy_lit1 (R := eI) (0 : Int) (hcs := by rfl) (hel := fun _ _ _ => by rfl)) ?_; rintro _ _ ⟨_, rfl, rfl⟩; refine O_n ?_
          refine O_d (dy_append (i := 8) (l := to ++ List.replicate j (0 : Int)) (l2 := [0]) (N := to.length + j + 1) (hm := rfl) (hN := by rw [hj2]; rfl)) ?_; rintro _ _ ⟨A9, c9, rfl, rfl⟩; refine O_n ?_
          repeat' (first | refine go ?_ | intro _ | (apply cG; first | refine cT ?_ | refine cF ?_ | refine cS (fun _ => ?_) fun _ => ?_) | (apply gW; refine sW ?_) | (apply gI; refine sI ?_) | (apply gE; refine sE ?_) | (apply gP; refine sP ?_) | (apply gC; refine sC ?_) | (apply gD; refine sD ?_) | fail)
          have hk1 : (link ++ l.take (j + 1)).length = link.length + j + 1 := by rw [List.length_append, List.length_take]; omega
          have hk2' : (to ++ List.replicate (j + 1) (0 : Int)).length = to.length + j + 1 := by rw [List.length_append, List.length_replicate]; omega
          have hk3 : link ++ l.take j ++ [y] = link ++ l.take (j + 1) := by rw [ht1, List.append_assoc]
          have hk4 : to ++ List.replicate j (0 : Int) ++ [0] = to ++ List.replicate (j + 1) (0 : Int) := by rw [List.replicate_succ', List.append_assoc]
          rw [hk3, hk4]
          refine E_round (j + 1, A8, c8, A9, c9) (by dsimp only; omega) (by show l.length - (j + 1) < l.length - j; omega) ?_ ?_
          · dsimp only
            rw [hk1, hk2']
            exact ⟨rfl, rfl, rfl, trivial⟩
          · dsimp only
            rw [hk1, hk2']
            exact Sb
        obtain rfl : j = l.length := by omega
        have hk1 : link.length + l.length = (link ++ l).length := by rw [List.length_append]
        have hk2' : to.length + l.length = (to ++ List.replicate l.length (0 : Int)).length := by rw [List.length_append, List.length_replicate]
        rw [List.take_length, hk1, hk2']
        repeat' (first | refine go ?_ | intro _ | (apply cG; first | refine cT ?_ | refine cF ?_ | refine cS (fun _ => ?_) fun _ => ?_) | (apply gW; refine sW ?_) | (apply gI; refine sI ?_) | (apply gE; refine sE ?_) | (apply gP; refine sP ?_) | (apply gC; refine sC ?_) | (apply gD; refine sD ?_) | fail)
        exact E_join ⟨i + 1, e0, { e1 with ow := false }, f0, { f1 with ow := false }, link ++ l, LA, LC, to ++ List.replicate l.length 0, TA, TC⟩ ⟨rfl, hI.out1 (by omega) hll hlb⟩ ⟨rfl, rfl, trivial⟩ Sb
    have hlk := hI.ll
    have htl := hI.tl
    dsimp only at hlk htl
    by_cases hz : link.length = 0
    · repeat' (first | refine go ?_ | intro _ | (apply cG; first | refine cT ?_ | refine cF ?_ | refine cS (fun _ => ?_) fun _ => ?_) | (apply gW; refine sW ?_) | (apply gI; refine sI ?_) | (apply gE; refine sE ?_) | (apply gP; refine sP ?_) | (apply gC; refine sC ?_) | (apply gD; refine sD ?_) | fail)
      exact E_round ⟨i + 1, e0, e1, f0, f1, link, la, lc, to, ta, tc⟩ (hI.step (by omega)) (by show m - (i + 1) < m - i; omega) ⟨rfl, rfl, rfl, trivial⟩ Sb
    obtain ⟨mn, hmn⟩ : ∃ mn, min link.length 20 = mn := ⟨_, rfl⟩
    have hmin : (if (20 : Int) < (link.length : Int) then (20 : Int) else (link.length : Int)) = (mn : Int) := by split <;> omega
    obtain ⟨r0, hr0, hr0l⟩ : ∃ r0 : Nat, (n : Int) / 2 % (mn : Int) = (r0 : Int) ∧ r0 < mn := by
      have h1 := Int.emod_nonneg ((n : Int) / 2) (b := (mn : Int)) (by omega)
      have h2 := Int.emod_lt_of_pos ((n : Int) / 2) (b := (mn : Int)) (by omega)
      exact ⟨((n : Int) / 2 % (mn : Int)).toNat, by omega, by omega⟩
    obtain ⟨jj, hjj⟩ : ∃ jj : Nat, (link.length : Int) - 1 - (r0 : Int) = (jj : Int) := ⟨((link.length : Int) - 1 - (r0 : Int)).toNat, by omega⟩
    have hjl : jj < link.length := by omega
    obtain ⟨y, hy⟩ : ∃ y, link[jj]? = some y := ⟨_, List.getElem?_eq_getElem hjl⟩
    obtain ⟨tt, ht⟩ : ∃ tt, to[jj]? = some tt := ⟨_, List.getElem?_eq_getElem (by omega)⟩
    have hyl := hI.lb y (List.mem_of_getElem? hy)
    refine C_sub (sub_peekP (l := link) (j := jj) (x := y) (by repeat (first | exact .head _ | refine .tail _ ?_)) hy) ?_
    refine C_fact (fun w s => (Src.sl (.inl (.head _)) s : Sl _ eB y.v y.b).form) ?_
    rintro ⟨yA, yc, hfy, hyc⟩
    obtain ⟨ys, ya, yv, yb⟩ := y
    dsimp only at hfy hyl
    subst hfy
    dsimp only
    have hay : At link jj ⟨ys, ya, .slice yA yb.length yc, yb⟩ := ⟨hy⟩
    have hat : At to jj tt := ⟨ht⟩
    repeat' (first | refine go ?_ | intro _ | (apply cG; first | refine cT ?_ | refine cF ?_ | refine cS (fun _ => ?_) fun _ => ?_) | (apply gI; refine sI ?_) | (apply gE; refine sE ?_) | (apply gP; refine sP ?_) | (apply gC; refine sC ?_) | (apply gD; refine sD ?_) | fail)
    apply gW; refine sW ?_
    repeat' (first | refine go ?_ | intro _ | (apply cG; first | refine cT ?_ | refine cF ?_ | refine cS (fun _ => ?_) fun _ => ?_) | (apply gI; refine sI ?_) | (apply gE; refine sE ?_) | (apply gP; refine sP ?_) | (apply gC; refine sC ?_) | (apply gD; refine sD ?_) | fail)
    apply gW; refine sW ?_
    repeat' (first | refine go ?_ | intro _ | (apply cG; first | refine cT ?_ | refine cF ?_ | refine cS (fun _ => ?_) fun _ => ?_) | (apply gI; refine sI ?_) | (apply gE; refine sE ?_) | (apply gP; refine sP ?_) | (apply gC; refine sC ?_) | (apply gD; refine sD ?_) | fail)
    apply gW; refine sW (r := (mn : Int)) ?_ hmin
    repeat' (first | refine go ?_ | intro _ | (apply cG; first | refine cT ?_ | refine cF ?_ | refine cS (fun _ => ?_) fun _ => ?_) | (apply gI; refine sI ?_) | (apply gE; refine sE ?_) | (apply gP; refine sP ?_) | (apply gC; refine sC ?_) | (apply gD; refine sD ?_) | fail)
    apply gW; refine sW (r := (r0 : Int)) ?_ ⟨by omega, by rw [wm_nn (by omega)]; exact hr0⟩
    repeat' (first | refine go ?_ | intro _ | (apply cG; first | refine cT ?_ | refine cF ?_ | refine cS (fun _ => ?_) fun _ => ?_) | (apply gI; refine sI ?_) | (apply gE; refine sE ?_) | (apply gP; refine sP ?_) | (apply gC; refine sC ?_) | (apply gD; refine sD ?_) | fail)
    apply gW; refine sW (r := (jj : Int)) ?_ (by rw [wr_i64 (by omega) (by omega)]; exact hjj)
    repeat' (first | ((fail_if_success apply AtE); refine go ?_) | intro _ | (apply cG; first | refine cT ?_ | refine cF ?_ | refine cS (fun _ => ?_) fun _ => ?_) | (apply gW; refine sW ?_) | (apply gI; refine sI ?_) | (apply gE; refine sE ?_) | (apply gP; refine sP ?_) | (apply gC; refine sC ?_) | (apply gD; refine sD ?_) | fail)
    refine go ?_
    repeat' (first | ((fail_if_success apply AtE); refine go ?_) | intro _ | (apply cG; first | refine cT ?_ | refine cF ?_ | refine cS (fun _ => ?_) fun _ => ?_) | (apply gW; refine sW ?_) | (apply gI; refine sI ?_) | (apply gE; refine sE ?_) | (apply gP; refine sP ?_) | (apply gC; refine sC ?_) | (apply gD; refine sD ?_) | fail)
    rename_i bt
    refine go ?_; refine go ?_; refine C_join (κ := Int) [false, false, false, false, false, false, false, false, false, false, false, false, false, false, false, false, false, false, false, false, false, false, false, false, false, false, false, false, false, false, false, false, false, false, false, false, false, false, false, false, false, false, false, false, false, false, false, false, false, false, false, false, false, false, false, false, false, false, false, false, false, false, false, false, false, false, false, false, false, false, false, false, false, false, false, false, false, false, false, false, false, false, false, false, false, false, false, false, false, true, true, true, true, true, true, true, false, false, false, false, false, false, false, false, false, false, false, false, false, false, false, false, false, false, false, false, false, false, false, false, false, false, false, false, false, false, false, false, false, false, false, false, false, false, false, false, false, false, false, false, false, false, false, false, false, false, false, false, false, false, false, false, false, false, false, false, false, false, false, false, false, false, false, false, false, false, false, false, false, false, false, false, false, false, false, false, false, false, false, false, false, false, false, false, false, false, false, false, false, false, false, false, false, false, false, false, false, false, false, false, false, false, false, false, false, false, false, false, false, false, false, false, false, false, false] (fun k => []) (fun k => [(0, cel bt [.int .i64 k, .int .i64 ya, .slice yA yb.length yc] 40)]) (fun k => True) ?_ ?_
    · by_cases h41 : (n : Int) % 41 = 0
      · repeat' (first | refine go ?_ | intro _ | (apply cG; first | refine cT ?_ | refine cF ?_ | refine cS (fun _ => ?_) fun _ => ?_) | (apply gW; refine sW ?_) | (apply gI; refine sI ?_) | (apply gE; refine sE ?_) | (apply gP; refine sP ?_) | (apply gC; refine sC ?_) | (apply gD; refine sD ?_) | fail)
        exact E_join ((n : Int) / 41 % 40) trivial trivial Sb
      · repeat' (first | refine go ?_ | intro _ | (apply cG; first | refine cT ?_ | refine cF ?_ | refine cS (fun _ => ?_) fun _ => ?_) | (apply gW; refine sW ?_) | (apply gI; refine sI ?_) | (apply gE; refine sE ?_) | (apply gP; refine sP ?_) | (apply gC; refine sC ?_) | (apply gD; refine sD ?_) | fail)
        exact E_join ys trivial trivial Sb
    rintro s3 u4 _
    ((try dsimp only); refine C_n ?_; (try simp only [Nat.reduceAdd, Nat.zero_add]))
    refine go ?_; refine C_join (κ := Int) [false, false, false, false, false, false, false, false, false, false, false, false, false, false, false, false, false, false, false, false, false, false, false, false, false, false, false, false, false, false, false, false, false, false, false, false, false, false, false, false, false, false, false, false, false, false, false, false, false, false, false, false, false, false, false, false, false, false, false, false, false, false, false, false, false, false, false, false, false, false, false, false, false, false, false, false, false, false, false, false, false, false, false, false, false, false, false, false, false, false, false, false, false, false, false, false, true, true, true, true, true, true, true, true, false, false, false, false, false, false, false, false, false, false, false, false, false, false, false, false, false, false, false, false, false, false, false, false, false, false, false, false, false, false, false, false, false, false, false, false, false, false, false, false, false, false, false, false, false, false, false, false, false, false, false, false, false, false, false, false, false, false, false, false, false, false, false, false, false, false, false, false, false, false, false, false, false, false, false, false, false, false, false, false, false, false, false, false, false, false, false, false, false, false, false, false, false, false, false, false, false, false, false, false, false, false, false, false, false, false, false, false, false, false, false] (fun k => []) (fun k => [(0, cel bt [.int .i64 s3, .int .i64 k, .slice yA yb.length yc] 40)]) (fun k => True) ?_ ?_
    · by_cases h43 : (n : Int) % 43 = 0
      · repeat' (first | refine go ?_ | intro _ | (apply cG; first | refine cT ?_ | refine cF ?_ | refine cS (fun _ => ?_) fun _ => ?_) | (apply gW; refine sW ?_) | (apply gI; refine sI ?_) | (apply gE; refine sE ?_) | (apply gP; refine sP ?_) | (apply gC; refine sC ?_) | (apply gD; refine sD ?_) | fail)
        exact E_join ((n : Int) / 43 % 9 - 1) trivial trivial Sb
      · repeat' (first | refine go ?_ | intro _ | (apply cG; first | refine cT ?_ | refine cF ?_ | refine cS (fun _ => ?_) fun _ => ?_) | (apply gW; refine sW ?_) | (apply gI; refine sI ?_) | (apply gE; refine sE ?_) | (apply gP; refine sP ?_) | (apply gC; refine sC ?_) | (apply gD; refine sD ?_) | fail)
        exact E_join ya trivial trivial Sb
    rintro a3 u5 _
    ((try dsimp only); refine C_n ?_; (try simp only [Nat.reduceAdd, Nat.zero_add]))
    refine go ?_
    refine C_joinL (κ := Option Addr × Nat × List UInt8) (fun k => rd eB (.slice k.1 k.2.2.length k.2.1) k.2.2 :: cel bt [.int .i64 s3, .int .i64 a3, .slice k.1 k.2.2.length k.2.1] 40 :: own 40 ePK (.slice la link.length lc) link :: own 3 eI (.slice ta to.length tc) to :: ende pa e0 :: ende pb e1 :: fende qa f0 :: fende qb f1 :: rd ePt (.slice (some ⟨eg, 0, none⟩) 2 2) [pa, pb] :: rd ePt (.slice Am 2 cm) [qa, qb] :: rd eI (.slice Av li.length cv) li :: L) [false, false, false, false, false, false, false, false, false, false, false, false, false, false, false, false, false, false, false, false, false, false, false, false, false, false, false, false, false, false, false, false, false, false, false, false, false, false, false, false, false, false, false, false, false, false, false, false, false, false, false, false, false, false, false, false, false, false, false, false, false, false, false, false, false, false, false, false, false, false, false, false, false, false, false, false, false, false, false, false, false, false, false, false, false, false, false, false, false, false, false, false, false, false, false, false, false, false, false, false, false, false, false, false, true, true, true, true, true, true, true, false, false, false, false, false, false, false, false, false, false, false, false, false, false, false, false, false, false, false, false, false, false, false, false, false, false, false, false, false, false, false, false, false, false, false, false, false, false, false, false, false, false, false, false, false, false, false, false, false, false, false, false, false, false, false, false, false, false, false, false, false, false, false, false, false, false, false, false, false, false, false, false, false, false, false, false, false, false, false, false, false, false, false, false, false, false, false, false, false, false, false, false, false, false, false, false, false, false, false, false, false, false, false, false] (fun _ => []) (fun k => k.2.2.length ≤ 2) ?_ ?_
    · by_cases h47 : (n : Int) % 47 = 0
      · repeat' (first | refine go ?_ | intro _ | (apply cG; first | refine cT ?_ | refine cF ?_ | refine cS (fun _ => ?_) fun _ => ?_) | (apply gW; refine sW ?_) | (apply gI; refine sI ?_) | (apply gE; refine sE ?_) | (apply gP; refine sP ?_) | (apply gC; refine sC ?_) | (apply gD; refine sD ?_) | fail)
        refine O_d (dy_lit0 eB rfl) ?_; rintro _ _ ⟨_, rfl, rfl⟩; refine O_n ?_
        repeat' (first | refine go ?_ | intro _ | (apply cG; first | refine cT ?_ | refine cF ?_ | refine cS (fun _ => ?_) fun _ => ?_) | (apply gW; refine sW ?_) | (apply gI; refine sI ?_) | (apply gE; refine sE ?_) | (apply gP; refine sP ?_) | (apply gC; refine sC ?_) | (apply gD; refine sD ?_) | fail)
        refine O_d (dy_lit1 (R := eB) (5 : UInt8) (hcs := by rfl) (hel := fun _ _ _ => by rfl)) ?_; rintro _ _ ⟨_, rfl, rfl⟩; refine O_n ?_
        repeat' (first | refine go ?_ | intro _ | (apply cG; first | refine cT ?_ | refine cF ?_ | refine cS (fun _ => ?_) fun _ => ?_) | (apply gW; refine sW ?_) | (apply gI; refine sI ?_) | (apply gE; refine sE ?_) | (apply gP; refine sP ?_) | (apply gC; refine sC ?_) | (apply gD; refine sD ?_) | fail)
        rename_i A9 c9
        refine E_frz 1 ?_
        exact E_join (A9, c9, [5]) (by show 1 ≤ 2; decide) trivial Sb
      · repeat' (first | refine go ?_ | intro _ | (apply cG; first | refine cT ?_ | refine cF ?_ | refine cS (fun _ => ?_) fun _ => ?_) | (apply gW; refine sW ?_) | (apply gI; refine sI ?_) | (apply gE; refine sE ?_) | (apply gP; refine sP ?_) | (apply gC; refine sC ?_) | (apply gD; refine sD ?_) | fail)
        exact E_join (yA, yc, yb) hyl trivial Sb
    rintro ⟨yA, yc, yB⟩ u6 hyB
    dsimp only at hyB
    dsimp only
    ((try dsimp only); refine C_n ?_; (try simp only [Nat.reduceAdd, Nat.zero_add]))
    rcases hI.tt tt (List.mem_of_getElem? ht) with rfl | rfl
    · repeat' (first | refine go ?_ | intro _ | (apply cG; first | refine cT ?_ | refine cF ?_ | refine cS (fun _ => ?_) fun _ => ?_) | (apply gW; refine sW ?_) | (apply gI; refine sI ?_) | (apply gE; refine sE ?_) | (apply gP; refine sP ?_) | (apply gC; refine sC ?_) | (apply gD; refine sD ?_) | fail)
      refine C_draw (n := 99) [rd eB (.slice yA yB.length yc) yB, cel bt [.int .i64 s3, .int .i64 a3, .slice yA yB.length yc] 40, own 3 eI (.slice ta to.length tc) to, rd ePt (.slice (some ⟨eg, 0, none⟩) 2 2) [pa, pb], rd ePt (.slice Am 2 cm) [qa, qb]] [(0, 1), (1, 1), (2, 1), (3, 1), (4, 1), (5, 1), (6, 1), (7, 1), (10, 1), (11, 1), (12, 1), (13, 1), (14, 1), (15, 1), (16, 1), (17, 1), (8, 0), (9, 0), (18, 0), (19, 0), (20, 1)] (by kernel_rfl) (by kernel_rfl) Sb ?_
      repeat' (first | refine go ?_ | intro _ | (apply cG; first | refine cT ?_ | refine cF ?_ | refine cS (fun _ => ?_) fun _ => ?_) | (apply gW; refine sW ?_) | (apply gI; refine sI ?_) | (apply gE; refine sE ?_) | (apply gP; refine sP ?_) | (apply gC; refine sC ?_) | (apply gD; refine sD ?_) | fail)
      refine D_op rfl ?_; refine X_d (dy_call ArgsI.pf (by first | exact rfl | trivial | (intro a b; rfl)) (of_ct)) ?_; rintro _ _ ⟨_, ⟨rfl, hLL⟩, rfl⟩; replace hLL := hLL.symm; subst hLL; refine ⟨(by first | exact .inl rfl | exact .inr Sb), D_n ?_⟩
      repeat' (first | refine go ?_ | intro _ | (apply cG; first | refine cT ?_ | refine cF ?_ | refine cS (fun _ => ?_) fun _ => ?_) | (apply gW; refine sW ?_) | (apply gI; refine sI ?_) | (apply gE; refine sE ?_) | (apply gP; refine sP ?_) | (apply gC; refine sC ?_) | (apply gD; refine sD ?_) | fail)
      refine D_op rfl ?_; refine X_d (dy_call ArgsI.pf (by first | exact rfl | trivial | (intro a b; rfl)) (CT.pull (i := 4) (by rfl) (In_ct (e := e0) (b := yB) (s := s3) (a := a3) Sc.pf (hI.good0 (by omega)) (by omega)))) ?_; rintro _ _ ⟨_, ⟨A2, c2', z, hz', rfl, rfl⟩, rfl⟩; refine ⟨(by first | exact .inl rfl | exact .inr Sb), D_n ?_⟩
      obtain ⟨hI2, hI3, hI4, hI5⟩ := hI.in0 (s := s3) (a := a3) (x := z) (y := ⟨.slice yA yB.length yc, yB⟩) (by omega) hz' (by rw [hz']; exact hyB)
      obtain ⟨E, out, hEo⟩ : ∃ E out, inP e0 s3 a3 z = (E, out) := ⟨_, _, rfl⟩
      obtain ⟨G, out2, hGo⟩ : ∃ G out2, fInP f0 s3 a3 ⟨.slice yA yB.length yc, yB⟩ = (G, out2) := ⟨_, _, rfl⟩
      rw [hEo, hGo] at hI2 hI3
      rw [hEo] at hI4 hI5
      rw [hEo]
      dsimp only at hI2 hI3 hI4 hI5 ⊢
      subst hI3
      refine D_frS 0 rfl SAt.pf ?_
      repeat' (first | refine go ?_ | intro _ | (apply cG; first | refine cT ?_ | refine cF ?_ | refine cS (fun _ => ?_) fun _ => ?_) | (apply gW; refine sW ?_) | (apply gI; refine sI ?_) | (apply gE; refine sE ?_) | (apply gP; refine sP ?_) | (apply gC; refine sC ?_) | (apply gD; refine sD ?_) | fail)
      have hk := hI.r0
      have hk0 := hI.n0
      have hk1 := hI.c0
      have hk2 := hk.a0
      have hk3 := hk.a1
      have hk4 := hk.g0
      have hk5 := hk.got
      have hk6 := kb_len hk.held
      dsimp only at hk hk0 hk1 hk2 hk3 hk4 hk5 hk6
      refine D_op rfl ?_; refine X_d (dy_call ArgsI.pf (by first | exact rfl | trivial | (intro a b; rfl)) (CT.pull (i := 7) (by rfl) (fIn_ct (e := f0) (b := yB) (s := s3) (a := a3) (.tail _ (.tail _ (.head _))) hk2 (by omega) hk4 (by omega) (by omega) (by omega) (by omega)))) ?_; rintro _ _ ⟨_, ⟨A3, c3', rfl, rfl⟩, rfl⟩; refine ⟨(by first | exact .inl rfl | exact .inr Sb), D_n ?_⟩
      rw [hGo]
      dsimp only
      refine D_frS 0 rfl SAt.pf ?_
      repeat' (first | refine go ?_ | intro _ | (apply cG; first | refine cT ?_ | refine cF ?_ | refine cS (fun _ => ?_) fun _ => ?_) | (apply gW; refine sW ?_) | (apply gI; refine sI ?_) | (apply gE; refine sE ?_) | (apply gP; refine sP ?_) | (apply gC; refine sC ?_) | (apply gD; refine sD ?_) | fail)
      refine D_op rfl ?_; refine X_d (dy_call ArgsI.pf (by first | exact rfl | trivial | (intro a b; rfl)) (fSameLists_ct (la := out) (lb := out) (by repeat (first | exact .head _ | refine .tail _ ?_)) (by repeat (first | exact .head _ | refine .tail _ ?_)) (by omega) (by omega) (fun x hx => by have := hI5 x hx; omega) (fun x hx => by have := hI5 x hx; omega) (decide_eq_true rfl))) ?_; rintro _ _ ⟨_, ⟨rfl, hLL⟩, rfl⟩; replace hLL := hLL.symm; subst hLL; refine ⟨(by first | exact .inl rfl | exact .inr Sb), D_n ?_⟩
      repeat' (first | refine go ?_ | intro _ | (apply cG; first | refine cT ?_ | refine cF ?_ | refine cS (fun _ => ?_) fun _ => ?_) | (apply gW; refine sW ?_) | (apply gI; refine sI ?_) | (apply gE; refine sE ?_) | (apply gP; refine sP ?_) | (apply gC; refine sC ?_) | (apply gD; refine sD ?_) | fail)
      exact E_join ⟨i + 1, E, e1, G, f1, link, la, lc, to, ta, tc⟩ ⟨rfl, hI2⟩ ⟨rfl, rfl, trivial⟩ Sb
    · repeat' (first | refine go ?_ | intro _ | (apply cG; first | refine cT ?_ | refine cF ?_ | refine cS (fun _ => ?_) fun _ => ?_) | (apply gW; refine sW ?_) | (apply gI; refine sI ?_) | (apply gE; refine sE ?_) | (apply gP; refine sP ?_) | (apply gC; refine sC ?_) | (apply gD; refine sD ?_) | fail)
      refine C_draw (n := 99) [rd eB (.slice yA yB.length yc) yB, cel bt [.int .i64 s3, .int .i64 a3, .slice yA yB.length yc] 40, own 3 eI (.slice ta to.length tc) to, rd ePt (.slice (some ⟨eg, 0, none⟩) 2 2) [pa, pb], rd ePt (.slice Am 2 cm) [qa, qb]] [(0, 1), (1, 1), (2, 1), (3, 1), (4, 1), (5, 1), (6, 1), (7, 1), (10, 1), (11, 1), (12, 1), (13, 1), (14, 1), (15, 1), (16, 1), (17, 1), (8, 0), (9, 0), (18, 0), (19, 0), (20, 1)] (by kernel_rfl) (by kernel_rfl) Sb ?_
      repeat' (first | refine go ?_ | intro _ | (apply cG; first | refine cT ?_ | refine cF ?_ | refine cS (fun _ => ?_) fun _ => ?_) | (apply gW; refine sW ?_) | (apply gI; refine sI ?_) | (apply gE; refine sE ?_) | (apply gP; refine sP ?_) | (apply gC; refine sC ?_) | (apply gD; refine sD ?_) | fail)
      refine D_op rfl ?_; refine X_d (dy_call ArgsI.pf (by first | exact rfl | trivial | (intro a b; rfl)) (of_ct)) ?_; rintro _ _ ⟨_, ⟨rfl, hLL⟩, rfl⟩; replace hLL := hLL.symm; subst hLL; refine ⟨(by first | exact .inl rfl | exact .inr Sb), D_n ?_⟩
      repeat' (first | refine go ?_ | intro _ | (apply cG; first | refine cT ?_ | refine cF ?_ | refine cS (fun _ => ?_) fun _ => ?_) | (apply gW; refine sW ?_) | (apply gI; refine sI ?_) | (apply gE; refine sE ?_) | (apply gP; refine sP ?_) | (apply gC; refine sC ?_) | (apply gD; refine sD ?_) | fail)
      refine D_op rfl ?_; refine X_d (dy_call ArgsI.pf (by first | exact rfl | trivial | (intro a b; rfl)) (CT.pull (i := 5) (by rfl) (In_ct (e := e1) (b := yB) (s := s3) (a := a3) Sc.pf (hI.good1 (by omega)) (by omega)))) ?_; rintro _ _ ⟨_, ⟨A2, c2', z, hz', rfl, rfl⟩, rfl⟩; refine ⟨(by first | exact .inl rfl | exact .inr Sb), D_n ?_⟩
      obtain ⟨hI2, hI3, hI4, hI5⟩ := hI.in1 (s := s3) (a := a3) (x := z) (y := ⟨.slice yA yB.length yc, yB⟩) (by omega) hz' (by rw [hz']; exact hyB)
      obtain ⟨E, out, hEo⟩ : ∃ E out, inP e1 s3 a3 z = (E, out) := ⟨_, _, rfl⟩
      obtain ⟨G, out2, hGo⟩ : ∃ G out2, fInP f1 s3 a3 ⟨.slice yA yB.length yc, yB⟩ = (G, out2) := ⟨_, _, rfl⟩
      rw [hEo, hGo] at hI2 hI3
      rw [hEo] at hI4 hI5
      rw [hEo]
      dsimp only at hI2 hI3 hI4 hI5 ⊢
      subst hI3
      refine D_frS 0 rfl SAt.pf ?_
      repeat' (first | refine go ?_ | intro _ | (apply cG; first | refine cT ?_ | refine cF ?_ | refine cS (fun _ => ?_) fun _ => ?_) | (apply gW; refine sW ?_) | (apply gI; refine sI ?_) | (apply gE; refine sE ?_) | (apply gP; refine sP ?_) | (apply gC; refine sC ?_) | (apply gD; refine sD ?_) | fail)
      have hk := hI.r1
      have hk0 := hI.n1
      have hk1 := hI.c1
      have hk2 := hk.a0
      have hk3 := hk.a1
      have hk4 := hk.g0
      have hk5 := hk.got
      have hk6 := kb_len hk.held
      dsimp only at hk hk0 hk1 hk2 hk3 hk4 hk5 hk6
      refine D_op rfl ?_; refine X_d (dy_call ArgsI.pf (by first | exact rfl | trivial | (intro a b; rfl)) (CT.pull (i := 8) (by rfl) (fIn_ct (e := f1) (b := yB) (s := s3) (a := a3) (.tail _ (.tail _ (.head _))) hk2 (by omega) hk4 (by omega) (by omega) (by omega) (by omega)))) ?_; rintro _ _ ⟨_, ⟨A3, c3', rfl, rfl⟩, rfl⟩; refine ⟨(by first | exact .inl rfl | exact .inr Sb), D_n ?_⟩
      rw [hGo]
      dsimp only
      refine D_frS 0 rfl SAt.pf ?_
      repeat' (first | refine go ?_ | intro _ | (apply cG; first | refine cT ?_ | refine cF ?_ | refine cS (fun _ => ?_) fun _ => ?_) | (apply gW; refine sW ?_) | (apply gI; refine sI ?_) | (apply gE; refine sE ?_) | (apply gP; refine sP ?_) | (apply gC; refine sC ?_) | (apply gD; refine sD ?_) | fail)
      refine D_op rfl ?_; refine X_d (dy_call ArgsI.pf (by first | exact rfl | trivial | (intro a b; rfl)) (fSameLists_ct (la := out) (lb := out) (by repeat (first | exact .head _ | refine .tail _ ?_)) (by repeat (first | exact .head _ | refine .tail _ ?_)) (by omega) (by omega) (fun x hx => by have := hI5 x hx; omega) (fun x hx => by have := hI5 x hx; omega) (decide_eq_true rfl))) ?_; rintro _ _ ⟨_, ⟨rfl, hLL⟩, rfl⟩; replace hLL := hLL.symm; subst hLL; refine ⟨(by first | exact .inl rfl | exact .inr Sb), D_n ?_⟩
      repeat' (first | refine go ?_ | intro _ | (apply cG; first | refine cT ?_ | refine cF ?_ | refine cS (fun _ => ?_) fun _ => ?_) | (apply gW; refine sW ?_) | (apply gI; refine sI ?_) | (apply gE; refine sE ?_) | (apply gP; refine sP ?_) | (apply gC; refine sC ?_) | (apply gD; refine sD ?_) | fail)
      exact E_join ⟨i + 1, e0, E, f0, G, link, la, lc, to, ta, tc⟩ ⟨rfl, hI2⟩ ⟨rfl, rfl, trivial⟩ Sb
  rintro ⟨i2, e0, e1, f0, f1, link, la, lc, to, ta, tc⟩ u7 ⟨hi2, hI2⟩
  dsimp only at hi2
  subst hi2
  dsimp only
  ((try dsimp only); refine C_n ?_; (try simp only [Nat.reduceAdd, Nat.zero_add]))
  repeat' (first | refine go ?_ | intro _ | (apply cG; first | refine cT ?_ | refine cF ?_ | refine cS (fun _ => ?_) fun _ => ?_) | (apply gW; refine sW ?_) | (apply gI; refine sI ?_) | (apply gE; refine sE ?_) | (apply gP; refine sP ?_) | (apply gC; refine sC ?_) | (apply gD; refine sD ?_) | fail)
  refine C_loopS (κ := Nat) [false, false, false, false, true, false, false, false, false, false, false, false, false, false, false, false, false, false, false, false, false, true, false, false, false, false, false, false, false, false, false, false, false, false, false, false, false, false, false, false, false, false, false, false, false, false, false, false, false, false, false, false, false, false, false, false, false, false, false, false, false, false, false, false, false, false, false, false, false, false, false, false, false, false, false, false, false, false, false, false, false, false, false, false, false, false, false, false, false, false, false, false, false, false, false, false, false, false, false, false, false, false, false, false, false, false, false, false, false, false, false, false, false, false, false, false, false, false, false, false, false, false, false, false, false, false, false, false, false, false, false, false, false, false, false, false, false, false, false, false, false, false, false, false, false, false, false, false, false, false, false, false, false, false, false, false, false, false, false, false, false, false, false, false, false, false, false, false, false, false, false, false, false, false, false, false, false, false, false, false, false, false, false, false, false, false, false, false, true, true, true, true, true, true, true, true, true, true, true, true, true, true, true, true, true, true, true, true, true, true, true, true, true, true, false] (fun k => [(21, .int .i64 (k : Int))]) (fun k => []) (fun k => k ≤ 2) (fun k => 2 - k) 0 (Nat.zero_le _) ⟨rfl, trivial⟩ ?_
  rintro j u8 hj
  ((try dsimp only); refine C_n ?_; (try simp only [Nat.reduceAdd, Nat.zero_add]))
  obtain rfl | rfl | rfl : j = 0 ∨ j = 1 ∨ j = 2 := by omega
  · repeat' (first | refine go ?_ | intro _ | (apply cG; first | refine cT ?_ | refine cF ?_ | refine cS (fun _ => ?_) fun _ => ?_) | (apply gW; refine sW ?_) | (apply gI; refine sI ?_) | (apply gE; refine sE ?_) | (apply gP; refine sP ?_) | (apply gC; refine sC ?_) | (apply gD; refine sD ?_) | fail)
    refine fende_C 4 rfl fun A1 c1 B1 d1 hc1 => ?_
    simp only [List.eraseIdx_cons_zero, List.eraseIdx_cons_succ]
    have hwe := hI2.r0.wait
    have ha0 := hI2.r0.a0
    have ha1 := hI2.r0.a1
    have hwn := hI2.n0
    dsimp only at hwe ha0 ha1 hwn
    have hwl : (e0.wait.length : Int) = (f0.wait.length : Int) - f0.acked := by rw [hwe, List.length_drop]; omega
    have hpj : At [pa, pb] 0 pa := ⟨rfl⟩
    have hqj : At [qa, qb] 0 qa := ⟨rfl⟩
    refine C_draw (n := 99) [cel qa [.int .i64 f0.w, .slice A1 f0.wait.length c1, .int .i64 f0.acked, .int .i64 f0.got, .slice B1 f0.held.length d1, .bool f0.ow] 50, rd ePt (.slice (some ⟨eg, 0, none⟩) 2 2) [pa, pb], rd ePt (.slice Am 2 cm) [qa, qb]] [(0, 1), (1, 1), (2, 1), (3, 1), (5, 1), (6, 1), (7, 1), (8, 1), (9, 1), (10, 1), (11, 1), (12, 1), (13, 1), (14, 1), (15, 1), (16, 1), (17, 1), (18, 1), (19, 1), (20, 1), (4, 0), (21, 1)] (by kernel_rfl) (by kernel_rfl) Sb ?_
    repeat' (first | refine go ?_ | intro _ | (apply cG; first | refine cT ?_ | refine cF ?_ | refine cS (fun _ => ?_) fun _ => ?_) | (apply gW; refine sW ?_) | (apply gI; refine sI ?_) | (apply gE; refine sE ?_) | (apply gP; refine sP ?_) | (apply gC; refine sC ?_) | (apply gD; refine sD ?_) | fail)
    refine D_op rfl ?_; refine X_d (dy_call ArgsI.pf (by first | exact rfl | trivial | (intro a b; rfl)) (CT.pull (i := 5) (by rfl) (Waiting_e (e := e0)))) ?_; rintro _ _ ⟨_, ⟨rfl, rfl⟩, rfl⟩; refine ⟨(by first | exact .inl rfl | exact .inr Sb), D_n ?_⟩
    repeat' (first | refine go ?_ | intro _ | (apply cG; first | refine cT ?_ | refine cF ?_ | refine cS (fun _ => ?_) fun _ => ?_) | (apply gW; refine sW ?_) | (apply gI; refine sI ?_) | (apply gE; refine sE ?_) | (apply gP; refine sP ?_) | (apply gC; refine sC ?_) | (apply gD; refine sD ?_) | fail)
    refine E_sub (S := cel qa [.int .i64 f0.w, .slice A1 f0.wait.length c1, .int .i64 f0.acked, .int .i64 f0.got, .slice B1 f0.held.length d1, .bool f0.ow] 50 :: own 31 (eSl eB) (.slice A1 f0.wait.length c1) f0.wait :: own 91 eHd (.slice B1 f0.held.length d1) f0.held :: own 40 ePK (.slice la link.length lc) link :: own 3 eI (.slice ta to.length tc) to :: ende pa e0 :: ende pb e1 :: fende qb f1 :: rd ePt (.slice (some ⟨eg, 0, none⟩) 2 2) [pa, pb] :: rd ePt (.slice Am 2 cm) [qa, qb] :: rd eI (.slice Av li.length cv) li :: L) Sb ?_
    refine E_sub (fende_sub (f := f0)) ?_
    exact E_round 1 (by decide) (by show 2 - 1 < 2 - 0; decide) ⟨rfl, trivial⟩ Sb
  · repeat' (first | refine go ?_ | intro _ | (apply cG; first | refine cT ?_ | refine cF ?_ | refine cS (fun _ => ?_) fun _ => ?_) | (apply gW; refine sW ?_) | (apply gI; refine sI ?_) | (apply gE; refine sE ?_) | (apply gP; refine sP ?_) | (apply gC; refine sC ?_) | (apply gD; refine sD ?_) | fail)
    refine fende_C 5 rfl fun A1 c1 B1 d1 hc1 => ?_
    simp only [List.eraseIdx_cons_zero, List.eraseIdx_cons_succ]
    have hwe := hI2.r1.wait
    have ha0 := hI2.r1.a0
    have ha1 := hI2.r1.a1
    have hwn := hI2.n1
    dsimp only at hwe ha0 ha1 hwn
    have hwl : (e1.wait.length : Int) = (f1.wait.length : Int) - f1.acked := by rw [hwe, List.length_drop]; omega
    have hpj : At [pa, pb] 1 pb := ⟨rfl⟩
    have hqj : At [qa, qb] 1 qb := ⟨rfl⟩
    refine C_draw (n := 99) [cel qb [.int .i64 f1.w, .slice A1 f1.wait.length c1, .int .i64 f1.acked, .int .i64 f1.got, .slice B1 f1.held.length d1, .bool f1.ow] 50, rd ePt (.slice (some ⟨eg, 0, none⟩) 2 2) [pa, pb], rd ePt (.slice Am 2 cm) [qa, qb]] [(0, 1), (1, 1), (2, 1), (3, 1), (5, 1), (6, 1), (7, 1), (8, 1), (9, 1), (10, 1), (11, 1), (12, 1), (13, 1), (14, 1), (15, 1), (16, 1), (17, 1), (18, 1), (19, 1), (20, 1), (4, 0), (21, 1)] (by kernel_rfl) (by kernel_rfl) Sb ?_
    repeat' (first | refine go ?_ | intro _ | (apply cG; first | refine cT ?_ | refine cF ?_ | refine cS (fun _ => ?_) fun _ => ?_) | (apply gW; refine sW ?_) | (apply gI; refine sI ?_) | (apply gE; refine sE ?_) | (apply gP; refine sP ?_) | (apply gC; refine sC ?_) | (apply gD; refine sD ?_) | fail)
    refine D_op rfl ?_; refine X_d (dy_call ArgsI.pf (by first | exact rfl | trivial | (intro a b; rfl)) (CT.pull (i := 6) (by rfl) (Waiting_e (e := e1)))) ?_; rintro _ _ ⟨_, ⟨rfl, rfl⟩, rfl⟩; refine ⟨(by first | exact .inl rfl | exact .inr Sb), D_n ?_⟩
    repeat' (first | refine go ?_ | intro _ | (apply cG; first | refine cT ?_ | refine cF ?_ | refine cS (fun _ => ?_) fun _ => ?_) | (apply gW; refine sW ?_) | (apply gI; refine sI ?_) | (apply gE; refine sE ?_) | (apply gP; refine sP ?_) | (apply gC; refine sC ?_) | (apply gD; refine sD ?_) | fail)
    refine E_sub (S := cel qb [.int .i64 f1.w, .slice A1 f1.wait.length c1, .int .i64 f1.acked, .int .i64 f1.got, .slice B1 f1.held.length d1, .bool f1.ow] 50 :: own 31 (eSl eB) (.slice A1 f1.wait.length c1) f1.wait :: own 91 eHd (.slice B1 f1.held.length d1) f1.held :: own 40 ePK (.slice la link.length lc) link :: own 3 eI (.slice ta to.length tc) to :: ende pa e0 :: ende pb e1 :: fende qa f0 :: rd ePt (.slice (some ⟨eg, 0, none⟩) 2 2) [pa, pb] :: rd ePt (.slice Am 2 cm) [qa, qb] :: rd eI (.slice Av li.length cv) li :: L) Sb ?_
    refine E_sub (fende_sub (f := f1)) ?_
    exact E_round 2 (by decide) (by show 2 - 2 < 2 - 1; decide) ⟨rfl, trivial⟩ Sb
  · repeat' (first | refine go ?_ | intro _ | (apply cG; first | refine cT ?_ | refine cF ?_ | refine cS (fun _ => ?_) fun _ => ?_) | (apply gW; refine sW ?_) | (apply gI; refine sI ?_) | (apply gE; refine sE ?_) | (apply gP; refine sP ?_) | (apply gC; refine sC ?_) | (apply gD; refine sD ?_) | fail)
    exact E_round ⟨i + 1, e0, e1, f0, f1, link, la, lc, to, ta, tc⟩ hI2 (by show m - (i + 1) < m - i; omega) ⟨rfl, rfl, rfl, trivial⟩ Sb
theorem ChannelRuns_any {window : Int} {v : Value} {li : List Int} {w : World} (s : St w w [rd eI v li]) (hw1 : -9223372036854775808 ≤ window) (hw2 : window ≤ 9223372036854775807) (hl : li.length ≤ 9223372036854775807) (hr : ∀ n ∈ li, -9223372036854775808 ≤ n ∧ n ≤ 9223372036854775807) :
    Calls Try.prog 3 #[.int .i64 window, v] w fun e w' => e = .returned (.bool true) ∧ Below w.heap.size w w' :=
  ((ChannelRuns_ct (W0 := w) hw1 hw2 (.head _) hl hr).run w s).mono fun e w' h => by
    obtain ⟨v, L', rfl, ⟨rfl, rfl⟩, s⟩ := h
    exact ⟨rfl, s.below⟩
end
end Go.Proofs.Ythbgmnoaaohbcaa
