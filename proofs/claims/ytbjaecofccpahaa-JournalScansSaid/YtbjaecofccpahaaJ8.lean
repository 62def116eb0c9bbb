/-
  Walks: JournalScans.
-/
import Derived.Test.YtbjaecofccpahaaJ7
namespace Go.Proofs.Ytbjaecofccpahaa
open Go Go.RowKit
set_option linter.unusedVariables false
set_option linter.unusedSimpArgs false
set_option maxRecDepth 20000
set_option synthInstance.maxSize 100000
set_option synthInstance.maxHeartbeats 400000
section
variable {W0 : World} {L : List HP}
theorem D_fr0 {P : Program} {S : List HP} {n : Nat} {l : List Oper} {Q : Exit → Act → World → Prop} {br : Bool} {pl : List (Nat × Nat)} {a : Act} {E : TypeId} {v : Value} {x : List UInt8} (i : Nat) {L' : List HP} (h : L[i]? = some (own E eB v x)) (hL : L.set i (rd eB v x) = L') (k : DL P W0 S n l Q br pl L' a) : DL P W0 S n l Q br pl L a := by
  subst hL
  exact ⟨fun w s => k.run w ((s.at_ h).own_rd.back h)⟩
theorem C_fr0 {P : Program} {c : Code} {Q : Exit → Act → World → Prop} {a : Act} {E : TypeId} {v : Value} {x : List UInt8} (k : CL P W0 (rd eB v x :: L) c Q a) : CL P W0 (own E eB v x :: L) c Q a := ⟨fun w s => k.run w s.own_rd⟩
theorem JournalScans_ct {vr v : Value} {lr : List UInt8} {li : List Int} {at_ : Int} {c8 : UInt8} (hraw : rd eB vr lr ∈ L) (hrl : lr.length ≤ 9223372036854775807) (hv : rd eI v li ∈ L) (hl : li.length ≤ 9223372036854775807) (hr : ∀ n ∈ li, -9223372036854775808 ≤ n ∧ n ≤ 9223372036854775807) (hn1 : -9223372036854775808 ≤ at_) (hn2 : at_ ≤ 9223372036854775807) :
    CT Try.prog 6 #[vr, v, .int .i64 at_, bv c8] W0 L fun r L' => r = .bool true ∧ L' = L := by
  refine CT_fact (fun w s => ((Src.sl (.inl hraw) s).form)) ?_
  rintro ⟨Ar, cr, rfl, hcr⟩
  refine CT_enter Try.func6 rfl ?_; (simp only [Try.ntmps6, List.size_toArray, List.length_cons, List.length_nil, Nat.reduceAdd, Nat.reduceSub, Array.replicate_succ, Array.replicate_zero, List.push_toArray, List.append_toArray, List.nil_append, List.cons_append])
  refine C_sub (sub_dup hraw) ?_
  repeat' (first | refine go ?_ | intro _ | (apply cG; first | refine cT ?_ | refine cF ?_ | refine cS (fun _ => ?_) fun _ => ?_) | (apply gW; refine sW ?_) | (apply gI; refine sI ?_) | (apply gE; refine sE ?_) | (apply gP; refine sP ?_) | (apply gC; refine sC ?_) | (apply gD; refine sD ?_) | fail)
  refine O_d (dy_call ArgsI.pf (by first | exact rfl | trivial | (intro a b; rfl)) (Records_ct (.tail _ hv) hl hr)) ?_; rintro _ _ ⟨_, ⟨A4, c4, x, rfl, rfl, hxs, hx6⟩, rfl⟩; refine O_n ?_
  refine O_frz 0 ?_
  repeat' (first | refine go ?_ | intro _ | (apply cG; first | refine cT ?_ | refine cF ?_ | refine cS (fun _ => ?_) fun _ => ?_) | (apply gW; refine sW ?_) | (apply gI; refine sI ?_) | (apply gE; refine sE ?_) | (apply gP; refine sP ?_) | (apply gC; refine sC ?_) | (apply gD; refine sD ?_) | fail)
  refine C_ownnil 5 eB ?_
  refine C_loopS (κ := Nat × Value) [false, false, false, false, false, false, false, false, false, false, true, true, false, false, false, false, false, false, false, false, true, true, true, true, true, true, true, true, true, true, true, true, true, true, false, false, false, false, false, false, false, false, false, false, false, false, false, false, false, false, false, false, false, false, false, false, false, false, false, false, false, false, false, false, false, false, false, false, false, false, false, false, false, false, false, false, false, false, false, false, false, false, false, false] (fun k => [(10, k.2), (11, .int .i64 (k.1 : Int))]) (fun k => [(0, own 5 eB k.2 (framesF 0 (x.take k.1)))]) (fun k => k.1 ≤ x.length ∧ ∃ A c, k.2 = .slice A (framesF 0 (x.take k.1)).length c) (fun k => x.length - k.1) (0, .slice none 0 0) ⟨Nat.zero_le _, none, 0, rfl⟩ ⟨rfl, rfl, trivial⟩ ?_
  rintro ⟨i, va⟩ u ⟨hi, A6, c6, hva⟩
  dsimp only at hi hva
  subst hva
  have hfl2 := framesF_len (m := 10) (x.take i) 0 (fun y hy => hxs y (List.mem_of_mem_take hy)) (by decide) (by decide) (by rw [List.length_take]; omega)
  rw [List.length_take] at hfl2
  ((try dsimp only); refine C_n ?_; (try simp only [Nat.reduceAdd, Nat.zero_add]))
  by_cases hlt : i < x.length
  · obtain ⟨y, hy⟩ : ∃ y, x[i]? = some y := ⟨_, List.getElem?_eq_getElem hlt⟩
    have hay : At x i y := ⟨hy⟩
    have hyl := hxs y (List.mem_of_getElem? hy)
    have hnext : framesF 0 (x.take (i + 1)) = framesF 0 (x.take i) ++ frameF (i : Int) y := by
      have : x.take (i + 1) = x.take i ++ [y] := by rw [List.take_add_one, hy]; rfl
      rw [this, framesF_snoc, List.length_take, Nat.min_eq_left hi, Int.zero_add]
    have hfy := frameF_len (i := (i : Int)) (x := y) (by omega) (by omega) (by omega)
    repeat' (first | refine go ?_ | intro _ | (apply cG; first | refine cT ?_ | refine cF ?_ | refine cS (fun _ => ?_) fun _ => ?_) | (apply gW; refine sW ?_) | (apply gI; refine sI ?_) | (apply gE; refine sE ?_) | (apply gP; refine sP ?_) | (apply gC; refine sC ?_) | (apply gD; refine sD ?_) | fail)
    refine O_d (dy_call ArgsI.pf (by first | exact rfl | trivial | (intro a b; rfl)) (fFrame_ct (i := (i : Int)) (x := y) (.inl (.head _)) (by omega) (by omega) (by omega))) ?_; rintro _ _ ⟨_, ⟨A7, c7, rfl, rfl⟩, rfl⟩; refine O_n ?_
    refine O_d dy_append ?_; rintro _ _ ⟨A8, c8', rfl, rfl⟩; refine O_n ?_
    repeat' (first | refine go ?_ | intro _ | (apply cG; first | refine cT ?_ | refine cF ?_ | refine cS (fun _ => ?_) fun _ => ?_) | (apply gW; refine sW ?_) | (apply gI; refine sI ?_) | (apply gE; refine sE ?_) | (apply gP; refine sP ?_) | (apply gC; refine sC ?_) | (apply gD; refine sD ?_) | fail)
    have hnl : (framesF 0 (x.take i)).length + (frameF (i : Int) y).length = (framesF 0 (x.take (i + 1))).length := by rw [hnext, List.length_append]
    rw [← hnext, hnl]
    exact E_round (i + 1, .slice A8 (framesF 0 (x.take (i + 1))).length c8') ⟨hlt, A8, c8', rfl⟩ (by show x.length - (i + 1) < x.length - i; omega) ⟨rfl, rfl, trivial⟩ Sb
  obtain rfl : i = x.length := by omega
  rw [List.take_length] at hfl2 ⊢
  obtain ⟨all, hall⟩ : ∃ all, framesF 0 x = all := ⟨_, rfl⟩
  rw [hall] at hfl2 ⊢
  have hal : all.length ≤ 300 := by omega
  repeat' (first | ((fail_if_success apply AtE); refine go ?_) | intro _ | (apply cG; first | refine cT ?_ | refine cF ?_ | refine cS (fun _ => ?_) fun _ => ?_) | (apply gW; refine sW ?_) | (apply gI; refine sI ?_) | (apply gE; refine sE ?_) | (apply gP; refine sP ?_) | (apply gC; refine sC ?_) | (apply gD; refine sD ?_) | fail)
  refine go ?_
  repeat' (first | ((fail_if_success apply AtE); refine go ?_) | intro _ | (apply cG; first | refine cT ?_ | refine cF ?_ | refine cS (fun _ => ?_) fun _ => ?_) | (apply gW; refine sW ?_) | (apply gI; refine sI ?_) | (apply gE; refine sE ?_) | (apply gP; refine sP ?_) | (apply gC; refine sC ?_) | (apply gD; refine sD ?_) | fail)
  refine go ?_; refine go ?_; refine C_join (κ := List UInt8) [false, false, false, false, false, false, false, false, false, false, false, false, false, false, false, false, false, false, false, false, false, false, false, false, false, false, false, false, false, false, false, false, false, false, true, true, true, true, true, true, true, true, true, true, false, false, false, false, false, false, false, false, false, false, false, false, false, false, false, false, false, false, false, false, false, false, false, false, false, false, false, false, false, false, false, false, false, false, false, false, false, false, false, false] (fun k => []) (fun k => [(0, own 5 eB (.slice A6 all.length c6) k)]) (fun k => k.length = all.length) ?_ ?_
  · by_cases hz : 0 < all.length
    · repeat' (first | refine go ?_ | intro _ | (apply cG; first | refine cT ?_ | refine cF ?_ | refine cS (fun _ => ?_) fun _ => ?_) | (apply gW; refine sW ?_) | (apply gI; refine sI ?_) | (apply gE; refine sE ?_) | (apply gP; refine sP ?_) | (apply gC; refine sC ?_) | (apply gD; refine sD ?_) | fail)
      refine O_d (dy_call ArgsI.pf (by first | exact rfl | trivial | (intro a b; rfl)) (Around_ct hn1 hn2 (by omega) (by omega))) ?_; rintro _ _ ⟨_, ⟨rfl, hLL⟩, rfl⟩; replace hLL := hLL.symm; subst hLL; refine O_n ?_
      obtain ⟨kk, hkk, hkl⟩ : ∃ kk : Nat, around at_ (all.length : Int) = (kk : Int) ∧ kk < all.length := by
        have := around_in (n := at_) (most := all.length) (by omega)
        exact ⟨(around at_ all.length).toNat, by omega, by omega⟩
      rw [hkk]
      repeat' (first | refine go ?_ | intro _ | (apply cG; first | refine cT ?_ | refine cF ?_ | refine cS (fun _ => ?_) fun _ => ?_) | (apply gW; refine sW ?_) | (apply gI; refine sI ?_) | (apply gE; refine sE ?_) | (apply gP; refine sP ?_) | (apply gC; refine sC ?_) | (apply gD; refine sD ?_) | fail)
      refine O_d (dy_storeE (f := bv) (hf := fun _ => rfl) (n := all.length) (c := c6) c8 (hy := by rfl) (hj := hkl)) ?_; rintro _ _ ⟨rfl, rfl⟩; refine O_n ?_
      repeat' (first | refine go ?_ | intro _ | (apply cG; first | refine cT ?_ | refine cF ?_ | refine cS (fun _ => ?_) fun _ => ?_) | (apply gW; refine sW ?_) | (apply gI; refine sI ?_) | (apply gE; refine sE ?_) | (apply gP; refine sP ?_) | (apply gC; refine sC ?_) | (apply gD; refine sD ?_) | fail)
      exact E_join (all.set kk c8) (List.length_set) trivial
    · repeat' (first | refine go ?_ | intro _ | (apply cG; first | refine cT ?_ | refine cF ?_ | refine cS (fun _ => ?_) fun _ => ?_) | (apply gW; refine sW ?_) | (apply gI; refine sI ?_) | (apply gE; refine sE ?_) | (apply gP; refine sP ?_) | (apply gC; refine sC ?_) | (apply gD; refine sD ?_) | fail)
      exact E_join all rfl trivial
  rintro turned u2 hturn
  rw [← hturn] at hal ⊢
  ((try dsimp only); refine C_n ?_; (try simp only [Nat.reduceAdd, Nat.zero_add]))
  refine C_fr0 ?_
  obtain ⟨k1, hk1⟩ : ∃ k1 : Nat, k1 = min lr.length 5 := ⟨_, rfl⟩
  have ek1 : (if (5 : Int) < (lr.length : Int) then (5 : Int) else (lr.length : Int)) = (k1 : Int) := by split <;> omega
  have hk1l : k1 ≤ lr.length := by omega
  have hk5 : k1 ≤ 5 := by omega
  clear hk1
  refine C_seq ?_
  refine C_draw (n := 99) [rd eB (.slice Ar lr.length cr) lr] [(0, 1), (2, 1), (3, 1), (4, 1), (5, 1), (6, 1), (7, 1), (1, 0), (8, 0), (9, 0), (10, 1)] (by kernel_rfl) (by kernel_rfl) Sb ?_
  repeat' (first | refine go ?_ | intro _ | (apply cG; first | refine cT ?_ | refine cF ?_ | refine cS (fun _ => ?_) fun _ => ?_) | fail)
  apply gW
  refine sW (r := (k1 : Int)) ?_ ek1
  refine D_op rfl ?_
  refine X_s (sv_slice (l' := 0) (h' := k1) (h2 := by omega) (e2 := by omega)) ?_
  refine D_op rfl ?_; refine X_d (dy_call ArgsI.pf (by first | exact rfl | trivial | (intro a b; rfl)) (Few_ct (.tail _ (.tail _ (.head _))) hrl (most := 60) (by decide) (by decide))) ?_; rintro _ _ ⟨_, ⟨A7, c7, rfl, rfl⟩, rfl⟩; refine ⟨(by first | exact .inl rfl | exact .inr Sb), D_n ?_⟩
  obtain ⟨few, hfew⟩ : ∃ few, lr.take (Int.toNat 60) = few := ⟨_, rfl⟩
  have hfl : few.length ≤ 60 := by rw [← hfew]; exact List.length_take_le _ _
  rw [hfew]
  refine D_fr0 0 rfl rfl ?_
  refine D_sub (sub_rdcut (lo := 0) (k := k1) (s := 1) (R := eB) (l := lr) (A := Ar) (n := lr.length) (c := cr) (by repeat (first | exact .head _ | refine .tail _ ?_)) (by omega) rfl) ?_
  rw [List.drop_zero]
  obtain ⟨f5, hf5⟩ : ∃ f5, lr.take k1 = f5 := ⟨_, rfl⟩
  have hf5l : k1 = f5.length := by rw [← hf5, List.length_take]; omega
  rw [hf5]
  have hffl := frameF_len (i := 1) (x := f5) (by decide) (by decide) (by omega)
  refine D_op rfl ?_; refine X_d (dy_call ArgsI.pf (by first | exact rfl | trivial | (intro a b; rfl)) (fFrame_ct (i := 1) (x := f5) (.inl (.head _)) (by decide) (by decide) (by omega))) ?_; rintro _ _ ⟨_, ⟨A8, c8', rfl, rfl⟩, rfl⟩; refine ⟨(by first | exact .inl rfl | exact .inr Sb), D_n ?_⟩
  refine D_fr0 0 rfl rfl ?_
  obtain ⟨f1, hf1⟩ : ∃ f1, frameF 1 f5 = f1 := ⟨_, rfl⟩
  rw [hf1] at hffl ⊢
  refine D_op rfl ?_; refine X_d (dy_litS (R := eSl eB) [few, turned, f1] [.slice A7 few.length c7, .slice A6 turned.length c6, .slice A8 f1.length c8'] (by rfl) (fun m h hs => ⟨⟨_, rfl, rd_mem hs (by repeat (first | exact .head _ | refine .tail _ ?_))⟩, ⟨_, rfl, rd_mem hs (by repeat (first | exact .head _ | refine .tail _ ?_))⟩, ⟨_, rfl, rd_mem hs (by repeat (first | exact .head _ | refine .tail _ ?_))⟩, trivial⟩)) ?_; rintro _ _ ⟨_, rfl, rfl⟩; refine ⟨(by first | exact .inl rfl | exact .inr Sb), D_n ?_⟩
  repeat' (first | refine go ?_ | intro _ | (apply cG; first | refine cT ?_ | refine cF ?_ | refine cS (fun _ => ?_) fun _ => ?_) | (apply gW; refine sW ?_) | (apply gI; refine sI ?_) | (apply gE; refine sE ?_) | (apply gP; refine sP ?_) | (apply gC; refine sC ?_) | (apply gD; refine sD ?_) | fail)
  refine C_loopS (κ := Nat) [false, false, false, false, false, false, false, false, true, false, false, false, false, true, true, true, true, true, false, false, false, false, false, false, false, false, false, false, false, false, false, false, false, false, false, false, false, false, false, false, false, false, false, false, false, false, false, false, false, false, false, false, false, false, true, true, true, true, true, true, true, true, true, true, true, true, true, true, true, true, true, true, true, true, true, true, true, true, true, true, true, true, true, false] (fun k => [(13, .int .i64 (k : Int))]) (fun k => []) (fun k => k ≤ 3) (fun k => 3 - k) 0 (by decide) ⟨rfl, trivial⟩ ?_
  rintro i u3 hi
  ((try dsimp only); refine C_n ?_; (try simp only [Nat.reduceAdd, Nat.zero_add]))
  by_cases hlt : i < 3
  · obtain ⟨b, hb⟩ : ∃ b, [few, turned, f1][i]? = some b := ⟨_, List.getElem?_eq_getElem hlt⟩
    have hax : At [few, turned, f1] i b := ⟨hb⟩
    have hbl : b.length ≤ 10000 := by
      have := List.mem_of_getElem? hb
      simp only [List.mem_cons, List.not_mem_nil, or_false] at this
      rcases this with rfl | rfl | rfl <;> omega
    obtain ⟨gs, N, hscan⟩ : ∃ gs N, scanF b.length 0 b = (gs, N) := ⟨_, _, rfl⟩
    have hgl := scanF_le b.length 0 b
    have hgm := scanF_mem b.length 0 b
    rw [hscan] at hgl hgm
    dsimp only at hgl hgm
    have hgl2 : ∀ y ∈ gs, y.length ≤ 10000000 := fun y hy => by have := hgm y hy; omega
    repeat' (first | refine go ?_ | intro _ | (apply cG; first | refine cT ?_ | refine cF ?_ | refine cS (fun _ => ?_) fun _ => ?_) | (apply gW; refine sW ?_) | (apply gI; refine sI ?_) | (apply gE; refine sE ?_) | (apply gP; refine sP ?_) | (apply gC; refine sC ?_) | (apply gD; refine sD ?_) | fail)
    refine O_d (dy_call ArgsI.pf (by first | exact rfl | trivial | (intro a b; rfl)) (Scan_ct (b := b) (.head _) (by omega) hscan)) ?_; rintro _ _ ⟨_, ⟨A11, c11, rfl, rfl⟩, rfl⟩; refine O_n ?_
    refine O_frz 0 ?_
    repeat' (first | refine go ?_ | intro _ | (apply cG; first | refine cT ?_ | refine cF ?_ | refine cS (fun _ => ?_) fun _ => ?_) | (apply gW; refine sW ?_) | (apply gI; refine sI ?_) | (apply gE; refine sE ?_) | (apply gP; refine sP ?_) | (apply gC; refine sC ?_) | (apply gD; refine sD ?_) | fail)
    refine O_d (dy_call ArgsI.pf (by first | exact rfl | trivial | (intro a b; rfl)) (fScan_ct (b := b) (.head _) (by omega) hscan)) ?_; rintro _ _ ⟨_, ⟨A12, c12, rfl, rfl⟩, rfl⟩; refine O_n ?_
    refine O_frz 0 ?_
    repeat' (first | refine go ?_ | intro _ | (apply cG; first | refine cT ?_ | refine cF ?_ | refine cS (fun _ => ?_) fun _ => ?_) | (apply gW; refine sW ?_) | (apply gI; refine sI ?_) | (apply gE; refine sE ?_) | (apply gP; refine sP ?_) | (apply gC; refine sC ?_) | (apply gD; refine sD ?_) | fail)
    refine O_d (dy_call ArgsI.pf (by first | exact rfl | trivial | (intro a b; rfl)) (SameLists_ct (la := gs) (lb := gs) (.tail _ (.tail _ (.head _))) (.head _) (by omega) (by omega) hgl2 hgl2 (q := true) (decide_eq_true rfl))) ?_; rintro _ _ ⟨_, ⟨rfl, hLL⟩, rfl⟩; replace hLL := hLL.symm; subst hLL; refine O_n ?_
    repeat' (first | refine go ?_ | intro _ | (apply cG; first | refine cT ?_ | refine cF ?_ | refine cS (fun _ => ?_) fun _ => ?_) | (apply gW; refine sW ?_) | (apply gI; refine sI ?_) | (apply gE; refine sE ?_) | (apply gP; refine sP ?_) | (apply gC; refine sC ?_) | (apply gD; refine sD ?_) | fail)
    exact E_round (i + 1) hlt (by show 3 - (i + 1) < 3 - i; omega) ⟨rfl, trivial⟩ Sb
  · repeat' (first | refine go ?_ | intro _ | (apply cG; first | refine cT ?_ | refine cF ?_ | refine cS (fun _ => ?_) fun _ => ?_) | (apply gW; refine sW ?_) | (apply gI; refine sI ?_) | (apply gE; refine sE ?_) | (apply gP; refine sP ?_) | (apply gC; refine sC ?_) | (apply gD; refine sD ?_) | fail)
    refine O_d (dy_call ArgsI.pf (by first | exact rfl | trivial | (intro a b; rfl)) (lives_ct)) ?_; rintro _ _ ⟨_, ⟨rfl, hLL⟩, rfl⟩; replace hLL := hLL.symm; subst hLL; refine O_n ?_
    repeat' (first | refine go ?_ | intro _ | (apply cG; first | refine cT ?_ | refine cF ?_ | refine cS (fun _ => ?_) fun _ => ?_) | (apply gW; refine sW ?_) | (apply gI; refine sI ?_) | (apply gE; refine sE ?_) | (apply gP; refine sP ?_) | (apply gC; refine sC ?_) | (apply gD; refine sD ?_) | fail)
    refine E_res1 (by rfl) (by rfl) ⟨rfl, rfl⟩ Sb
theorem JournalScans_any {vr v : Value} {lr : List UInt8} {li : List Int} {at_ : Int} {c8 : UInt8} {w : World} (s : St w w [rd eB vr lr, rd eI v li]) (hrl : lr.length ≤ 9223372036854775807) (hl : li.length ≤ 9223372036854775807) (hr : ∀ n ∈ li, -9223372036854775808 ≤ n ∧ n ≤ 9223372036854775807) (hn1 : -9223372036854775808 ≤ at_) (hn2 : at_ ≤ 9223372036854775807) :
    Calls Try.prog 6 #[vr, v, .int .i64 at_, bv c8] w fun e w' => e = .returned (.bool true) ∧ Below w.heap.size w w' :=
  ((JournalScans_ct (W0 := w) (.head _) hrl (.tail _ (.head _)) hl hr hn1 hn2).run w s).mono fun e w' h => by
    obtain ⟨v, L', rfl, ⟨rfl, rfl⟩, s⟩ := h
    exact ⟨rfl, s.below⟩
end
end Go.Proofs.Ytbjaecofccpahaa
