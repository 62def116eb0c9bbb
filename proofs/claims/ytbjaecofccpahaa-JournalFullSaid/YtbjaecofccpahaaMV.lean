/-
  Walks: JournalFrames.
-/
import Derived.Shelf.SortM.Plain
import Derived.Shelf.SortM.SortNone
import Derived.Ground.SlgmProg
import Derived.Test.YtbjaecofccpahaaMU
import Derived.Test.YtbjaecofccpahaaMT
import Derived.Test.YtbjaecofccpahaaMK
namespace Go.Proofs.Ytbjaecofccpahaa
open Go Go.RowKit
set_option linter.unusedVariables false
set_option linter.unusedSimpArgs false
set_option maxRecDepth 20000
set_option synthInstance.maxSize 100000
set_option synthInstance.maxHeartbeats 400000
instance {α : Type} {R : Enc α} : Sz (eSl R) 1 := ⟨rfl⟩
theorem framesF_snoc (xs : List (List UInt8)) : ∀ (i : Int) (x : List UInt8), framesF i (xs ++ [x]) = framesF i xs ++ frameF (i + xs.length) x := by
  induction xs with
  | nil =>
    intro i x
    show frameF i x ++ [] = [] ++ frameF (i + ((0 : Nat) : Int)) x
    rw [List.append_nil, List.nil_append, show i + ((0 : Nat) : Int) = i from by omega]
  | cons y r ih =>
    intro i x
    have e : i + 1 + (r.length : Int) = i + (((y :: r).length : Nat) : Int) := by rw [List.length_cons]; push_cast; omega
    show frameF i y ++ framesF (i + 1) (r ++ [x]) = frameF i y ++ framesF (i + 1) r ++ frameF (i + (((y :: r).length : Nat) : Int)) x
    rw [ih (i + 1) x, e, List.append_assoc]
theorem framesF_len {m : Nat} : ∀ (xs : List (List UInt8)) (i : Int), (∀ x ∈ xs, x.length ≤ m) → m ≤ 1000000 → -9223372036854775808 ≤ i → i + xs.length ≤ 9223372036854775807 → (framesF i xs).length ≤ xs.length * (m + 40)
  | [], i, _, _, _, _ => by simp [framesF]
  | x :: r, i, h, hm, h1, h2 => by
    have hx := h x (.head _)
    simp only [List.length_cons] at h2
    push_cast at h2
    have hf := frameF_len (i := i) (x := x) h1 (by omega) (by omega)
    have ih := framesF_len r (i + 1) (fun y hy => h y (.tail _ hy)) hm (by omega) (by omega)
    simp only [framesF, List.length_append, List.length_cons, Nat.add_mul, Nat.one_mul]
    omega
theorem scanF_mem : ∀ (n : Nat) (i : Int) (b : List UInt8), ∀ x ∈ (scanF n i b).1, x.length ≤ b.length
  | 0, _, _, x, hx => by cases hx
  | n + 1, i, b, x, hx => by
    rw [scanF] at hx
    split at hx
    · cases hx
    · split at hx
      · rcases List.mem_cons.1 hx with rfl | hx
        · exact recF_len b
        · have := scanF_mem n (i + 1) (b.drop (frameF i (recF b)).length) x hx
          rw [List.length_drop] at this
          omega
      · cases hx
theorem framesF_min : ∀ (xs : List (List UInt8)) (i : Int), xs.length ≤ (framesF i xs).length
  | [], _ => Nat.zero_le _
  | x :: r, i => by
    have h1 := frameF_min i x
    have h2 := framesF_min r (i + 1)
    simp only [framesF, List.length_append, List.length_cons]
    omega
section
variable {W0 : World} {L : List HP}
theorem JournalFrames_ct {v vb vr : Value} {li : List Int} {lb lr : List UInt8} {num : Int} (hv : rd eI v li ∈ L) (hl : li.length ≤ 9223372036854775807) (hr : ∀ n ∈ li, -9223372036854775808 ≤ n ∧ n ≤ 9223372036854775807) (hn1 : -9223372036854775808 ≤ num) (hn2 : num ≤ 9223372036854775807)
    (hb : rd eB vb lb ∈ L) (hbl : lb.length ≤ 9223372036854775807) (hrest : rd eB vr lr ∈ L) (hrl : lr.length ≤ 9223372036854775807) :
    CT Try.prog 5 #[v, .int .i64 num, vb, vr] W0 L fun r L' => r = .bool true ∧ L' = L := by
  refine CT_enter Try.func5 rfl ?_; (simp only [Try.ntmps5, List.size_toArray, List.length_cons, List.length_nil, Nat.reduceAdd, Nat.reduceSub, Array.replicate_succ, Array.replicate_zero, List.push_toArray, List.append_toArray, List.nil_append, List.cons_append])
  repeat' (first | refine go ?_ | intro _ | (apply cG; first | refine cT ?_ | refine cF ?_ | refine cS (fun _ => ?_) fun _ => ?_) | (apply gW; refine sW ?_) | (apply gI; refine sI ?_) | (apply gE; refine sE ?_) | (apply gP; refine sP ?_) | (apply gC; refine sC ?_) | (apply gD; refine sD ?_) | fail)
  refine O_d (dy_call ArgsI.pf (by first | exact rfl | trivial | (intro a b; rfl)) (Few_ct hb hbl (most := 200) (by decide) (by decide))) ?_; rintro _ _ ⟨_, ⟨A1, c1, rfl, rfl⟩, rfl⟩; refine O_n ?_
  obtain ⟨o, ho⟩ : ∃ o, lb.take (Int.toNat 200) = o := ⟨_, rfl⟩
  have hol : o.length ≤ 200 := by rw [← ho]; exact List.length_take_le _ _
  rw [ho]
  refine O_frz 0 ?_
  repeat' (first | refine go ?_ | intro _ | (apply cG; first | refine cT ?_ | refine cF ?_ | refine cS (fun _ => ?_) fun _ => ?_) | (apply gW; refine sW ?_) | (apply gI; refine sI ?_) | (apply gE; refine sE ?_) | (apply gP; refine sP ?_) | (apply gC; refine sC ?_) | (apply gD; refine sD ?_) | fail)
  refine O_d (dy_call ArgsI.pf (by first | exact rfl | trivial | (intro a b; rfl)) (Frame_ct (i := num) (x := o) Sc.pf hn1 hn2 (by omega))) ?_; rintro _ _ ⟨_, ⟨A2, c2, rfl, rfl⟩, rfl⟩; refine O_n ?_
  repeat' (first | refine go ?_ | intro _ | (apply cG; first | refine cT ?_ | refine cF ?_ | refine cS (fun _ => ?_) fun _ => ?_) | (apply gW; refine sW ?_) | (apply gI; refine sI ?_) | (apply gE; refine sE ?_) | (apply gP; refine sP ?_) | (apply gC; refine sC ?_) | (apply gD; refine sD ?_) | fail)
  refine O_d (dy_call ArgsI.pf (by first | exact rfl | trivial | (intro a b; rfl)) (fFrame_ct (i := num) (x := o) Sc.pf hn1 hn2 (by omega))) ?_; rintro _ _ ⟨_, ⟨A3, c3, rfl, rfl⟩, rfl⟩; refine O_n ?_
  have hfl := frameF_len (i := num) (x := o) hn1 hn2 (by omega)
  refine O_d (dy_call ArgsI.pf (by first | exact rfl | trivial | (intro a b; rfl)) (SameBytes_ct (la := frameF num o) (lb := frameF num o) Sc.pf Sc.pf (by omega) (by omega) (q := true) (decide_eq_true rfl))) ?_; rintro _ _ ⟨_, ⟨rfl, hLL⟩, rfl⟩; replace hLL := hLL.symm; subst hLL; refine O_n ?_
  repeat' (first | refine go ?_ | intro _ | (apply cG; first | refine cT ?_ | refine cF ?_ | refine cS (fun _ => ?_) fun _ => ?_) | (apply gW; refine sW ?_) | (apply gI; refine sI ?_) | (apply gE; refine sE ?_) | (apply gP; refine sP ?_) | (apply gC; refine sC ?_) | (apply gD; refine sD ?_) | fail)
  refine O_d (dy_call ArgsI.pf (by first | exact rfl | trivial | (intro a b; rfl)) (Records_ct (.tail _ (.tail _ (.tail _ hv))) hl hr)) ?_; rintro _ _ ⟨_, ⟨A4, c4, xs, rfl, rfl, hxs, hx6⟩, rfl⟩; refine O_n ?_
  repeat' (first | refine go ?_ | intro _ | (apply cG; first | refine cT ?_ | refine cF ?_ | refine cS (fun _ => ?_) fun _ => ?_) | (apply gW; refine sW ?_) | (apply gI; refine sI ?_) | (apply gE; refine sE ?_) | (apply gP; refine sP ?_) | (apply gC; refine sC ?_) | (apply gD; refine sD ?_) | fail)
  refine O_d (dy_litS (R := eSl eB) [o] [.slice A1 o.length c1] (by rfl) (fun m h hs => ⟨⟨_, rfl, rd_mem hs (by repeat (first | exact .head _ | refine .tail _ ?_))⟩, trivial⟩)) ?_; rintro _ _ ⟨_, rfl, rfl⟩; refine O_n ?_
  refine O_d dy_append ?_; rintro _ _ ⟨A5, c5, rfl, rfl⟩; refine O_n ?_
  have hxo : xs.length + 1 = (xs ++ [o]).length := by rw [List.length_append]; rfl
  rw [hxo]
  obtain ⟨x, hx⟩ : ∃ x, xs ++ [o] = x := ⟨_, rfl⟩
  rw [hx] at hxo ⊢
  have hxall : ∀ y ∈ x, y.length ≤ 200 := by
    intro y hy
    rw [← hx] at hy
    rcases List.mem_append.1 hy with hy | hy
    · have := hxs y hy; omega
    · simp only [List.mem_cons, List.not_mem_nil, or_false] at hy
      subst hy
      exact hol
  have hx7 : x.length ≤ 7 := by omega
  refine O_frz 1 ?_
  repeat' (first | refine go ?_ | intro _ | (apply cG; first | refine cT ?_ | refine cF ?_ | refine cS (fun _ => ?_) fun _ => ?_) | (apply gW; refine sW ?_) | (apply gI; refine sI ?_) | (apply gE; refine sE ?_) | (apply gP; refine sP ?_) | (apply gC; refine sC ?_) | (apply gD; refine sD ?_) | fail)
  refine C_sub (S := rd (eSl eB) (.slice A5 x.length c5) x :: L) Sb ?_
  refine C_ownnil 5 eB ?_
  refine C_loopS (κ := Nat × Value) [false, false, false, false, false, false, false, false, false, false, false, true, true, false, false, false, false, false, false, false, false, false, false, false, false, false, false, false, false, false, false, false, false, true, true, true, true, true, true, true, true, true, true, true, true, true, true, false, false, false, false, false, false, false, false, false, false, false, false, false, false, false, false, false, false, false, false, false, false, false, false, false, false, false, false, false, false, false, false, false, false, false, false, false, false, false, false, false, false, false, false, false, false, false] (fun k => [(11, k.2), (12, .int .i64 (k.1 : Int))]) (fun k => [(0, own 5 eB k.2 (framesF 0 (x.take k.1)))]) (fun k => k.1 ≤ x.length ∧ ∃ A c, k.2 = .slice A (framesF 0 (x.take k.1)).length c) (fun k => x.length - k.1) (0, .slice none 0 0) ⟨Nat.zero_le _, none, 0, rfl⟩ ⟨rfl, rfl, trivial⟩ ?_
  rintro ⟨i, va⟩ u ⟨hi, A6, c6, hva⟩
  dsimp only at hi hva
  subst hva
  have hfl2 := framesF_len (m := 200) (x.take i) 0 (fun y hy => hxall y (List.mem_of_mem_take hy)) (by decide) (by decide) (by rw [List.length_take]; omega)
  rw [List.length_take] at hfl2
  ((try dsimp only); refine C_n ?_; (try simp only [Nat.reduceAdd, Nat.zero_add]))
  by_cases hlt : i < x.length
  · obtain ⟨y, hy⟩ : ∃ y, x[i]? = some y := ⟨_, List.getElem?_eq_getElem hlt⟩
    have hay : At x i y := ⟨hy⟩
    have hyl := hxall y (List.mem_of_getElem? hy)
    have hnext : framesF 0 (x.take (i + 1)) = framesF 0 (x.take i) ++ frameF (i : Int) y := by
      have : x.take (i + 1) = x.take i ++ [y] := by rw [List.take_add_one, hy]; rfl
      rw [this, framesF_snoc, List.length_take, Nat.min_eq_left hi, Int.zero_add]
    have hfy := frameF_len (i := (i : Int)) (x := y) (by omega) (by omega) (by omega)
    repeat' (first | refine go ?_ | intro _ | (apply cG; first | refine cT ?_ | refine cF ?_ | refine cS (fun _ => ?_) fun _ => ?_) | (apply gW; refine sW ?_) | (apply gI; refine sI ?_) | (apply gE; refine sE ?_) | (apply gP; refine sP ?_) | (apply gC; refine sC ?_) | (apply gD; refine sD ?_) | fail)
    refine O_d (dy_call ArgsI.pf (by first | exact rfl | trivial | (intro a b; rfl)) (Frame_ct (i := (i : Int)) (x := y) (.inl (.head _)) (by omega) (by omega) (by omega))) ?_; rintro _ _ ⟨_, ⟨A7, c7, rfl, rfl⟩, rfl⟩; refine O_n ?_
    refine O_d dy_append ?_; rintro _ _ ⟨A8, c8, rfl, rfl⟩; refine O_n ?_
    repeat' (first | refine go ?_ | intro _ | (apply cG; first | refine cT ?_ | refine cF ?_ | refine cS (fun _ => ?_) fun _ => ?_) | (apply gW; refine sW ?_) | (apply gI; refine sI ?_) | (apply gE; refine sE ?_) | (apply gP; refine sP ?_) | (apply gC; refine sC ?_) | (apply gD; refine sD ?_) | fail)
    have hnl : (framesF 0 (x.take i)).length + (frameF (i : Int) y).length = (framesF 0 (x.take (i + 1))).length := by rw [hnext, List.length_append]
    rw [← hnext, hnl]
    exact E_round (i + 1, .slice A8 (framesF 0 (x.take (i + 1))).length c8) ⟨hlt, A8, c8, rfl⟩ (by show x.length - (i + 1) < x.length - i; omega) ⟨rfl, rfl, trivial⟩ Sb
  obtain rfl : i = x.length := by omega
  rw [List.take_length] at hfl2 ⊢
  obtain ⟨all, hall⟩ : ∃ all, framesF 0 x = all := ⟨_, rfl⟩
  rw [hall] at hfl2 ⊢
  repeat' (first | refine go ?_ | intro _ | (apply cG; first | refine cT ?_ | refine cF ?_ | refine cS (fun _ => ?_) fun _ => ?_) | (apply gW; refine sW ?_) | (apply gI; refine sI ?_) | (apply gE; refine sE ?_) | (apply gP; refine sP ?_) | (apply gC; refine sC ?_) | (apply gD; refine sD ?_) | fail)
  refine O_d (dy_call ArgsI.pf (by first | exact rfl | trivial | (intro a b; rfl)) (Few_ct (.tail _ (.tail _ hrest)) hrl (most := 30) (by decide) (by decide))) ?_; rintro _ _ ⟨_, ⟨A9, c9, rfl, rfl⟩, rfl⟩; refine O_n ?_
  obtain ⟨w, hw⟩ : ∃ w, lr.take (Int.toNat 30) = w := ⟨_, rfl⟩
  have hwl : w.length ≤ 30 := by rw [← hw]; exact List.length_take_le _ _
  rw [hw]
  refine O_d dy_append ?_; rintro _ _ ⟨A10, c10, rfl, rfl⟩; refine O_n ?_
  obtain ⟨gs, N, hscan⟩ : ∃ gs N, scanF (all ++ w).length 0 (all ++ w) = (gs, N) := ⟨_, _, rfl⟩
  have hsf := scanF_frames x (all ++ w).length 0 w (fun y hy => by have := hxall y hy; omega) (by decide) (by omega) (by
    have := framesF_min x 0
    rw [hall] at this
    rw [List.length_append]; omega)
  rw [hall, hscan] at hsf
  obtain ⟨ys, M, hym⟩ : ∃ ys M, scanF ((all ++ w).length - x.length) (0 + x.length) w = (ys, M) := ⟨_, _, rfl⟩
  rw [hym] at hsf
  simp only [Prod.mk.injEq] at hsf
  obtain ⟨hg, hN⟩ := hsf
  have hgl := scanF_le (all ++ w).length 0 (all ++ w)
  have hgm := scanF_mem (all ++ w).length 0 (all ++ w)
  rw [hscan] at hgl hgm
  dsimp only at hgl hgm
  have hlen : (all ++ w).length = all.length + w.length := List.length_append
  have hgx : x.length ≤ gs.length := by rw [hg, List.length_append]; omega
  have hal0 : all.length ≤ N := by omega
  have hgt : gs.take x.length = x := by rw [hg, List.take_left]
  rw [← hlen]
  refine O_frz 1 ?_
  obtain ⟨b, hbd⟩ : ∃ b, all ++ w = b := ⟨_, rfl⟩
  rw [hbd] at hscan hgl hgm hlen ⊢
  clear hg hym
  repeat' (first | refine go ?_ | intro _ | (apply cG; first | refine cT ?_ | refine cF ?_ | refine cS (fun _ => ?_) fun _ => ?_) | (apply gW; refine sW ?_) | (apply gI; refine sI ?_) | (apply gE; refine sE ?_) | (apply gP; refine sP ?_) | (apply gC; refine sC ?_) | (apply gD; refine sD ?_) | fail)
  refine O_d (dy_call ArgsI.pf (by first | exact rfl | trivial | (intro a b; rfl)) (Scan_ct (b := b) (.tail _ (.head _)) (by omega) hscan)) ?_; rintro _ _ ⟨_, ⟨A11, c11, rfl, rfl⟩, rfl⟩; refine O_n ?_
  refine O_frz 0 ?_
  repeat' (first | refine go ?_ | intro _ | (apply cG; first | refine cT ?_ | refine cF ?_ | refine cS (fun _ => ?_) fun _ => ?_) | (apply gW; refine sW ?_) | (apply gI; refine sI ?_) | (apply gE; refine sE ?_) | (apply gP; refine sP ?_) | (apply gC; refine sC ?_) | (apply gD; refine sD ?_) | fail)
  refine O_d (dy_call ArgsI.pf (by first | exact rfl | trivial | (intro a b; rfl)) (fScan_ct (b := b) (.tail _ (.tail _ (.head _))) (by omega) hscan)) ?_; rintro _ _ ⟨_, ⟨A12, c12, rfl, rfl⟩, rfl⟩; refine O_n ?_
  refine O_frz 0 ?_
  repeat' (first | refine go ?_ | intro _ | (apply cG; first | refine cT ?_ | refine cF ?_ | refine cS (fun _ => ?_) fun _ => ?_) | (apply gW; refine sW ?_) | (apply gI; refine sI ?_) | (apply gE; refine sE ?_) | (apply gP; refine sP ?_) | (apply gC; refine sC ?_) | (apply gD; refine sD ?_) | fail)
  have hgl2 : ∀ y ∈ gs, y.length ≤ 10000000 := fun y hy => by have := hgm y hy; omega
  have hxl2 : ∀ y ∈ x, y.length ≤ 10000000 := fun y hy => by have := hxall y hy; omega
  refine O_d (dy_call ArgsI.pf (by first | exact rfl | trivial | (intro a b; rfl)) (SameLists_ct (la := gs) (lb := gs) (.tail _ (.head _)) (.head _) (by omega) (by omega) hgl2 hgl2 (q := true) (decide_eq_true rfl))) ?_; rintro _ _ ⟨_, ⟨rfl, hLL⟩, rfl⟩; replace hLL := hLL.symm; subst hLL; refine O_n ?_
  refine O_fact (fun w s => ((Src.sl (.inl (.tail _ (.head _))) s).form)) ?_
  rintro ⟨_, c13, he13, hc13⟩
  injection he13 with _ _ he13
  subst he13
  repeat' (first | refine go ?_ | intro _ | (apply cG; first | refine cT ?_ | refine cF ?_ | refine cS (fun _ => ?_) fun _ => ?_) | (apply gW; refine sW ?_) | (apply gI; refine sI ?_) | (apply gE; refine sE ?_) | (apply gP; refine sP ?_) | (apply gC; refine sC ?_) | (apply gD; refine sD ?_) | fail)
  rw [List.drop_zero, hgt]
  refine O_d (dy_call ArgsI.pf (by first | exact rfl | trivial | (intro a b; rfl)) (SameLists_ct (la := x) (lb := x) (.head _) (.tail _ (.tail _ (.tail _ (.tail _ (.tail _ (.head _)))))) (by omega) (by omega) hxl2 hxl2 (q := true) (decide_eq_true rfl))) ?_; rintro _ _ ⟨_, ⟨rfl, hLL⟩, rfl⟩; replace hLL := hLL.symm; subst hLL; refine O_n ?_
  repeat' (first | refine go ?_ | intro _ | (apply cG; first | refine cT ?_ | refine cF ?_ | refine cS (fun _ => ?_) fun _ => ?_) | (apply gW; refine sW ?_) | (apply gI; refine sI ?_) | (apply gE; refine sE ?_) | (apply gP; refine sP ?_) | (apply gC; refine sC ?_) | (apply gD; refine sD ?_) | fail)
  refine O_d (dy_call ArgsI.pf (by first | exact rfl | trivial | (intro a b; rfl)) (lives_ct)) ?_; rintro _ _ ⟨_, ⟨rfl, hLL⟩, rfl⟩; replace hLL := hLL.symm; subst hLL; refine O_n ?_
  repeat' (first | refine go ?_ | intro _ | (apply cG; first | refine cT ?_ | refine cF ?_ | refine cS (fun _ => ?_) fun _ => ?_) | (apply gW; refine sW ?_) | (apply gI; refine sI ?_) | (apply gE; refine sE ?_) | (apply gP; refine sP ?_) | (apply gC; refine sC ?_) | (apply gD; refine sD ?_) | fail)
  refine E_res1 (by rfl) (by rfl) ⟨rfl, rfl⟩ Sb
theorem JournalFrames_any {v vb vr : Value} {li : List Int} {lb lr : List UInt8} {num : Int} {w : World} (s : St w w [rd eI v li, rd eB vb lb, rd eB vr lr]) (hl : li.length ≤ 9223372036854775807) (hr : ∀ n ∈ li, -9223372036854775808 ≤ n ∧ n ≤ 9223372036854775807) (hn1 : -9223372036854775808 ≤ num) (hn2 : num ≤ 9223372036854775807)
    (hbl : lb.length ≤ 9223372036854775807) (hrl : lr.length ≤ 9223372036854775807) :
    Calls Try.prog 5 #[v, .int .i64 num, vb, vr] w fun e w' => e = .returned (.bool true) ∧ Below w.heap.size w w' :=
  ((JournalFrames_ct (W0 := w) (.head _) hl hr hn1 hn2 (.tail _ (.head _)) hbl (.tail _ (.tail _ (.head _))) hrl).run w s).mono fun e w' h => by
    obtain ⟨v, L', rfl, ⟨rfl, rfl⟩, s⟩ := h
    exact ⟨rfl, s.below⟩
end
end Go.Proofs.Ytbjaecofccpahaa
namespace Go.Proofs.Ytbjaecofccpahaa
open Go Go.RowKit
set_option linter.unusedVariables false
set_option linter.unusedSimpArgs false
section
variable {P : Program} {ops : Array Oper} {Q : Exit → Act → World → Prop} {rest : List Oper} {o : Oper} {a : Act} {W0 w : World} {L : List HP}
/-- An iterator's promise: it hands over one by one, each that nx lets come behind those before, and at the end fin holds of all. E: what it needs, and leaves. -/
def GivesP {β κ : Type} (P : Program) (gf : FuncId) (lb : Array Value) (arg : β → κ → Array Value) (hs : β → κ → List HP) (nx : List β → β → Prop) (fin : List β → Prop) (E : List HP) : Prop :=
  ∀ (l : Nat) (W0 : World) (J : List β → HP),
    (∀ pre y k W E1, nx pre y → St W0 W (hs y k ++ (J pre :: E1)) → Yields P l (arg y k) W fun e W' => e = .returned (.bool true) ∧ St W0 W' (J (pre ++ [y]) :: E1)) →
    CT P gf (#[.func (.yield l) #[] #[]] ++ lb) W0 (J [] :: E) fun r L' => ∃ ys, fin ys ∧ L' = J ys :: E
theorem C_rangeP {β κ : Type} {g : Operand} {ps : Array Tmp} {assign body : Code} {gf : FuncId} {lb : Array Value} (hg : a.eval g = .func (.func gf) #[] lb) (eg : Enters P gf)
    {arg : β → κ → Array Value} {hs : β → κ → List HP} {nx : List β → β → Prop} {fin : List β → Prop} {E : List HP} (hit : GivesP P gf lb arg hs nx fin E) (hps : ∀ y k, (arg y k).size = ps.size) (I : List β → List HP) (hL : Sub L (I [] ++ E))
    (hbody : ∀ (l D : Nat) (rec : Obj) (pre : List β) (y : β) (k : κ), nx pre y →
      ∃ a₁, (∀ W K, K a₁ W → assign.wpIn (Fr (some l)) 0 P (Exit.then K (fun _ _ _ => False)) { tmps := (ps.zip (arg y k)).foldl (fun t (p, v) => t.setIfInBounds p v) a.tmps, defers := [] } W) ∧
      ∀ W E, St W0 W (blk l rec :: blk D (.deferred (some [])) :: (I pre ++ (hs y k ++ E))) → body.wpIn (Fr (some l)) 0 P (fun e _ W' => e = .normal ∧ St W0 W' (blk l rec :: blk D (.deferred (some [])) :: (I (pre ++ [y]) ++ E))) a₁ W)
    (hdone : ∀ (D : Nat) (ys : List β), fin ys → EL W0 (blk D (.deferred (some [])) :: (I ys ++ E)) Q .normal { a with defers := { target := .collected D, args := #[] } :: a.defers }) :
    CL P W0 L (Code.rangeFunc g ps assign body) Q a := by
  refine ⟨fun w hS0 => ?_⟩
  have hS := hL.st hS0
  clear hS0
  refine (wpIn_wide (n := 0)).1 (wpIn_rangeFunc ?_)
  intro fn _
  obtain ⟨rec, hrec⟩ : ∃ rec : LoopState → Option Code → Loop, rec = fun st pe => { state := st, pending := pe, fn, tmps := a.tmps, params := ps, assign, body, defers := w.heap.size } := ⟨_, rfl⟩
  have hS1 := (hS.alloc (.deferred (some []))).alloc (.loop (rec .ready none))
  rw [World.size_alloc] at hS1
  generalize hl : w.heap.size + 1 = l at hS1
  generalize hD : w.heap.size = D at hS1 hl hrec
  have henter := run_enterLoop_outer (P := P) (w := w) fn a.tmps ps assign body
  rw [hD] at henter
  rw [hl] at henter
  have hr1 : (rec .ready none) = { state := .ready, pending := none, fn, tmps := a.tmps, params := ps, assign, body, defers := D } := by rw [hrec]
  rw [← hr1] at henter
  generalize hw1 : (w.alloc (.deferred (some []))).alloc (.loop (rec .ready none)) = w1 at henter hS1
  refine ⟨l, [{ target := .collected D, args := #[] }], w1, { target := .fn (.func gf) lb, args := #[.func (.yield l) #[] #[]] }, w1, gf,
    #[.func (.yield l) #[] #[]] ++ lb, w1, henter, ?_, fun _ _ => trivial, ?_, (fun hn => (by cases hn)), ?_⟩
  · simp only [resolve, hg]
    simp [go_sem]
  · exact eg _ _
  · have hJ : St W0 w1 (sp (blk l (.loop (rec .ready none)) :: blk D (.deferred (some [])) :: I []) :: E) := St.close_ (L := blk l (.loop (rec .ready none)) :: blk D (.deferred (some [])) :: I []) hS1
    refine callsIn_wide.2 (Calls.mono ((hit l W0 (fun pre => sp (blk l (.loop (rec .ready none)) :: blk D (.deferred (some [])) :: I pre)) ?_).run w1 hJ) ?_)
    · intro pre y k W E1 hx hW0
      have hW : St W0 W (blk l (.loop (rec .ready none)) :: blk D (.deferred (some [])) :: (I pre ++ (hs y k ++ E1))) := (hW0.perm List.perm_middle).open_
      clear hW0
      have hblk : W.heap[l]? = some (.loop (rec .ready none)) := St.blk_ hW
      have hrp : (rec .ready none).params = ps := by rw [hrec]
      refine ⟨fn, (ps.zip (arg y k)).foldl (fun t (p, v) => t.setIfInBounds p v) a.tmps, assign, body, ?_, ?_⟩
      · have := run_yield (P := P) (args := arg y k) hblk (by rw [hrp]; exact hps y k)
        rw [this, hrec]
      · refine roundIn_of_wpIn trivial ?_
        obtain ⟨a₁, has, hb⟩ := hbody l D (.loop (rec .busy none)) pre y k hx
        refine has W _ ?_
        refine ⟨W.putObj l (.loop (rec .busy none)), ?_, ?_⟩
        · have := run_beginRound (P := P) hblk (by rw [hrec])
          rw [this, hrec]
        · refine wpIn_mono (hb _ E1 (St.putObj hW)) ?_
          rintro e a' W' ⟨rfl, hW'⟩
          have hblk' : W'.heap[l]? = some (.loop (rec .busy none)) := St.blk_ hW'
          refine ⟨_, _, run_endRound (P := P) none hblk', rfl, ?_⟩
          have h2 := St.putObj (o' := .loop (rec .ready none)) hW'
          have h3 : St W0 (W'.putObj l (.loop (rec .ready none))) (sp (blk l (.loop (rec .ready none)) :: blk D (.deferred (some [])) :: I (pre ++ [y])) :: E1) := St.close_ (L := blk l (.loop (rec .ready none)) :: blk D (.deferred (some [])) :: I (pre ++ [y])) h2
          rw [hrec] at h3 ⊢
          exact h3
    · rintro e W' ⟨v, L', rfl, ⟨ys, hfin, rfl⟩, hW0⟩
      have hW' : St W0 W' (blk l (.loop (rec .ready none)) :: blk D (.deferred (some [])) :: (I ys ++ E)) := hW0.open_
      have hblk' : W'.heap[l]? = some (.loop (rec .ready none)) := St.blk_ hW'
      refine ⟨none, W'.putObj l (.loop { rec .ready none with state := .exhausted }), ?_, ?_⟩
      · rw [run_endLoop (P := P) hblk' (by rw [hrec]; simp), hrec]
      · exact (hdone D ys hfin).run _ (St.drop (St.putObj hW'))
/-- 'if !yield(x)': the region of the call -/
theorem C_yield1 {id : Nat} {d1 d2 d4 d5 : Tmp} {f x : Operand} {t1 t2 t4 t5 u5 : TypeId} {p1 p2 p4 p5 : String} {q1 q2 q4 q5 : Array Edge} {ats : Array TypeId} {l : Nat} {v1 w1 w2 : Value} {L' : List HP} {a1 a2 a4 a5 : Act}
    (e1 : a.eval f = w1) (h1 : a.put (some d1) w1 = a1) (e2 : a1.eval x = w2) (h2 : a1.put (some d2) w2 = a2) (h4 : a2.put (some d4) (.bool true) = a4) (h5 : a4.put (some d5) (.bool false) = a5)
    (hF : a2.eval (.tmp d1) = .func (.yield l) #[] #[]) (hX : a2.eval (.tmp d2) = v1) (hB : a4.eval (.tmp d4) = .bool true)
    (hy : ∀ w, St W0 w L → Yields P l #[v1] w fun e w' => e = .returned (.bool true) ∧ St W0 w' L')
    (k : EL W0 L' Q .normal a5) :
    CL P W0 L (Code.region id #[⟨some d1, .move f, t1, p1, q1, none⟩, ⟨some d2, .move x, t2, p2, q2, none⟩, ⟨some d4, .call { callee := .value (.tmp d1), args := #[.tmp d2], argTypes := ats }, t4, p4, q4, none⟩, ⟨some d5, .unOp .not u5 (.tmp d4), t5, p5, q5, none⟩] false) Q a := by
  refine ⟨fun w hS => ?_⟩
  subst h1 h2 h4 h5
  subst e1 e2
  refine (wpIn_wide (n := 0)).1 (wpIn_region_lit ?_)
  refine wlIn_move (wlIn_move (wlIn_yield (l := l) (args := #[v1]) (R := fun e w' => e = .returned (.bool true) ∧ St W0 w' L') rfl rfl hF (by rw [← hX]; simp only [List.map_toArray, List.map_cons, List.map_nil]) (hy w hS) (fun e w' h => ⟨_, h.1⟩) ?_))
  rintro v' w' ⟨hv, h⟩
  injection hv with hv
  subst hv
  exact wlIn_not (b := true) hB (wpListIn_nil (k.run w' h))
end
end Go.Proofs.Ytbjaecofccpahaa
namespace Go.Proofs
open Go.RowKit Go.Sort Go.Shelf
def Try.sortL_ren : Go.Shelf.Ren := ⟨fun | 5 => 76 | 8 => 88 | 7 => 87 | 19 => 99 | 20 => 100 | 10 => 90 | 11 => 91 | 12 => 92 | 13 => 93 | 14 => 94 | 15 => 95 | 16 => 96 | 17 => 97 | 18 => 98 | 30 => 101 | 31 => 102 | 32 => 103 | 33 => 104 | 34 => 105 | 35 => 106 | 40 => 107 | n => n, fun | 23 => 22 | 25 => 3 | 3 => 3 | 32 => 54 | 22 => 22 | 0 => 0 | 44 => 129 | 46 => 53 | 4 => 4 | 36 => 121 | 35 => 120 | 41 => 126 | 5 => 5 | 9 => 9 | 53 => 130 | 57 => 133 | 63 => 135 | 64 => 136 | n => n, fun | n => n⟩
theorem Try.sortL : Go.Proofs.SlLaysM.n5 Try.prog Try.sortL_ren := {
  mixed := by kernel_rfl
  f5 := ⟨Try.f76.name, by decide, Try.func76.trans (congrArg some (by kernel_rfl))⟩
  f7 := ⟨Try.f87.name, by decide, Try.func87.trans (congrArg some (by kernel_rfl))⟩
  f8 := Try.func88.trans (congrArg some (by kernel_rfl))
  f10 := ⟨Try.f90.name, by decide, Try.func90.trans (congrArg some (by kernel_rfl))⟩
  f11 := ⟨Try.f91.name, by decide, Try.func91.trans (congrArg some (by kernel_rfl))⟩
  f12 := ⟨Try.f92.name, by decide, Try.func92.trans (congrArg some (by kernel_rfl))⟩
  f13 := ⟨Try.f93.name, by decide, Try.func93.trans (congrArg some (by kernel_rfl))⟩
  f14 := ⟨Try.f94.name, by decide, Try.func94.trans (congrArg some (by kernel_rfl))⟩
  f15 := ⟨Try.f95.name, by decide, Try.func95.trans (congrArg some (by kernel_rfl))⟩
  f16 := ⟨Try.f96.name, by decide, Try.func96.trans (congrArg some (by kernel_rfl))⟩
  f17 := ⟨Try.f97.name, by decide, Try.func97.trans (congrArg some (by kernel_rfl))⟩
  f18 := ⟨Try.f98.name, by decide, Try.func98.trans (congrArg some (by kernel_rfl))⟩
  f19 := Try.func99.trans (congrArg some (by kernel_rfl))
  f20 := Try.func100.trans (congrArg some (by kernel_rfl))
  f30 := ⟨Try.f101.name, by decide, Try.func101.trans (congrArg some (by kernel_rfl))⟩
  f31 := Try.func102.trans (congrArg some (by kernel_rfl))
  f32 := Try.func103.trans (congrArg some (by kernel_rfl))
  f33 := ⟨Try.f104.name, by decide, Try.func104.trans (congrArg some (by kernel_rfl))⟩
  f34 := ⟨Try.f105.name, by decide, Try.func105.trans (congrArg some (by kernel_rfl))⟩
  f35 := ⟨Try.f106.name, by decide, Try.func106.trans (congrArg some (by kernel_rfl))⟩
  f40 := ⟨Try.f107.name, by decide, Try.func107.trans (congrArg some (by kernel_rfl))⟩
  t0 := Try.underlying0
  a0 := Try.isAgg0
  z0 := Try.sizeOf0
  v0 := Try.zeroValue0
  t3 := Try.underlying3
  a3 := Try.isAgg3
  z3 := Try.sizeOf3
  v3 := Try.zeroValue3
  t4 := Try.underlying4
  a4 := Try.isAgg4
  z4 := Try.sizeOf4
  v4 := Try.zeroValue4
  t5 := Try.underlying5
  a5 := Try.isAgg5
  z5 := Try.sizeOf5
  v5 := Try.zeroValue5
  t9 := Try.underlying9
  a9 := Try.isAgg9
  z9 := Try.sizeOf9
  v9 := Try.zeroValue9
  t22 := Try.underlying22
  a22 := Try.isAgg22
  z22 := Try.sizeOf22
  v22 := Try.zeroValue22
  t23 := Try.underlying22
  a23 := Try.isAgg22
  z23 := Try.sizeOf22
  v23 := Try.zeroValue22
  t25 := Try.underlying3
  a25 := Try.isAgg3
  z25 := Try.sizeOf3
  v25 := Try.zeroValue3
  t32 := Try.underlying54
  a32 := Try.isAgg54
  z32 := Try.sizeOf54
  v32 := Try.zeroValue54
  t35 := Try.underlying120
  a35 := Try.isAgg120
  z35 := Try.sizeOf120
  v35 := Try.zeroValue120
  t36 := Try.underlying121
  a36 := Try.isAgg121
  z36 := Try.sizeOf121
  v36 := Try.zeroValue121
  t41 := Try.underlying126
  a41 := Try.isAgg126
  z41 := Try.sizeOf126
  v41 := Try.zeroValue126
  t44 := Try.underlying129
  a44 := Try.isAgg129
  z44 := Try.sizeOf129
  v44 := Try.zeroValue129
  t46 := Try.underlying53
  a46 := Try.isAgg53
  z46 := Try.sizeOf53
  v46 := Try.zeroValue53
  t53 := Try.underlying130
  a53 := Try.isAgg130
  z53 := Try.sizeOf130
  v53 := Try.zeroValue130
  t57 := Try.underlying133
  a57 := Try.isAgg133
  z57 := Try.sizeOf133
  v57 := Try.zeroValue133
  t63 := Try.underlying135
  a63 := Try.isAgg135
  z63 := Try.sizeOf135
  v63 := Try.zeroValue135
  t64 := Try.underlying136
  a64 := Try.isAgg136
  z64 := Try.sizeOf136
  v64 := Try.zeroValue136 }
end Go.Proofs
namespace Go.Proofs.Ytbjaecofccpahaa
open Go Go.RowKit
set_option linter.unusedVariables false
set_option linter.unusedSimpArgs false
theorem putCells_get {enc : Int → Value} {d : Array Int} {c : Array Value} {k : Nat} : (Sort.putCells enc 0 d c)[k]? = (c[k]?).map fun x => if k < d.size then enc d[k]! else x := by
  unfold Sort.putCells
  rw [Array.getElem?_mapIdx]
  simp
theorem heap_putRow {enc : Int → Value} {w : World} {g off : Nat} {d : Array Int} {k : Nat} : (Sort.putRow enc w g off d).heap[k]? = if g = k then (w.heap[k]?).map (Sort.onCells (Sort.putCells enc off d)) else w.heap[k]? := by
  unfold Sort.putRow Sort.mapBlock
  rw [Array.getElem?_modify]
section
variable {W0 : World} {L : List HP}
theorem Sort_ct {A : Option Addr} {c : Nat} {l : List Int} (hl : l.length ≤ 1000000) :
    CT Try.prog 76 #[.slice A l.length c] W0 (own 3 eI (.slice A l.length c) l :: L) fun r L' => ∃ l', l'.Perm l ∧ l'.Pairwise (· ≤ ·) ∧ r = .tuple #[] ∧ L' = own 3 eI (.slice A l.length c) l' :: L := by
  by_cases h0 : l = []
  · subst h0
    refine ⟨fun w s => ?_⟩
    refine (AnyM.slices_Sort_int_none Try.sortL A c w).mono fun e w' ⟨he, hw⟩ => ?_
    subst he hw
    exact ⟨_, _, rfl, ⟨[], List.Perm.refl _, List.Pairwise.nil, rfl, rfl⟩, s⟩
  · refine ⟨fun w s => ?_⟩
    have s0 := s
    obtain ⟨_, _, _, _, m, h, _, hw, hh, _, a, b, _, ha, _, ⟨css, hall, hd⟩, _⟩ := s0
    rcases hd with ⟨_, e⟩ | ⟨g, cap, cur, hv, hg, hc, hcm, hcs, ht⟩
    · exact absurd e h0
    injection hv with e1 e2 e3
    subst e1 e3
    have hcur : w.heap[g]? = some (.cells cur 3 (0, 0)) := hh _ _ (ha _ _ hg)
    have hcss : css = l.map fun x => [Value.int .i64 x] := all2_e1.1 hall
    rw [hcss, flat_one] at ht
    have hsz1 : (1 : Nat) = eI.sz := rfl
    rw [← hsz1, Nat.mul_one] at ht hcs
    have hget : ∀ j, j < l.length → cur[j]? = some (.int .i64 l[j]!) := fun j hj => by
      have h2 := congrArg (fun q => q[j]?) ht
      simp only [List.getElem?_take, if_pos hj, List.getElem?_map] at h2
      rw [List.getElem?_eq_getElem hj] at h2
      rw [getElem!_pos l j hj]
      simpa using h2
    have hH : Sort.Holds (Value.int .i64) w g 0 l.toArray := fun j hj => by
      have hj2 : j < l.length := by simpa using hj
      refine ⟨?_, ?_⟩
      · simp only [World.cell?, hcur, Nat.zero_add]
        rw [hget j hj2]
        simp
      · simp [World.frozen?, hcur]
    refine (AnyM.slices_Sort_int Try.sortL g 0 c l w hH (Hp.of_lt hcur) (by omega)).mono fun e w' ⟨he, n, os, hw'⟩ => ?_
    subst he
    obtain ⟨l', hl'⟩ : ∃ l', (l.mergeSort fun x y => decide (x ≤ y)) = l' := ⟨_, rfl⟩
    rw [hl'] at hw'
    have hp : l'.Perm l := by rw [← hl']; exact List.mergeSort_perm _ _
    have hso : l'.Pairwise (· ≤ ·) := by
      rw [← hl']
      have := List.pairwise_mergeSort (le := fun x y : Int => decide (x ≤ y)) (fun a b c h1 h2 => by simp only [decide_eq_true_eq] at *; omega) (fun a b => by simp only [Bool.or_eq_true, decide_eq_true_eq]; omega) l
      exact this.imp fun h => by simpa using h
    have hll := hp.length_eq
    refine ⟨_, _, rfl, ⟨l', hp, hso, rfl, rfl⟩, ?_⟩
    have hkeep : ∀ k, k < w.heap.size → w'.heap[k]? = if g = k then some (.cells (Sort.putCells (Value.int .i64) 0 l'.toArray cur) 3 (0, 0)) else w.heap[k]? := fun k hk => by
      rw [hw', Sort.heap_grow_old _ _ (by simpa using hk), heap_putRow]
      split
      · rename_i e
        subst e
        show (w.heap[g]?).map _ = _
        rw [hcur]
        rfl
      · rfl
    refine s.turn (by rw [hw']; rfl) (by rw [hw']; rfl) (by rw [hw']; rfl) (by rw [hw']; simp) fun m2 a2 hA2 hm2 ha2 _ => ?_
    obtain ⟨css2, hall2, hd2⟩ := hA2
    rcases hd2 with ⟨_, e⟩ | ⟨g2, cap2, cur2, hv2, hg2, _⟩
    · exact absurd e h0
    injection hv2 with e1 e2 e3
    injection e1 with e1
    injection e1 with e1
    subst e1
    have hgk : g < w.heap.size := Hp.of_lt hcur
    refine ⟨Hp.one g (.cells (Sort.putCells (Value.int .i64) 0 l'.toArray cur) 3 (0, 0)), ⟨l'.map fun x => [Value.int .i64 x], all2_e1.2 rfl, .inr ⟨g, c, Sort.putCells (Value.int .i64) 0 l'.toArray cur, by rw [hll], by simp [Hp.one], by omega, hcm, ?_, ?_⟩⟩, ?_, ?_⟩
    · rw [← hsz1, Nat.mul_one, ← hcs]
      unfold Sort.putCells
      simp
    · rw [← hsz1, Nat.mul_one, flat_one]
      apply List.ext_getElem?
      intro j
      rw [List.getElem?_take, List.getElem?_map]
      by_cases hj : j < l'.length
      · rw [if_pos hj, List.getElem?_eq_getElem hj]
        have hj2 : j < l.length := by omega
        have := putCells_get (enc := Value.int .i64) (d := l'.toArray) (c := cur) (k := j)
        rw [hget j hj2] at this
        simp only [Option.map_some, List.size_toArray, if_pos hj] at this
        simpa [hj] using this
      · rw [if_neg hj, List.getElem?_eq_none (by omega)]
        rfl
    · intro k o e
      unfold Hp.one at e
      split at e
      · rename_i hk
        cases e
        have := hkeep k (by rw [hk]; exact hgk)
        rw [if_pos hk.symm] at this
        exact this
      · cases e
    · intro k hk hn
      have hne : g ≠ k := by
        rintro rfl
        rw [hg2] at hn
        cases hn
      refine ⟨by rw [hkeep k hk, if_neg hne], ?_⟩
      unfold Hp.one
      rw [if_neg (fun h => hne h.symm)]
end
end Go.Proofs.Ytbjaecofccpahaa
