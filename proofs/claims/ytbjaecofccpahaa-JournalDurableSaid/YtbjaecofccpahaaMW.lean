/-
  Walks: JournalFrames.
-/
import Derived.Test.YtbjaecofccpahaaMV
import Derived.Test.YtbjaecofccpahaaMU
namespace Go.Proofs.Ytbjaecofccpahaa
open Go Go.RowKit
set_option linter.unusedVariables false
set_option linter.unusedSimpArgs false
set_option maxRecDepth 20000
set_option synthInstance.maxSize 100000
set_option synthInstance.maxHeartbeats 400000
instance {α : Type} {R : Enc α} : Sz (eSl R) 1 := ⟨rfl⟩
theorem framesF_snoc (xs : List (List UInt8)) : ∀ (i : Int) (x : List UInt8), framesF i (xs ++ [x]) = framesF i xs ++ frameF (i + xs.length) x := by
  induction xs with
  | nil =>
    intro i x
    show frameF i x ++ [] = [] ++ frameF (i + ((0 : Nat) : Int)) x
    rw [List.append_nil, List.nil_append, show i + ((0 : Nat) : Int) = i from by omega]
  | cons y r ih =>
    intro i x
    have e : i + 1 + (r.length : Int) = i + (((y :: r).length : Nat) : Int) := by rw [List.length_cons]; push_cast; omega
    show frameF i y ++ framesF (i + 1) (r ++ [x]) = frameF i y ++ framesF (i + 1) r ++ frameF (i + (((y :: r).length : Nat) : Int)) x
    rw [ih (i + 1) x, e, List.append_assoc]
theorem framesF_len {m : Nat} : ∀ (xs : List (List UInt8)) (i : Int), (∀ x ∈ xs, x.length ≤ m) → m ≤ 1000000 → -9223372036854775808 ≤ i → i + xs.length ≤ 9223372036854775807 → (framesF i xs).length ≤ xs.length * (m + 40)
  | [], i, _, _, _, _ => by simp [framesF]
  | x :: r, i, h, hm, h1, h2 => by
    have hx := h x (.head _)
    simp only [List.length_cons] at h2
    push_cast at h2
    have hf := frameF_len (i := i) (x := x) h1 (by omega) (by omega)
    have ih := framesF_len r (i + 1) (fun y hy => h y (.tail _ hy)) hm (by omega) (by omega)
    simp only [framesF, List.length_append, List.length_cons, Nat.add_mul, Nat.one_mul]
    omega
theorem scanF_mem : ∀ (n : Nat) (i : Int) (b : List UInt8), ∀ x ∈ (scanF n i b).1, x.length ≤ b.length
  | 0, _, _, x, hx => by cases hx
  | n + 1, i, b, x, hx => by
    rw [scanF] at hx
    split at hx
    · cases hx
    · split at hx
      · rcases List.mem_cons.1 hx with rfl | hx
        · exact recF_len b
        · have := scanF_mem n (i + 1) (b.drop (frameF i (recF b)).length) x hx
          rw [List.length_drop] at this
          omega
      · cases hx
theorem framesF_min : ∀ (xs : List (List UInt8)) (i : Int), xs.length ≤ (framesF i xs).length
  | [], _ => Nat.zero_le _
  | x :: r, i => by
    have h1 := frameF_min i x
    have h2 := framesF_min r (i + 1)
    simp only [framesF, List.length_append, List.length_cons]
    omega
section
variable {W0 : World} {L : List HP}
theorem JournalFrames_ct {v vb vr : Value} {li : List Int} {lb lr : List UInt8} {num : Int} (hv : rd eI v li ∈ L) (hl : li.length ≤ 9223372036854775807) (hr : ∀ n ∈ li, -9223372036854775808 ≤ n ∧ n ≤ 9223372036854775807) (hn1 : -9223372036854775808 ≤ num) (hn2 : num ≤ 9223372036854775807)
    (hb : rd eB vb lb ∈ L) (hbl : lb.length ≤ 9223372036854775807) (hrest : rd eB vr lr ∈ L) (hrl : lr.length ≤ 9223372036854775807) :
    CT Try.prog 5 #[v, .int .i64 num, vb, vr] W0 L fun r L' => r = .bool true ∧ L' = L := by
  refine CT_enter Try.func5 rfl ?_; (simp only [Try.ntmps5, List.size_toArray, List.length_cons, List.length_nil, Nat.reduceAdd, Nat.reduceSub, Array.replicate_succ, Array.replicate_zero, List.push_toArray, List.append_toArray, List.nil_append, List.cons_append])
  repeat' (first | refine go ?_ | intro _ | (apply cG; first | refine cT ?_ | refine cF ?_ | refine cS (fun _ => ?_) fun _ => ?_) | (apply gW; refine sW ?_) | (apply gI; refine sI ?_) | (apply gE; refine sE ?_) | (apply gP; refine sP ?_) | (apply gC; refine sC ?_) | (apply gD; refine sD ?_) | fail)
  refine O_d (dy_call ArgsI.pf (by first | exact rfl | trivial | (intro a b; rfl)) (Few_ct hb hbl (most := 200) (by decide) (by decide))) ?_; rintro _ _ ⟨_, ⟨A1, c1, rfl, rfl⟩, rfl⟩; refine O_n ?_
  obtain ⟨o, ho⟩ : ∃ o, lb.take (Int.toNat 200) = o := ⟨_, rfl⟩
  have hol : o.length ≤ 200 := by rw [← ho]; exact List.length_take_le _ _
  rw [ho]
  refine O_frz 0 ?_
  repeat' (first | refine go ?_ | intro _ | (apply cG; first | refine cT ?_ | refine cF ?_ | refine cS (fun _ => ?_) fun _ => ?_) | (apply gW; refine sW ?_) | (apply gI; refine sI ?_) | (apply gE; refine sE ?_) | (apply gP; refine sP ?_) | (apply gC; refine sC ?_) | (apply gD; refine sD ?_) | fail)
  refine O_d (dy_call ArgsI.pf (by first | exact rfl | trivial | (intro a b; rfl)) (Frame_ct (i := num) (x := o) Sc.pf hn1 hn2 (by omega))) ?_; rintro _ _ ⟨_, ⟨A2, c2, rfl, rfl⟩, rfl⟩; refine O_n ?_
  repeat' (first | refine go ?_ | intro _ | (apply cG; first | refine cT ?_ | refine cF ?_ | refine cS (fun _ => ?_) fun _ => ?_) | (apply gW; refine sW ?_) | (apply gI; refine sI ?_) | (apply gE; refine sE ?_) | (apply gP; refine sP ?_) | (apply gC; refine sC ?_) | (apply gD; refine sD ?_) | fail)
  refine O_d (dy_call ArgsI.pf (by first | exact rfl | trivial | (intro a b; rfl)) (fFrame_ct (i := num) (x := o) Sc.pf hn1 hn2 (by omega))) ?_; rintro _ _ ⟨_, ⟨A3, c3, rfl, rfl⟩, rfl⟩; refine O_n ?_
  have hfl := frameF_len (i := num) (x := o) hn1 hn2 (by omega)
  refine O_d (dy_call ArgsI.pf (by first | exact rfl | trivial | (intro a b; rfl)) (SameBytes_ct (la := frameF num o) (lb := frameF num o) Sc.pf Sc.pf (by omega) (by omega) (q := true) (decide_eq_true rfl))) ?_; rintro _ _ ⟨_, ⟨rfl, hLL⟩, rfl⟩; replace hLL := hLL.symm; subst hLL; refine O_n ?_
  repeat' (first | refine go ?_ | intro _ | (apply cG; first | refine cT ?_ | refine cF ?_ | refine cS (fun _ => ?_) fun _ => ?_) | (apply gW; refine sW ?_) | (apply gI; refine sI ?_) | (apply gE; refine sE ?_) | (apply gP; refine sP ?_) | (apply gC; refine sC ?_) | (apply gD; refine sD ?_) | fail)
  refine O_d (dy_call ArgsI.pf (by first | exact rfl | trivial | (intro a b; rfl)) (Records_ct (.tail _ (.tail _ (.tail _ hv))) hl hr)) ?_; rintro _ _ ⟨_, ⟨A4, c4, xs, rfl, rfl, hxs, hx6⟩, rfl⟩; refine O_n ?_
  repeat' (first | refine go ?_ | intro _ | (apply cG; first | refine cT ?_ | refine cF ?_ | refine cS (fun _ => ?_) fun _ => ?_) | (apply gW; refine sW ?_) | (apply gI; refine sI ?_) | (apply gE; refine sE ?_) | (apply gP; refine sP ?_) | (apply gC; refine sC ?_) | (apply gD; refine sD ?_) | fail)
  refine O_d (dy_litS (R := eSl eB) [o] [.slice A1 o.length c1] (by rfl) (fun m h hs => ⟨⟨_, rfl, rd_mem hs (by repeat (first | exact .head _ | refine .tail _ ?_))⟩, trivial⟩)) ?_; rintro _ _ ⟨_, rfl, rfl⟩; refine O_n ?_
  refine O_d dy_append ?_; rintro _ _ ⟨A5, c5, rfl, rfl⟩; refine O_n ?_
  have hxo : xs.length + 1 = (xs ++ [o]).length := by rw [List.length_append]; rfl
  rw [hxo]
  obtain ⟨x, hx⟩ : ∃ x, xs ++ [o] = x := ⟨_, rfl⟩
  rw [hx] at hxo ⊢
  have hxall : ∀ y ∈ x, y.length ≤ 200 := by
    intro y hy
    rw [← hx] at hy
    rcases List.mem_append.1 hy with hy | hy
    · have := hxs y hy; omega
    · simp only [List.mem_cons, List.not_mem_nil, or_false] at hy
      subst hy
      exact hol
  have hx7 : x.length ≤ 7 := by omega
  refine O_frz 1 ?_
  repeat' (first | refine go ?_ | intro _ | (apply cG; first | refine cT ?_ | refine cF ?_ | refine cS (fun _ => ?_) fun _ => ?_) | (apply gW; refine sW ?_) | (apply gI; refine sI ?_) | (apply gE; refine sE ?_) | (apply gP; refine sP ?_) | (apply gC; refine sC ?_) | (apply gD; refine sD ?_) | fail)
  refine C_sub (S := rd (eSl eB) (.slice A5 x.length c5) x :: L) Sb ?_
  refine C_ownnil 5 eB ?_
  refine C_loopS (κ := Nat × Value) [false, false, false, false, false, false, false, false, false, false, false, true, true, false, false, false, false, false, false, false, false, false, false, false, false, false, false, false, false, false, false, false, false, true, true, true, true, true, true, true, true, true, true, true, true, true, true, false, false, false, false, false, false, false, false, false, false, false, false, false, false, false, false, false, false, false, false, false, false, false, false, false, false, false, false, false, false, false, false, false, false, false, false, false, false, false, false, false, false, false, false, false, false, false] (fun k => [(11, k.2), (12, .int .i64 (k.1 : Int))]) (fun k => [(0, own 5 eB k.2 (framesF 0 (x.take k.1)))]) (fun k => k.1 ≤ x.length ∧ ∃ A c, k.2 = .slice A (framesF 0 (x.take k.1)).length c) (fun k => x.length - k.1) (0, .slice none 0 0) ⟨Nat.zero_le _, none, 0, rfl⟩ ⟨rfl, rfl, trivial⟩ ?_
  rintro ⟨i, va⟩ u ⟨hi, A6, c6, hva⟩
  dsimp only at hi hva
  subst hva
  have hfl2 := framesF_len (m := 200) (x.take i) 0 (fun y hy => hxall y (List.mem_of_mem_take hy)) (by decide) (by decide) (by rw [List.length_take]; omega)
  rw [List.length_take] at hfl2
  ((try dsimp only); refine C_n ?_; (try simp only [Nat.reduceAdd, Nat.zero_add]))
  by_cases hlt : i < x.length
  · obtain ⟨y, hy⟩ : ∃ y, x[i]? = some y := ⟨_, List.getElem?_eq_getElem hlt⟩
    have hay : At x i y := ⟨hy⟩
    have hyl := hxall y (List.mem_of_getElem? hy)
    have hnext : framesF 0 (x.take (i + 1)) = framesF 0 (x.take i) ++ frameF (i : Int) y := by
      have : x.take (i + 1) = x.take i ++ [y] := by rw [List.take_add_one, hy]; rfl
      rw [this, framesF_snoc, List.length_take, Nat.min_eq_left hi, Int.zero_add]
    have hfy := frameF_len (i := (i : Int)) (x := y) (by omega) (by omega) (by omega)
    repeat' (first | refine go ?_ | intro _ | (apply cG; first | refine cT ?_ | refine cF ?_ | refine cS (fun _ => ?_) fun _ => ?_) | (apply gW; refine sW ?_) | (apply gI; refine sI ?_) | (apply gE; refine sE ?_) | (apply gP; refine sP ?_) | (apply gC; refine sC ?_) | (apply gD; refine sD ?_) | fail)
    refine O_d (dy_call ArgsI.pf (by first | exact rfl | trivial | (intro a b; rfl)) (Frame_ct (i := (i : Int)) (x := y) (.inl (.head _)) (by omega) (by omega) (by omega))) ?_; rintro _ _ ⟨_, ⟨A7, c7, rfl, rfl⟩, rfl⟩; refine O_n ?_
    refine O_d dy_append ?_; rintro _ _ ⟨A8, c8, rfl, rfl⟩; refine O_n ?_
    repeat' (first | refine go ?_ | intro _ | (apply cG; first | refine cT ?_ | refine cF ?_ | refine cS (fun _ => ?_) fun _ => ?_) | (apply gW; refine sW ?_) | (apply gI; refine sI ?_) | (apply gE; refine sE ?_) | (apply gP; refine sP ?_) | (apply gC; refine sC ?_) | (apply gD; refine sD ?_) | fail)
    have hnl : (framesF 0 (x.take i)).length + (frameF (i : Int) y).length = (framesF 0 (x.take (i + 1))).length := by rw [hnext, List.length_append]
    rw [← hnext, hnl]
    exact E_round (i + 1, .slice A8 (framesF 0 (x.take (i + 1))).length c8) ⟨hlt, A8, c8, rfl⟩ (by show x.length - (i + 1) < x.length - i; omega) ⟨rfl, rfl, trivial⟩ Sb
  obtain rfl : i = x.length := by omega
  rw [List.take_length] at hfl2 ⊢
  obtain ⟨all, hall⟩ : ∃ all, framesF 0 x = all := ⟨_, rfl⟩
  rw [hall] at hfl2 ⊢
  repeat' (first | refine go ?_ | intro _ | (apply cG; first | refine cT ?_ | refine cF ?_ | refine cS (fun _ => ?_) fun _ => ?_) | (apply gW; refine sW ?_) | (apply gI; refine sI ?_) | (apply gE; refine sE ?_) | (apply gP; refine sP ?_) | (apply gC; refine sC ?_) | (apply gD; refine sD ?_) | fail)
  refine O_d (dy_call ArgsI.pf (by first | exact rfl | trivial | (intro a b; rfl)) (Few_ct (.tail _ (.tail _ hrest)) hrl (most := 30) (by decide) (by decide))) ?_; rintro _ _ ⟨_, ⟨A9, c9, rfl, rfl⟩, rfl⟩; refine O_n ?_
  obtain ⟨w, hw⟩ : ∃ w, lr.take (Int.toNat 30) = w := ⟨_, rfl⟩
  have hwl : w.length ≤ 30 := by rw [← hw]; exact List.length_take_le _ _
  rw [hw]
  refine O_d dy_append ?_; rintro _ _ ⟨A10, c10, rfl, rfl⟩; refine O_n ?_
  obtain ⟨gs, N, hscan⟩ : ∃ gs N, scanF (all ++ w).length 0 (all ++ w) = (gs, N) := ⟨_, _, rfl⟩
  have hsf := scanF_frames x (all ++ w).length 0 w (fun y hy => by have := hxall y hy; omega) (by decide) (by omega) (by
    have := framesF_min x 0
    rw [hall] at this
    rw [List.length_append]; omega)
  rw [hall, hscan] at hsf
  obtain ⟨ys, M, hym⟩ : ∃ ys M, scanF ((all ++ w).length - x.length) (0 + x.length) w = (ys, M) := ⟨_, _, rfl⟩
  rw [hym] at hsf
  simp only [Prod.mk.injEq] at hsf
  obtain ⟨hg, hN⟩ := hsf
  have hgl := scanF_le (all ++ w).length 0 (all ++ w)
  have hgm := scanF_mem (all ++ w).length 0 (all ++ w)
  rw [hscan] at hgl hgm
  dsimp only at hgl hgm
  have hlen : (all ++ w).length = all.length + w.length := List.length_append
  have hgx : x.length ≤ gs.length := by rw [hg, List.length_append]; omega
  have hal0 : all.length ≤ N := by omega
  have hgt : gs.take x.length = x := by rw [hg, List.take_left]
  rw [← hlen]
  refine O_frz 1 ?_
  obtain ⟨b, hbd⟩ : ∃ b, all ++ w = b := ⟨_, rfl⟩
  rw [hbd] at hscan hgl hgm hlen ⊢
  clear hg hym
  repeat' (first | refine go ?_ | intro _ | (apply cG; first | refine cT ?_ | refine cF ?_ | refine cS (fun _ => ?_) fun _ => ?_) | (apply gW; refine sW ?_) | (apply gI; refine sI ?_) | (apply gE; refine sE ?_) | (apply gP; refine sP ?_) | (apply gC; refine sC ?_) | (apply gD; refine sD ?_) | fail)
  refine O_d (dy_call ArgsI.pf (by first | exact rfl | trivial | (intro a b; rfl)) (Scan_ct (b := b) (.tail _ (.head _)) (by omega) hscan)) ?_; rintro _ _ ⟨_, ⟨A11, c11, rfl, rfl⟩, rfl⟩; refine O_n ?_
  refine O_frz 0 ?_
  repeat' (first | refine go ?_ | intro _ | (apply cG; first | refine cT ?_ | refine cF ?_ | refine cS (fun _ => ?_) fun _ => ?_) | (apply gW; refine sW ?_) | (apply gI; refine sI ?_) | (apply gE; refine sE ?_) | (apply gP; refine sP ?_) | (apply gC; refine sC ?_) | (apply gD; refine sD ?_) | fail)
  refine O_d (dy_call ArgsI.pf (by first | exact rfl | trivial | (intro a b; rfl)) (fScan_ct (b := b) (.tail _ (.tail _ (.head _))) (by omega) hscan)) ?_; rintro _ _ ⟨_, ⟨A12, c12, rfl, rfl⟩, rfl⟩; refine O_n ?_
  refine O_frz 0 ?_
  repeat' (first | refine go ?_ | intro _ | (apply cG; first | refine cT ?_ | refine cF ?_ | refine cS (fun _ => ?_) fun _ => ?_) | (apply gW; refine sW ?_) | (apply gI; refine sI ?_) | (apply gE; refine sE ?_) | (apply gP; refine sP ?_) | (apply gC; refine sC ?_) | (apply gD; refine sD ?_) | fail)
  have hgl2 : ∀ y ∈ gs, y.length ≤ 10000000 := fun y hy => by have := hgm y hy; omega
  have hxl2 : ∀ y ∈ x, y.length ≤ 10000000 := fun y hy => by have := hxall y hy; omega
  refine O_d (dy_call ArgsI.pf (by first | exact rfl | trivial | (intro a b; rfl)) (SameLists_ct (la := gs) (lb := gs) (.tail _ (.head _)) (.head _) (by omega) (by omega) hgl2 hgl2 (q := true) (decide_eq_true rfl))) ?_; rintro _ _ ⟨_, ⟨rfl, hLL⟩, rfl⟩; replace hLL := hLL.symm; subst hLL; refine O_n ?_
  refine O_fact (fun w s => ((Src.sl (.inl (.tail _ (.head _))) s).form)) ?_
  rintro ⟨_, c13, he13, hc13⟩
  injection he13 with _ _ he13
  subst he13
  repeat' (first | refine go ?_ | intro _ | (apply cG; first | refine cT ?_ | refine cF ?_ | refine cS (fun _ => ?_) fun _ => ?_) | (apply gW; refine sW ?_) | (apply gI; refine sI ?_) | (apply gE; refine sE ?_) | (apply gP; refine sP ?_) | (apply gC; refine sC ?_) | (apply gD; refine sD ?_) | fail)
  rw [List.drop_zero, hgt]
  refine O_d (dy_call ArgsI.pf (by first | exact rfl | trivial | (intro a b; rfl)) (SameLists_ct (la := x) (lb := x) (.head _) (.tail _ (.tail _ (.tail _ (.tail _ (.tail _ (.head _)))))) (by omega) (by omega) hxl2 hxl2 (q := true) (decide_eq_true rfl))) ?_; rintro _ _ ⟨_, ⟨rfl, hLL⟩, rfl⟩; replace hLL := hLL.symm; subst hLL; refine O_n ?_
  repeat' (first | refine go ?_ | intro _ | (apply cG; first | refine cT ?_ | refine cF ?_ | refine cS (fun _ => ?_) fun _ => ?_) | (apply gW; refine sW ?_) | (apply gI; refine sI ?_) | (apply gE; refine sE ?_) | (apply gP; refine sP ?_) | (apply gC; refine sC ?_) | (apply gD; refine sD ?_) | fail)
  refine O_d (dy_call ArgsI.pf (by first | exact rfl | trivial | (intro a b; rfl)) (lives_ct)) ?_; rintro _ _ ⟨_, ⟨rfl, hLL⟩, rfl⟩; replace hLL := hLL.symm; subst hLL; refine O_n ?_
  repeat' (first | refine go ?_ | intro _ | (apply cG; first | refine cT ?_ | refine cF ?_ | refine cS (fun _ => ?_) fun _ => ?_) | (apply gW; refine sW ?_) | (apply gI; refine sI ?_) | (apply gE; refine sE ?_) | (apply gP; refine sP ?_) | (apply gC; refine sC ?_) | (apply gD; refine sD ?_) | fail)
  refine E_res1 (by rfl) (by rfl) ⟨rfl, rfl⟩ Sb
theorem JournalFrames_any {v vb vr : Value} {li : List Int} {lb lr : List UInt8} {num : Int} {w : World} (s : St w w [rd eI v li, rd eB vb lb, rd eB vr lr]) (hl : li.length ≤ 9223372036854775807) (hr : ∀ n ∈ li, -9223372036854775808 ≤ n ∧ n ≤ 9223372036854775807) (hn1 : -9223372036854775808 ≤ num) (hn2 : num ≤ 9223372036854775807)
    (hbl : lb.length ≤ 9223372036854775807) (hrl : lr.length ≤ 9223372036854775807) :
    Calls Try.prog 5 #[v, .int .i64 num, vb, vr] w fun e w' => e = .returned (.bool true) ∧ Below w.heap.size w w' :=
  ((JournalFrames_ct (W0 := w) (.head _) hl hr hn1 hn2 (.tail _ (.head _)) hbl (.tail _ (.tail _ (.head _))) hrl).run w s).mono fun e w' h => by
    obtain ⟨v, L', rfl, ⟨rfl, rfl⟩, s⟩ := h
    exact ⟨rfl, s.below⟩
end
end Go.Proofs.Ytbjaecofccpahaa
namespace Go.Proofs.Ytbjaecofccpahaa
open Go Go.RowKit
set_option linter.unusedVariables false
set_option linter.unusedSimpArgs false
set_option maxRecDepth 20000
set_option synthInstance.maxSize 100000
set_option synthInstance.maxHeartbeats 400000
/-- the power is on, no failure is planned, file holds B, and all the bytes are U -/
structure JS (d : DK) (file : Int) (k : Int) (B : List UInt8) (U : Nat) : Prop where
  ok : DOk d
  on : d.off = false
  na : d.armed = false
  l0 : -1000000 ≤ d.left
  l1 : d.left ≤ 1000000
  room : d.room = k
  b : (fileF file d.files).b = B
  u : usedL d.files = U
theorem JS.begun {k : Int} (h1 : 0 ≤ k) (h2 : k ≤ 16777216) (file : Int) : JS ⟨[], k, false, false, 0⟩ file k [] 0 :=
  ⟨⟨List.nodup_nil, h1, h2, h1, fun n => ⟨Int.le_refl _, Int.le_refl _⟩⟩, rfl, rfl, by show (-1000000 : Int) ≤ 0; decide, by show (0 : Int) ≤ 1000000; decide, rfl, rfl, rfl⟩
theorem stepF_na {d : DK} (h : d.armed = false) : stepF d = (d, true) := by unfold stepF; rw [if_neg (by simp [h])]
theorem JS.sync {d : DK} {file k : Int} {B : List UInt8} {U : Nat} (h : JS d file k B U) : syncF d = ({ d with files := hardL d.files }, 0) ∧ JS { d with files := hardL d.files } file k B U := by
  refine ⟨?_, ⟨h.ok.hard, h.on, h.na, h.l0, h.l1, h.room, (fileF_hard d.files).1.trans h.b, (hard_used d.files).trans h.u⟩⟩
  unfold syncF
  rw [if_neg (by simp [h.on]), stepF_na h.na]
  rfl
theorem JS.opened {d : DK} {file k : Int} {B : List UInt8} {U : Nat} (h : JS d file k B U) (y : Value) : ∃ d', openF d file B.length y = (d', 0) ∧ JS d' file k B U := by
  obtain ⟨h1, h2⟩ := h.sync
  refine ⟨_, ?_, h2⟩
  unfold openF
  rw [h.b, if_neg (Nat.lt_irrefl _)]
  dsimp only
  rw [if_pos rfl, h1]
theorem JS.full {d : DK} {file k n : Int} {B b : List UInt8} {U : Nat} (h : JS d file k B U) (hf : 0 ≤ file ∧ file < 64) (hb : k - (U : Int) < (frameF n b).length) (y : Value) : logF ⟨file, n, false⟩ d b y = (⟨file, n, false⟩, d, 20) := by
  unfold logF
  rw [if_neg (by simp)]
  have e : appF d file (frameF n b) y = (d, 20) := by
    unfold appF
    rw [if_pos hf, if_neg (by simp [h.on]), h.room, h.u, if_pos hb]
  dsimp only
  rw [e]
  rfl
theorem JS.app {d : DK} {file k n : Int} {B b : List UInt8} {U : Nat} (h : JS d file k B U) (hf : 0 ≤ file ∧ file < 64) (hb : ((frameF n b).length : Int) ≤ k - (U : Int)) (y : Value) :
    ∃ d', logF ⟨file, n, false⟩ d b y = (⟨file, n + 1, false⟩, d', 0) ∧ JS d' file k (B ++ frameF n b) (U + (frameF n b).length) ∧ (∀ m, m ≠ file → (fileF m d'.files).b = (fileF m d.files).b) := by
  obtain ⟨x, hx⟩ : ∃ x : DF, (⟨y, (fileF file d.files).b ++ frameF n b, (fileF file d.files).d⟩ : DF) = x := ⟨_, rfl⟩
  have hxb : x.b = B ++ frameF n b := by rw [← hx, ← h.b]
  have ha : appF d file (frameF n b) y = ({ d with files := setF file x d.files }, 0) := by
    unfold appF
    rw [if_pos hf, if_neg (by simp [h.on]), h.room, h.u, if_neg (by omega), hx]
    dsimp only
    rw [stepF_na (by exact h.na)]
    rfl
  have hok := h.ok.app (n := file) (b := frameF n b) (y := y)
  rw [ha] at hok
  dsimp only at hok
  have hsu := set_used (n := file) (x := x) d.files
  have hj : JS { d with files := setF file x d.files } file k (B ++ frameF n b) (U + (frameF n b).length) :=
    ⟨hok, h.on, h.na, h.l0, h.l1, h.room, (fileF_set h.ok.k).1.trans hxb, by
      have := h.u
      have e1 := congrArg List.length h.b
      have e2 := congrArg List.length hxb
      rw [List.length_append] at e2
      dsimp only
      omega⟩
  obtain ⟨h1, h2⟩ := hj.sync
  refine ⟨_, ?_, h2, fun m hm => ?_⟩
  · unfold logF
    rw [if_neg (by simp)]
    dsimp only
    rw [ha]
    dsimp only
    rw [if_pos rfl, h1]
    rfl
  · show (fileF m (hardL (setF file x d.files))).b = _
    rw [(fileF_hard _).1, fileF_set_ne hm]
theorem scan_frames {xs : List (List UInt8)} (h : ∀ x ∈ xs, x.length ≤ 1000000) (hl : xs.length ≤ 1000000) : scanF (framesF 0 xs).length 0 (framesF 0 xs) = (xs, (framesF 0 xs).length) := by
  have := scanF_frames xs (framesF 0 xs).length 0 [] h (by decide) (by omega) (framesF_min xs 0)
  rw [List.append_nil, scanF_nil] at this
  rw [this, List.append_nil, Nat.add_zero]
theorem O_front {P : Program} {W0 : World} {L Le : List HP} {ops : Array Oper} {Q : Exit → Act → World → Prop} {rest : List Oper} {a : Act} {A : HP} (i : Nat) (hi : L[i]? = some A) (he : L.eraseIdx i = Le) (k : OL P W0 (A :: Le) ops Q rest a) : OL P W0 L ops Q rest a := by
  subst he
  exact O_at hi k
section
variable {W0 : World} {L : List HP}
theorem fresh_ct {room : Int} (h1 : 0 ≤ room) (h2 : room ≤ 16777216) : CT Try.prog 10 #[.int .i64 room] W0 L fun r L' => ∃ p, r = .pointer (some ⟨p, 0, none⟩) ∧ L' = dsk p ⟨[], room, false, false, 0⟩ :: L := by
  refine CT_enter Try.func10 rfl ?_; (simp only [Try.ntmps10, List.size_toArray, List.length_cons, List.length_nil, Nat.reduceAdd, Nat.reduceSub, Array.replicate_succ, Array.replicate_zero, List.push_toArray, List.append_toArray, List.nil_append, List.cons_append])
  repeat' (first | refine go ?_ | intro _ | (apply cG; first | refine cT ?_ | refine cF ?_ | refine cS (fun _ => ?_) fun _ => ?_) | (apply gW; refine sW ?_) | (apply gI; refine sI ?_) | (apply gE; refine sE ?_) | (apply gP; refine sP ?_) | (apply gC; refine sC ?_) | (apply gD; refine sD ?_) | fail)
  refine O_d (dy_call ArgsI.pf (by first | exact rfl | trivial | (intro a b; rfl)) (dNew_ct h1 h2)) ?_; rintro _ _ ⟨_, ⟨p, rfl, rfl⟩, rfl⟩; refine O_n ?_
  repeat' (first | refine go ?_ | intro _ | (apply cG; first | refine cT ?_ | refine cF ?_ | refine cS (fun _ => ?_) fun _ => ?_) | (apply gW; refine sW ?_) | (apply gI; refine sI ?_) | (apply gE; refine sE ?_) | (apply gP; refine sP ?_) | (apply gC; refine sC ?_) | (apply gD; refine sD ?_) | fail)
  refine E_res1 (by rfl) (by rfl) ⟨p, rfl, rfl⟩ Sb
theorem Len_ct {q : Nat} {x0 : Value} {file n : Int} {down : Bool} : CT Try.prog 16 #[.pointer (some ⟨q, 0, none⟩)] W0 (cel q [x0, .int .i64 file, .int .i64 n, .bool down] 70 :: L) fun r L' => r = .int .i64 n ∧ L' = cel q [x0, .int .i64 file, .int .i64 n, .bool down] 70 :: L := by
  refine CT_enter Try.func16 rfl ?_; (simp only [Try.ntmps16, List.size_toArray, List.length_cons, List.length_nil, Nat.reduceAdd, Nat.reduceSub, Array.replicate_succ, Array.replicate_zero, List.push_toArray, List.append_toArray, List.nil_append, List.cons_append])
  repeat' (first | refine go ?_ | intro _ | (apply cG; first | refine cT ?_ | refine cF ?_ | refine cS (fun _ => ?_) fun _ => ?_) | (apply gW; refine sW ?_) | (apply gI; refine sI ?_) | (apply gE; refine sE ?_) | (apply gP; refine sP ?_) | (apply gC; refine sC ?_) | (apply gD; refine sD ?_) | fail)
  refine E_res1 (by rfl) (by rfl) ⟨rfl, rfl⟩ Sb
theorem Up_ct {q : Nat} {x0 : Value} {file n : Int} {down : Bool} : CT Try.prog 17 #[.pointer (some ⟨q, 0, none⟩)] W0 (cel q [x0, .int .i64 file, .int .i64 n, .bool down] 70 :: L) fun r L' => r = .bool (!down) ∧ L' = cel q [x0, .int .i64 file, .int .i64 n, .bool down] 70 :: L := by
  refine CT_enter Try.func17 rfl ?_; (simp only [Try.ntmps17, List.size_toArray, List.length_cons, List.length_nil, Nat.reduceAdd, Nat.reduceSub, Array.replicate_succ, Array.replicate_zero, List.push_toArray, List.append_toArray, List.nil_append, List.cons_append])
  cases down
  · repeat' (first | refine go ?_ | intro _ | (apply cG; first | refine cT ?_ | refine cF ?_ | refine cS (fun _ => ?_) fun _ => ?_) | (apply gW; refine sW ?_) | (apply gI; refine sI ?_) | (apply gE; refine sE ?_) | (apply gP; refine sP ?_) | (apply gC; refine sC ?_) | (apply gD; refine sD ?_) | fail)
    refine E_res1 (by rfl) (by rfl) ⟨rfl, rfl⟩ Sb
  · repeat' (first | refine go ?_ | intro _ | (apply cG; first | refine cT ?_ | refine cF ?_ | refine cS (fun _ => ?_) fun _ => ?_) | (apply gW; refine sW ?_) | (apply gI; refine sI ?_) | (apply gE; refine sE ?_) | (apply gP; refine sP ?_) | (apply gC; refine sC ?_) | (apply gD; refine sD ?_) | fail)
    refine E_res1 (by rfl) (by rfl) ⟨rfl, rfl⟩ Sb
theorem LApp_limit {q : Nat} {cs : List Value} {v : Value} {b : List UInt8} (hv : Src L eB v b) (hb : 65536 < b.length) (hb2 : b.length ≤ 1000000000) :
    CT Try.prog 15 #[.pointer (some ⟨q, 0, none⟩), v] W0 L fun r L' => r = .int .i64 4 ∧ L' = L := by
  have hv : Sc L v eB b := ⟨hv⟩
  refine CT_fact (fun w s => ((Sc.pf : Src _ eB v b).sl s).form) ?_
  rintro ⟨A0, c0, rfl, hc0⟩
  refine CT_enterD Try.func15 rfl ?_; (simp only [Try.ntmps15, List.size_toArray, List.length_cons, List.length_nil, Nat.reduceAdd, Nat.reduceSub, Array.replicate_succ, Array.replicate_zero, List.push_toArray, List.append_toArray, List.nil_append, List.cons_append])
  repeat' (first | refine go ?_ | intro _ | (apply cG; first | refine cT ?_ | refine cF ?_ | refine cS (fun _ => ?_) fun _ => ?_) | (apply gW; refine sW ?_) | (apply gI; refine sI ?_) | (apply gE; refine sE ?_) | (apply gP; refine sP ?_) | (apply gC; refine sC ?_) | (apply gD; refine sD ?_) | fail)
  exact E_cell0 rfl rfl rfl Ev.pf (.head _) rfl ⟨rfl, rfl⟩ Sb
theorem LApp_full {q p : Nat} {file k n : Int} {d : DK} {v : Value} {b B : List UInt8} {U : Nat} (hv : Src L eB v b) (hb : b.length ≤ 65536) (hn1 : 0 ≤ n) (hn2 : n ≤ 1000000000) (h : JS d file k B U) (hf : 0 ≤ file ∧ file < 64) (hbk : k - (U : Int) < (frameF n b).length) :
    CT Try.prog 15 #[.pointer (some ⟨q, 0, none⟩), v] W0 (cel q [.pointer (some ⟨p, 0, none⟩), .int .i64 file, .int .i64 n, .bool false] 70 :: dsk p d :: L) fun r L' => r = .int .i64 20 ∧ L' = cel q [.pointer (some ⟨p, 0, none⟩), .int .i64 file, .int .i64 n, .bool false] 70 :: dsk p d :: L := by
  have h0 := h.l0
  have h1 := h.l1
  refine (LApp_ct hv hb hn1 hn2 h.ok (by omega) (by omega)).mono fun r L' h2 => ?_
  obtain ⟨A, c, rfl, rfl⟩ := h2
  rw [h.full hf hbk]
  exact ⟨rfl, rfl⟩
theorem LApp_ok {q p : Nat} {file k n : Int} {d : DK} {v : Value} {b B : List UInt8} {U : Nat} (hv : Src L eB v b) (hb : b.length ≤ 65536) (hn1 : 0 ≤ n) (hn2 : n ≤ 1000000000) (h : JS d file k B U) (hf : 0 ≤ file ∧ file < 64) (hbk : ((frameF n b).length : Int) ≤ k - (U : Int)) :
    CT Try.prog 15 #[.pointer (some ⟨q, 0, none⟩), v] W0 (cel q [.pointer (some ⟨p, 0, none⟩), .int .i64 file, .int .i64 n, .bool false] 70 :: dsk p d :: L) fun r L' => ∃ d', JS d' file k (B ++ frameF n b) (U + (frameF n b).length) ∧ (∀ m, m ≠ file → (fileF m d'.files).b = (fileF m d.files).b) ∧ r = .int .i64 0 ∧ L' = cel q [.pointer (some ⟨p, 0, none⟩), .int .i64 file, .int .i64 (n + 1), .bool false] 70 :: dsk p d' :: L := by
  have h0 := h.l0
  have h1 := h.l1
  refine (LApp_ct hv hb hn1 hn2 h.ok (by omega) (by omega)).mono fun r L' h2 => ?_
  obtain ⟨A, c, rfl, rfl⟩ := h2
  obtain ⟨d', e, hj, ho⟩ := h.app hf hbk (.slice A ((fileF file d.files).b ++ frameF n b).length c)
  rw [e]
  exact ⟨d', hj, ho, rfl, rfl⟩
theorem Open_js {p : Nat} {d : DK} {file k : Int} {B : List UInt8} {U : Nat} {xs : List (List UInt8)} (h : JS d file k B U) (hf : 0 ≤ file ∧ file < 64) (hB : B.length ≤ 1000000) (hsc : scanF B.length 0 B = (xs, B.length)) (hxs : xs.length ≤ 1000000) :
    CT Try.prog 11 #[.pointer (some ⟨p, 0, none⟩), .int .i64 file] W0 (dsk p d :: L) fun r L' => ∃ d' q A3 c3, JS d' file k B U ∧ (∀ m, (fileF m d'.files).b = (fileF m d.files).b) ∧ r = .tuple #[.pointer (some ⟨q, 0, none⟩), .slice A3 xs.length c3, .int .i64 0] ∧
      L' = cel q [.pointer (some ⟨p, 0, none⟩), .int .i64 file, .int .i64 (xs.length : Int), .bool false] 70 :: own 23 (eSl eB) (.slice A3 xs.length c3) xs :: dsk p d' :: L := by
  have h0 := h.l0
  have h1 := h.l1
  refine (Open_ct (N := B.length) h.ok h.on hf (by rw [h.b]; exact hB) (by rw [h.b]; exact hsc) (by rw [h.b]; exact Nat.le_refl _) hxs (by omega) (by omega)).mono fun r L' h2 => ?_
  obtain ⟨A, c, h2⟩ := h2
  obtain ⟨hs1, hs2⟩ := h.sync
  have e : openF d file B.length (.slice A B.length c) = ({ d with files := hardL d.files }, 0) := by
    unfold openF
    rw [h.b, if_neg (Nat.lt_irrefl _)]
    dsimp only
    rw [if_pos rfl, hs1]
  rw [e] at h2
  rcases h2 with ⟨h3, _⟩ | ⟨_, q, A3, c3, rfl, rfl⟩
  · exact absurd rfl h3
  · exact ⟨_, q, A3, c3, hs2, fun m => (fileF_hard d.files).1, rfl, rfl⟩
end
end Go.Proofs.Ytbjaecofccpahaa
namespace Go.Proofs.Ytbjaecofccpahaa
open Go Go.RowKit
set_option linter.unusedVariables false
set_option linter.unusedSimpArgs false
section
variable {P : Program} {ops : Array Oper} {Q : Exit → Act → World → Prop} {rest : List Oper} {o : Oper} {a : Act} {W0 w : World} {L : List HP}
/-- An iterator's promise: it hands over one by one, each that nx lets come behind those before, and at the end fin holds of all. E: what it needs, and leaves. -/
def GivesP {β κ : Type} (P : Program) (gf : FuncId) (lb : Array Value) (arg : β → κ → Array Value) (hs : β → κ → List HP) (nx : List β → β → Prop) (fin : List β → Prop) (E : List HP) : Prop :=
  ∀ (l : Nat) (W0 : World) (J : List β → HP),
    (∀ pre y k W E1, nx pre y → St W0 W (hs y k ++ (J pre :: E1)) → Yields P l (arg y k) W fun e W' => e = .returned (.bool true) ∧ St W0 W' (J (pre ++ [y]) :: E1)) →
    CT P gf (#[.func (.yield l) #[] #[]] ++ lb) W0 (J [] :: E) fun r L' => ∃ ys, fin ys ∧ L' = J ys :: E
theorem C_rangeP {β κ : Type} {g : Operand} {ps : Array Tmp} {assign body : Code} {gf : FuncId} {lb : Array Value} (hg : a.eval g = .func (.func gf) #[] lb) (eg : Enters P gf)
    {arg : β → κ → Array Value} {hs : β → κ → List HP} {nx : List β → β → Prop} {fin : List β → Prop} {E : List HP} (hit : GivesP P gf lb arg hs nx fin E) (hps : ∀ y k, (arg y k).size = ps.size) (I : List β → List HP) (hL : Sub L (I [] ++ E))
    (hbody : ∀ (l D : Nat) (rec : Obj) (pre : List β) (y : β) (k : κ), nx pre y →
      ∃ a₁, (∀ W K, K a₁ W → assign.wpIn (Fr (some l)) 0 P (Exit.then K (fun _ _ _ => False)) { tmps := (ps.zip (arg y k)).foldl (fun t (p, v) => t.setIfInBounds p v) a.tmps, defers := [] } W) ∧
      ∀ W E, St W0 W (blk l rec :: blk D (.deferred (some [])) :: (I pre ++ (hs y k ++ E))) → body.wpIn (Fr (some l)) 0 P (fun e _ W' => e = .normal ∧ St W0 W' (blk l rec :: blk D (.deferred (some [])) :: (I (pre ++ [y]) ++ E))) a₁ W)
    (hdone : ∀ (D : Nat) (ys : List β), fin ys → EL W0 (blk D (.deferred (some [])) :: (I ys ++ E)) Q .normal { a with defers := { target := .collected D, args := #[] } :: a.defers }) :
    CL P W0 L (Code.rangeFunc g ps assign body) Q a := by
  refine ⟨fun w hS0 => ?_⟩
  have hS := hL.st hS0
  clear hS0
  refine (wpIn_wide (n := 0)).1 (wpIn_rangeFunc ?_)
  intro fn _
  obtain ⟨rec, hrec⟩ : ∃ rec : LoopState → Option Code → Loop, rec = fun st pe => { state := st, pending := pe, fn, tmps := a.tmps, params := ps, assign, body, defers := w.heap.size } := ⟨_, rfl⟩
  have hS1 := (hS.alloc (.deferred (some []))).alloc (.loop (rec .ready none))
  rw [World.size_alloc] at hS1
  generalize hl : w.heap.size + 1 = l at hS1
  generalize hD : w.heap.size = D at hS1 hl hrec
  have henter := run_enterLoop_outer (P := P) (w := w) fn a.tmps ps assign body
  rw [hD] at henter
  rw [hl] at henter
  have hr1 : (rec .ready none) = { state := .ready, pending := none, fn, tmps := a.tmps, params := ps, assign, body, defers := D } := by rw [hrec]
  rw [← hr1] at henter
  generalize hw1 : (w.alloc (.deferred (some []))).alloc (.loop (rec .ready none)) = w1 at henter hS1
  refine ⟨l, [{ target := .collected D, args := #[] }], w1, { target := .fn (.func gf) lb, args := #[.func (.yield l) #[] #[]] }, w1, gf,
    #[.func (.yield l) #[] #[]] ++ lb, w1, henter, ?_, fun _ _ => trivial, ?_, (fun hn => (by cases hn)), ?_⟩
  · simp only [resolve, hg]
    simp [go_sem]
  · exact eg _ _
  · have hJ : St W0 w1 (sp (blk l (.loop (rec .ready none)) :: blk D (.deferred (some [])) :: I []) :: E) := St.close_ (L := blk l (.loop (rec .ready none)) :: blk D (.deferred (some [])) :: I []) hS1
    refine callsIn_wide.2 (Calls.mono ((hit l W0 (fun pre => sp (blk l (.loop (rec .ready none)) :: blk D (.deferred (some [])) :: I pre)) ?_).run w1 hJ) ?_)
    · intro pre y k W E1 hx hW0
      have hW : St W0 W (blk l (.loop (rec .ready none)) :: blk D (.deferred (some [])) :: (I pre ++ (hs y k ++ E1))) := (hW0.perm List.perm_middle).open_
      clear hW0
      have hblk : W.heap[l]? = some (.loop (rec .ready none)) := St.blk_ hW
      have hrp : (rec .ready none).params = ps := by rw [hrec]
      refine ⟨fn, (ps.zip (arg y k)).foldl (fun t (p, v) => t.setIfInBounds p v) a.tmps, assign, body, ?_, ?_⟩
      · have := run_yield (P := P) (args := arg y k) hblk (by rw [hrp]; exact hps y k)
        rw [this, hrec]
      · refine roundIn_of_wpIn trivial ?_
        obtain ⟨a₁, has, hb⟩ := hbody l D (.loop (rec .busy none)) pre y k hx
        refine has W _ ?_
        refine ⟨W.putObj l (.loop (rec .busy none)), ?_, ?_⟩
        · have := run_beginRound (P := P) hblk (by rw [hrec])
          rw [this, hrec]
        · refine wpIn_mono (hb _ E1 (St.putObj hW)) ?_
          rintro e a' W' ⟨rfl, hW'⟩
          have hblk' : W'.heap[l]? = some (.loop (rec .busy none)) := St.blk_ hW'
          refine ⟨_, _, run_endRound (P := P) none hblk', rfl, ?_⟩
          have h2 := St.putObj (o' := .loop (rec .ready none)) hW'
          have h3 : St W0 (W'.putObj l (.loop (rec .ready none))) (sp (blk l (.loop (rec .ready none)) :: blk D (.deferred (some [])) :: I (pre ++ [y])) :: E1) := St.close_ (L := blk l (.loop (rec .ready none)) :: blk D (.deferred (some [])) :: I (pre ++ [y])) h2
          rw [hrec] at h3 ⊢
          exact h3
    · rintro e W' ⟨v, L', rfl, ⟨ys, hfin, rfl⟩, hW0⟩
      have hW' : St W0 W' (blk l (.loop (rec .ready none)) :: blk D (.deferred (some [])) :: (I ys ++ E)) := hW0.open_
      have hblk' : W'.heap[l]? = some (.loop (rec .ready none)) := St.blk_ hW'
      refine ⟨none, W'.putObj l (.loop { rec .ready none with state := .exhausted }), ?_, ?_⟩
      · rw [run_endLoop (P := P) hblk' (by rw [hrec]; simp), hrec]
      · exact (hdone D ys hfin).run _ (St.drop (St.putObj hW'))
/-- 'if !yield(x)': the region of the call -/
theorem C_yield1 {id : Nat} {d1 d2 d4 d5 : Tmp} {f x : Operand} {t1 t2 t4 t5 u5 : TypeId} {p1 p2 p4 p5 : String} {q1 q2 q4 q5 : Array Edge} {ats : Array TypeId} {l : Nat} {v1 w1 w2 : Value} {L' : List HP} {a1 a2 a4 a5 : Act}
    (e1 : a.eval f = w1) (h1 : a.put (some d1) w1 = a1) (e2 : a1.eval x = w2) (h2 : a1.put (some d2) w2 = a2) (h4 : a2.put (some d4) (.bool true) = a4) (h5 : a4.put (some d5) (.bool false) = a5)
    (hF : a2.eval (.tmp d1) = .func (.yield l) #[] #[]) (hX : a2.eval (.tmp d2) = v1) (hB : a4.eval (.tmp d4) = .bool true)
    (hy : ∀ w, St W0 w L → Yields P l #[v1] w fun e w' => e = .returned (.bool true) ∧ St W0 w' L')
    (k : EL W0 L' Q .normal a5) :
    CL P W0 L (Code.region id #[⟨some d1, .move f, t1, p1, q1, none⟩, ⟨some d2, .move x, t2, p2, q2, none⟩, ⟨some d4, .call { callee := .value (.tmp d1), args := #[.tmp d2], argTypes := ats }, t4, p4, q4, none⟩, ⟨some d5, .unOp .not u5 (.tmp d4), t5, p5, q5, none⟩] false) Q a := by
  refine ⟨fun w hS => ?_⟩
  subst h1 h2 h4 h5
  subst e1 e2
  refine (wpIn_wide (n := 0)).1 (wpIn_region_lit ?_)
  refine wlIn_move (wlIn_move (wlIn_yield (l := l) (args := #[v1]) (R := fun e w' => e = .returned (.bool true) ∧ St W0 w' L') rfl rfl hF (by rw [← hX]; simp only [List.map_toArray, List.map_cons, List.map_nil]) (hy w hS) (fun e w' h => ⟨_, h.1⟩) ?_))
  rintro v' w' ⟨hv, h⟩
  injection hv with hv
  subst hv
  exact wlIn_not (b := true) hB (wpListIn_nil (k.run w' h))
end
end Go.Proofs.Ytbjaecofccpahaa
