/-
  Walks: JournalFrames.
-/
import Derived.Test.YtbjaecofccpahaaJ6
namespace Go.Proofs.Ytbjaecofccpahaa
open Go Go.RowKit
set_option linter.unusedVariables false
set_option linter.unusedSimpArgs false
set_option maxRecDepth 20000
set_option synthInstance.maxSize 100000
set_option synthInstance.maxHeartbeats 400000
instance {α : Type} {R : Enc α} : Sz (eSl R) 1 := ⟨rfl⟩
theorem framesF_snoc (xs : List (List UInt8)) : ∀ (i : Int) (x : List UInt8), framesF i (xs ++ [x]) = framesF i xs ++ frameF (i + xs.length) x := by
  induction xs with
  | nil =>
    intro i x
    show frameF i x ++ [] = [] ++ frameF (i + ((0 : Nat) : Int)) x
    rw [List.append_nil, List.nil_append, show i + ((0 : Nat) : Int) = i from by omega]
  | cons y r ih =>
    intro i x
    have e : i + 1 + (r.length : Int) = i + (((y :: r).length : Nat) : Int) := by rw [List.length_cons]; push_cast; omega
    show frameF i y ++ framesF (i + 1) (r ++ [x]) = frameF i y ++ framesF (i + 1) r ++ frameF (i + (((y :: r).length : Nat) : Int)) x
    rw [ih (i + 1) x, e, List.append_assoc]
theorem framesF_len {m : Nat} : ∀ (xs : List (List UInt8)) (i : Int), (∀ x ∈ xs, x.length ≤ m) → m ≤ 1000000 → -9223372036854775808 ≤ i → i + xs.length ≤ 9223372036854775807 → (framesF i xs).length ≤ xs.length * (m + 40)
  | [], i, _, _, _, _ => by simp [framesF]
  | x :: r, i, h, hm, h1, h2 => by
    have hx := h x (.head _)
    simp only [List.length_cons] at h2
    push_cast at h2
    have hf := frameF_len (i := i) (x := x) h1 (by omega) (by omega)
    have ih := framesF_len r (i + 1) (fun y hy => h y (.tail _ hy)) hm (by omega) (by omega)
    simp only [framesF, List.length_append, List.length_cons, Nat.add_mul, Nat.one_mul]
    omega
theorem scanF_mem : ∀ (n : Nat) (i : Int) (b : List UInt8), ∀ x ∈ (scanF n i b).1, x.length ≤ b.length
  | 0, _, _, x, hx => by cases hx
  | n + 1, i, b, x, hx => by
    rw [scanF] at hx
    split at hx
    · cases hx
    · split at hx
      · rcases List.mem_cons.1 hx with rfl | hx
        · exact recF_len b
        · have := scanF_mem n (i + 1) (b.drop (frameF i (recF b)).length) x hx
          rw [List.length_drop] at this
          omega
      · cases hx
theorem framesF_min : ∀ (xs : List (List UInt8)) (i : Int), xs.length ≤ (framesF i xs).length
  | [], _ => Nat.zero_le _
  | x :: r, i => by
    have h1 := frameF_min i x
    have h2 := framesF_min r (i + 1)
    simp only [framesF, List.length_append, List.length_cons]
    omega
section
variable {W0 : World} {L : List HP}
theorem JournalFrames_ct {v vb vr : Value} {li : List Int} {lb lr : List UInt8} {num : Int} (hv : rd eI v li ∈ L) (hl : li.length ≤ 9223372036854775807) (hr : ∀ n ∈ li, -9223372036854775808 ≤ n ∧ n ≤ 9223372036854775807) (hn1 : -9223372036854775808 ≤ num) (hn2 : num ≤ 9223372036854775807)
    (hb : rd eB vb lb ∈ L) (hbl : lb.length ≤ 9223372036854775807) (hrest : rd eB vr lr ∈ L) (hrl : lr.length ≤ 9223372036854775807) :
    CT Try.prog 5 #[v, .int .i64 num, vb, vr] W0 L fun r L' => r = .bool true ∧ L' = L := by
  refine CT_enter Try.func5 rfl ?_; (simp only [Try.ntmps5, List.size_toArray, List.length_cons, List.length_nil, Nat.reduceAdd, Nat.reduceSub, Array.replicate_succ, Array.replicate_zero, List.push_toArray, List.append_toArray, List.nil_append, List.cons_append])
  repeat' (first | refine go ?_ | intro _ | (apply cG; first | refine cT ?_ | refine cF ?_ | refine cS (fun _ => ?_) fun _ => ?_) | (apply gW; refine sW ?_) | (apply gI; refine sI ?_) | (apply gE; refine sE ?_) | (apply gP; refine sP ?_) | (apply gC; refine sC ?_) | (apply gD; refine sD ?_) | fail)
  refine O_d (dy_call ArgsI.pf (by first | exact rfl | trivial | (intro a b; rfl)) (Few_ct hb hbl (most := 200) (by decide) (by decide))) ?_; rintro _ _ ⟨_, ⟨A1, c1, rfl, rfl⟩, rfl⟩; refine O_n ?_
  obtain ⟨o, ho⟩ : ∃ o, lb.take (Int.toNat 200) = o := ⟨_, rfl⟩
  have hol : o.length ≤ 200 := by rw [← ho]; exact List.length_take_le _ _
  rw [ho]
  refine O_frz 0 ?_
  repeat' (first | refine go ?_ | intro _ | (apply cG; first | refine cT ?_ | refine cF ?_ | refine cS (fun _ => ?_) fun _ => ?_) | (apply gW; refine sW ?_) | (apply gI; refine sI ?_) | (apply gE; refine sE ?_) | (apply gP; refine sP ?_) | (apply gC; refine sC ?_) | (apply gD; refine sD ?_) | fail)
  refine O_d (dy_call ArgsI.pf (by first | exact rfl | trivial | (intro a b; rfl)) (Frame_ct (i := num) (x := o) Sc.pf hn1 hn2 (by omega))) ?_; rintro _ _ ⟨_, ⟨A2, c2, rfl, rfl⟩, rfl⟩; refine O_n ?_
  repeat' (first | refine go ?_ | intro _ | (apply cG; first | refine cT ?_ | refine cF ?_ | refine cS (fun _ => ?_) fun _ => ?_) | (apply gW; refine sW ?_) | (apply gI; refine sI ?_) | (apply gE; refine sE ?_) | (apply gP; refine sP ?_) | (apply gC; refine sC ?_) | (apply gD; refine sD ?_) | fail)
  refine O_d (dy_call ArgsI.pf (by first | exact rfl | trivial | (intro a b; rfl)) (fFrame_ct (i := num) (x := o) Sc.pf hn1 hn2 (by omega))) ?_; rintro _ _ ⟨_, ⟨A3, c3, rfl, rfl⟩, rfl⟩; refine O_n ?_
  have hfl := frameF_len (i := num) (x := o) hn1 hn2 (by omega)
  refine O_d (dy_call ArgsI.pf (by first | exact rfl | trivial | (intro a b; rfl)) (SameBytes_ct (la := frameF num o) (lb := frameF num o) Sc.pf Sc.pf (by omega) (by omega) (q := true) (decide_eq_true rfl))) ?_; rintro _ _ ⟨_, ⟨rfl, hLL⟩, rfl⟩; replace hLL := hLL.symm; subst hLL; refine O_n ?_
  repeat' (first | refine go ?_ | intro _ | (apply cG; first | refine cT ?_ | refine cF ?_ | refine cS (fun _ => ?_) fun _ => ?_) | (apply gW; refine sW ?_) | (apply gI; refine sI ?_) | (apply gE; refine sE ?_) | (apply gP; refine sP ?_) | (apply gC; refine sC ?_) | (apply gD; refine sD ?_) | fail)
  refine O_d (dy_call ArgsI.pf (by first | exact rfl | trivial | (intro a b; rfl)) (Records_ct (.tail _ (.tail _ (.tail _ hv))) hl hr)) ?_; rintro _ _ ⟨_, ⟨A4, c4, xs, rfl, rfl, hxs, hx6⟩, rfl⟩; refine O_n ?_
  repeat' (first | refine go ?_ | intro _ | (apply cG; first | refine cT ?_ | refine cF ?_ | refine cS (fun _ => ?_) fun _ => ?_) | (apply gW; refine sW ?_) | (apply gI; refine sI ?_) | (apply gE; refine sE ?_) | (apply gP; refine sP ?_) | (apply gC; refine sC ?_) | (apply gD; refine sD ?_) | fail)
  refine O_d (dy_litS (R := eSl eB) [o] [.slice A1 o.length c1] (by rfl) (fun m h hs => ⟨⟨_, rfl, rd_mem hs (by repeat (first | exact .head _ | refine .tail _ ?_))⟩, trivial⟩)) ?_; rintro _ _ ⟨_, rfl, rfl⟩; refine O_n ?_
  refine O_d dy_append ?_; rintro _ _ ⟨A5, c5, rfl, rfl⟩; refine O_n ?_
  have hxo : xs.length + 1 = (xs ++ [o]).length := by rw [List.length_append]; rfl
  rw [hxo]
  obtain ⟨x, hx⟩ : ∃ x, xs ++ [o] = x := ⟨_, rfl⟩
  rw [hx] at hxo ⊢
  have hxall : ∀ y ∈ x, y.length ≤ 200 := by
    intro y hy
    rw [← hx] at hy
    rcases List.mem_append.1 hy with hy | hy
    · have := hxs y hy; omega
    · simp only [List.mem_cons, List.not_mem_nil, or_false] at hy
      subst hy
      exact hol
  have hx7 : x.length ≤ 7 := by omega
  refine O_frz 1 ?_
  repeat' (first | refine go ?_ | intro _ | (apply cG; first | refine cT ?_ | refine cF ?_ | refine cS (fun _ => ?_) fun _ => ?_) | (apply gW; refine sW ?_) | (apply gI; refine sI ?_) | (apply gE; refine sE ?_) | (apply gP; refine sP ?_) | (apply gC; refine sC ?_) | (apply gD; refine sD ?_) | fail)
  refine C_sub (S := rd (eSl eB) (.slice A5 x.length c5) x :: L) Sb ?_
  refine C_ownnil 5 eB ?_
  refine C_loopS (κ := Nat × Value) [false, false, false, false, false, false, false, false, false, false, false, true, true, false, false, false, false, false, false, false, false, false, false, false, false, false, false, false, false, false, false, false, false, true, true, true, true, true, true, true, true, true, true, true, true, true, true, false, false, false, false, false, false, false, false, false, false, false, false, false, false, false, false, false, false, false, false, false, false, false, false, false, false, false, false, false, false, false, false, false, false, false, false, false, false, false, false, false, false, false, false, false, false, false] (fun k => [(11, k.2), (12, .int .i64 (k.1 : Int))]) (fun k => [(0, own 5 eB k.2 (framesF 0 (x.take k.1)))]) (fun k => k.1 ≤ x.length ∧ ∃ A c, k.2 = .slice A (framesF 0 (x.take k.1)).length c) (fun k => x.length - k.1) (0, .slice none 0 0) ⟨Nat.zero_le _, none, 0, rfl⟩ ⟨rfl, rfl, trivial⟩ ?_
  rintro ⟨i, va⟩ u ⟨hi, A6, c6, hva⟩
  dsimp only at hi hva
  subst hva
  have hfl2 := framesF_len (m := 200) (x.take i) 0 (fun y hy => hxall y (List.mem_of_mem_take hy)) (by decide) (by decide) (by rw [List.length_take]; omega)
  rw [List.length_take] at hfl2
  ((try dsimp only); refine C_n ?_; (try simp only [Nat.reduceAdd, Nat.zero_add]))
  by_cases hlt : i < x.length
  · obtain ⟨y, hy⟩ : ∃ y, x[i]? = some y := ⟨_, List.getElem?_eq_getElem hlt⟩
    have hay : At x i y := ⟨hy⟩
    have hyl := hxall y (List.mem_of_getElem? hy)
    have hnext : framesF 0 (x.take (i + 1)) = framesF 0 (x.take i) ++ frameF (i : Int) y := by
      have : x.take (i + 1) = x.take i ++ [y] := by rw [List.take_add_one, hy]; rfl
      rw [this, framesF_snoc, List.length_take, Nat.min_eq_left hi, Int.zero_add]
    have hfy := frameF_len (i := (i : Int)) (x := y) (by omega) (by omega) (by omega)
    repeat' (first | refine go ?_ | intro _ | (apply cG; first | refine cT ?_ | refine cF ?_ | refine cS (fun _ => ?_) fun _ => ?_) | (apply gW; refine sW ?_) | (apply gI; refine sI ?_) | (apply gE; refine sE ?_) | (apply gP; refine sP ?_) | (apply gC; refine sC ?_) | (apply gD; refine sD ?_) | fail)
    refine O_d (dy_call ArgsI.pf (by first | exact rfl | trivial | (intro a b; rfl)) (Frame_ct (i := (i : Int)) (x := y) (.inl (.head _)) (by omega) (by omega) (by omega))) ?_; rintro _ _ ⟨_, ⟨A7, c7, rfl, rfl⟩, rfl⟩; refine O_n ?_
    refine O_d dy_append ?_; rintro _ _ ⟨A8, c8, rfl, rfl⟩; refine O_n ?_
    repeat' (first | refine go ?_ | intro _ | (apply cG; first | refine cT ?_ | refine cF ?_ | refine cS (fun _ => ?_) fun _ => ?_) | (apply gW; refine sW ?_) | (apply gI; refine sI ?_) | (apply gE; refine sE ?_) | (apply gP; refine sP ?_) | (apply gC; refine sC ?_) | (apply gD; refine sD ?_) | fail)
    have hnl : (framesF 0 (x.take i)).length + (frameF (i : Int) y).length = (framesF 0 (x.take (i + 1))).length := by rw [hnext, List.length_append]
    rw [← hnext, hnl]
    exact E_round (i + 1, .slice A8 (framesF 0 (x.take (i + 1))).length c8) ⟨hlt, A8, c8, rfl⟩ (by show x.length - (i + 1) < x.length - i; omega) ⟨rfl, rfl, trivial⟩ Sb
  obtain rfl : i = x.length := by omega
  rw [List.take_length] at hfl2 ⊢
  obtain ⟨all, hall⟩ : ∃ all, framesF 0 x = all := ⟨_, rfl⟩
  rw [hall] at hfl2 ⊢
  repeat' (first | refine go ?_ | intro _ | (apply cG; first | refine cT ?_ | refine cF ?_ | refine cS (fun _ => ?_) fun _ => ?_) | (apply gW; refine sW ?_) | (apply gI; refine sI ?_) | (apply gE; refine sE ?_) | (apply gP; refine sP ?_) | (apply gC; refine sC ?_) | (apply gD; refine sD ?_) | fail)
  refine O_d (dy_call ArgsI.pf (by first | exact rfl | trivial | (intro a b; rfl)) (Few_ct (.tail _ (.tail _ hrest)) hrl (most := 30) (by decide) (by decide))) ?_; rintro _ _ ⟨_, ⟨A9, c9, rfl, rfl⟩, rfl⟩; refine O_n ?_
  obtain ⟨w, hw⟩ : ∃ w, lr.take (Int.toNat 30) = w := ⟨_, rfl⟩
  have hwl : w.length ≤ 30 := by rw [← hw]; exact List.length_take_le _ _
  rw [hw]
  refine O_d dy_append ?_; rintro _ _ ⟨A10, c10, rfl, rfl⟩; refine O_n ?_
  obtain ⟨gs, N, hscan⟩ : ∃ gs N, scanF (all ++ w).length 0 (all ++ w) = (gs, N) := ⟨_, _, rfl⟩
  have hsf := scanF_frames x (all ++ w).length 0 w (fun y hy => by have := hxall y hy; omega) (by decide) (by omega) (by
    have := framesF_min x 0
    rw [hall] at this
    rw [List.length_append]; omega)
  rw [hall, hscan] at hsf
  obtain ⟨ys, M, hym⟩ : ∃ ys M, scanF ((all ++ w).length - x.length) (0 + x.length) w = (ys, M) := ⟨_, _, rfl⟩
  rw [hym] at hsf
  simp only [Prod.mk.injEq] at hsf
  obtain ⟨hg, hN⟩ := hsf
  have hgl := scanF_le (all ++ w).length 0 (all ++ w)
  have hgm := scanF_mem (all ++ w).length 0 (all ++ w)
  rw [hscan] at hgl hgm
  dsimp only at hgl hgm
  have hlen : (all ++ w).length = all.length + w.length := List.length_append
  have hgx : x.length ≤ gs.length := by rw [hg, List.length_append]; omega
  have hal0 : all.length ≤ N := by omega
  have hgt : gs.take x.length = x := by rw [hg, List.take_left]
  rw [← hlen]
  refine O_frz 1 ?_
  obtain ⟨b, hbd⟩ : ∃ b, all ++ w = b := ⟨_, rfl⟩
  rw [hbd] at hscan hgl hgm hlen ⊢
  clear hg hym
  repeat' (first | refine go ?_ | intro _ | (apply cG; first | refine cT ?_ | refine cF ?_ | refine cS (fun _ => ?_) fun _ => ?_) | (apply gW; refine sW ?_) | (apply gI; refine sI ?_) | (apply gE; refine sE ?_) | (apply gP; refine sP ?_) | (apply gC; refine sC ?_) | (apply gD; refine sD ?_) | fail)
  refine O_d (dy_call ArgsI.pf (by first | exact rfl | trivial | (intro a b; rfl)) (Scan_ct (b := b) (.tail _ (.head _)) (by omega) hscan)) ?_; rintro _ _ ⟨_, ⟨A11, c11, rfl, rfl⟩, rfl⟩; refine O_n ?_
  refine O_frz 0 ?_
  repeat' (first | refine go ?_ | intro _ | (apply cG; first | refine cT ?_ | refine cF ?_ | refine cS (fun _ => ?_) fun _ => ?_) | (apply gW; refine sW ?_) | (apply gI; refine sI ?_) | (apply gE; refine sE ?_) | (apply gP; refine sP ?_) | (apply gC; refine sC ?_) | (apply gD; refine sD ?_) | fail)
  refine O_d (dy_call ArgsI.pf (by first | exact rfl | trivial | (intro a b; rfl)) (fScan_ct (b := b) (.tail _ (.tail _ (.head _))) (by omega) hscan)) ?_; rintro _ _ ⟨_, ⟨A12, c12, rfl, rfl⟩, rfl⟩; refine O_n ?_
  refine O_frz 0 ?_
  repeat' (first | refine go ?_ | intro _ | (apply cG; first | refine cT ?_ | refine cF ?_ | refine cS (fun _ => ?_) fun _ => ?_) | (apply gW; refine sW ?_) | (apply gI; refine sI ?_) | (apply gE; refine sE ?_) | (apply gP; refine sP ?_) | (apply gC; refine sC ?_) | (apply gD; refine sD ?_) | fail)
  have hgl2 : ∀ y ∈ gs, y.length ≤ 10000000 := fun y hy => by have := hgm y hy; omega
  have hxl2 : ∀ y ∈ x, y.length ≤ 10000000 := fun y hy => by have := hxall y hy; omega
  refine O_d (dy_call ArgsI.pf (by first | exact rfl | trivial | (intro a b; rfl)) (SameLists_ct (la := gs) (lb := gs) (.tail _ (.head _)) (.head _) (by omega) (by omega) hgl2 hgl2 (q := true) (decide_eq_true rfl))) ?_; rintro _ _ ⟨_, ⟨rfl, hLL⟩, rfl⟩; replace hLL := hLL.symm; subst hLL; refine O_n ?_
  refine O_fact (fun w s => ((Src.sl (.inl (.tail _ (.head _))) s).form)) ?_
  rintro ⟨_, c13, he13, hc13⟩
  injection he13 with _ _ he13
  subst he13
  repeat' (first | refine go ?_ | intro _ | (apply cG; first | refine cT ?_ | refine cF ?_ | refine cS (fun _ => ?_) fun _ => ?_) | (apply gW; refine sW ?_) | (apply gI; refine sI ?_) | (apply gE; refine sE ?_) | (apply gP; refine sP ?_) | (apply gC; refine sC ?_) | (apply gD; refine sD ?_) | fail)
  rw [List.drop_zero, hgt]
  refine O_d (dy_call ArgsI.pf (by first | exact rfl | trivial | (intro a b; rfl)) (SameLists_ct (la := x) (lb := x) (.head _) (.tail _ (.tail _ (.tail _ (.tail _ (.tail _ (.head _)))))) (by omega) (by omega) hxl2 hxl2 (q := true) (decide_eq_true rfl))) ?_; rintro _ _ ⟨_, ⟨rfl, hLL⟩, rfl⟩; replace hLL := hLL.symm; subst hLL; refine O_n ?_
  repeat' (first | refine go ?_ | intro _ | (apply cG; first | refine cT ?_ | refine cF ?_ | refine cS (fun _ => ?_) fun _ => ?_) | (apply gW; refine sW ?_) | (apply gI; refine sI ?_) | (apply gE; refine sE ?_) | (apply gP; refine sP ?_) | (apply gC; refine sC ?_) | (apply gD; refine sD ?_) | fail)
  refine O_d (dy_call ArgsI.pf (by first | exact rfl | trivial | (intro a b; rfl)) (lives_ct)) ?_; rintro _ _ ⟨_, ⟨rfl, hLL⟩, rfl⟩; replace hLL := hLL.symm; subst hLL; refine O_n ?_
  repeat' (first | refine go ?_ | intro _ | (apply cG; first | refine cT ?_ | refine cF ?_ | refine cS (fun _ => ?_) fun _ => ?_) | (apply gW; refine sW ?_) | (apply gI; refine sI ?_) | (apply gE; refine sE ?_) | (apply gP; refine sP ?_) | (apply gC; refine sC ?_) | (apply gD; refine sD ?_) | fail)
  refine E_res1 (by rfl) (by rfl) ⟨rfl, rfl⟩ Sb
theorem JournalFrames_any {v vb vr : Value} {li : List Int} {lb lr : List UInt8} {num : Int} {w : World} (s : St w w [rd eI v li, rd eB vb lb, rd eB vr lr]) (hl : li.length ≤ 9223372036854775807) (hr : ∀ n ∈ li, -9223372036854775808 ≤ n ∧ n ≤ 9223372036854775807) (hn1 : -9223372036854775808 ≤ num) (hn2 : num ≤ 9223372036854775807)
    (hbl : lb.length ≤ 9223372036854775807) (hrl : lr.length ≤ 9223372036854775807) :
    Calls Try.prog 5 #[v, .int .i64 num, vb, vr] w fun e w' => e = .returned (.bool true) ∧ Below w.heap.size w w' :=
  ((JournalFrames_ct (W0 := w) (.head _) hl hr hn1 hn2 (.tail _ (.head _)) hbl (.tail _ (.tail _ (.head _))) hrl).run w s).mono fun e w' h => by
    obtain ⟨v, L', rfl, ⟨rfl, rfl⟩, s⟩ := h
    exact ⟨rfl, s.below⟩
end
end Go.Proofs.Ytbjaecofccpahaa
