/-
  Walks: JournalDurable.
-/
import Derived.Test.YtbjaecofccpahaaMY
import Derived.Test.YtbjaecofccpahaaMX
namespace Go.Proofs.Ytbjaecofccpahaa
open Go Go.RowKit
set_option linter.unusedVariables false
set_option linter.unusedSimpArgs false
set_option maxRecDepth 20000
set_option synthInstance.maxSize 100000
set_option synthInstance.maxHeartbeats 400000
structure US where
  i : Nat
  j : Nat
  t : Nat
  dn : Bool
  d : DK
theorem take_snoc {α : Type} {xs : List α} {i : Nat} {x : α} (h : xs[i]? = some x) : xs.take (i + 1) = xs.take i ++ [x] := by rw [List.take_add_one, h]; rfl
theorem frames_next {xs : List (List UInt8)} {i : Nat} {x : List UInt8} (hi : i ≤ xs.length) (h : xs[i]? = some x) : framesF 0 (xs.take (i + 1)) = framesF 0 (xs.take i) ++ frameF (i : Int) x := by
  rw [take_snoc h, framesF_snoc, List.length_take, Nat.min_eq_left hi, Int.zero_add]
/-- what the crash leaves, as Scan sees it -/
theorem dur_scan {xs : List (List UInt8)} {j t : Nat} {dn : Bool} {M : Nat} (hxs : ∀ x ∈ xs, x.length ≤ 10) (hx6 : xs.length ≤ 6) (hs : (dn = false ∧ j = xs.length ∧ t = j) ∨ (dn = true ∧ j < xs.length ∧ t = j + 1)) (hM : (framesF 0 (xs.take j)).length ≤ M) :
    ∃ g, j ≤ g ∧ g ≤ t ∧ g ≤ xs.length ∧ scanF ((framesF 0 (xs.take t)).take M).length 0 ((framesF 0 (xs.take t)).take M) = (xs.take g, (framesF 0 (xs.take g)).length) ∧ ((framesF 0 (xs.take t)).take M).take (framesF 0 (xs.take g)).length = framesF 0 (xs.take g) := by
  rcases hs with ⟨_, rfl, rfl⟩ | ⟨_, hj, rfl⟩
  · rw [List.take_length] at hM ⊢
    refine ⟨xs.length, Nat.le_refl _, Nat.le_refl _, Nat.le_refl _, ?_⟩
    rw [List.take_length, List.take_of_length_le hM]
    exact ⟨scan_frames (fun y hy => by have := hxs y hy; omega) (by omega), List.take_length⟩
  · obtain ⟨x, hx⟩ : ∃ x, xs[j]? = some x := ⟨_, List.getElem?_eq_getElem hj⟩
    have hlt : (xs.take j).length = j := by rw [List.length_take]; omega
    have e : (framesF 0 (xs.take (j + 1))).take M = framesF 0 (xs.take j) ++ (frameF ((xs.take j).length : Int) x).take (M - (framesF 0 (xs.take j)).length) := by
      rw [frames_next (by omega) hx, List.take_append, List.take_of_length_le hM, hlt]
    obtain ⟨g, hg, h1, h2⟩ := scan_cut (xs := xs.take j) (x := x) (m := M - (framesF 0 (xs.take j)).length) (fun y hy => by have := hxs y (List.mem_of_mem_take hy); omega) (by have := hxs x (List.mem_of_getElem? hx); omega) (by omega)
    rw [← take_snoc hx, List.take_take] at h1 h2
    rw [hlt] at hg
    have hmin : min g (j + 1) = g := by omega
    rw [hmin] at h1 h2
    rw [e]
    exact ⟨g, by omega, by omega, by omega, h1, h2⟩
section
variable {W0 : World} {L : List HP}
set_option maxHeartbeats 4000000 in
theorem JournalDurable_ct {v vn : Value} {li : List Int} {ln : List UInt8} {when keep : Int} (hv : rd eI v li ∈ L) (hl : li.length ≤ 9223372036854775807) (hr : ∀ n ∈ li, -9223372036854775808 ≤ n ∧ n ≤ 9223372036854775807)
    (hw1 : -9223372036854775808 ≤ when) (hw2 : when ≤ 9223372036854775807) (hk1 : -9223372036854775808 ≤ keep) (hk2 : keep ≤ 9223372036854775807) (hb : rd eB vn ln ∈ L) (hbl : ln.length ≤ 9223372036854775807) :
    CT Try.prog 3 #[v, .int .i64 when, .int .i64 keep, vn] W0 L fun r L' => r = .bool true ∧ L' = L := by
  refine CT_enter Try.func3 rfl ?_; (simp only [Try.ntmps3, List.size_toArray, List.length_cons, List.length_nil, Nat.reduceAdd, Nat.reduceSub, Array.replicate_succ, Array.replicate_zero, List.push_toArray, List.append_toArray, List.nil_append, List.cons_append])
  repeat' (first | refine go ?_ | intro _ | (apply cG; first | refine cT ?_ | refine cF ?_ | refine cS (fun _ => ?_) fun _ => ?_) | (apply gW; refine sW ?_) | (apply gI; refine sI ?_) | (apply gE; refine sE ?_) | (apply gP; refine sP ?_) | (apply gC; refine sC ?_) | (apply gD; refine sD ?_) | fail)
  refine O_d (dy_call ArgsI.pf (by first | exact rfl | trivial | (intro a b; rfl)) (fresh_ct (room := 5000) (by decide) (by decide))) ?_; rintro _ _ ⟨_, ⟨p, rfl, rfl⟩, rfl⟩; refine O_n ?_
  repeat' (first | refine go ?_ | intro _ | (apply cG; first | refine cT ?_ | refine cF ?_ | refine cS (fun _ => ?_) fun _ => ?_) | (apply gW; refine sW ?_) | (apply gI; refine sI ?_) | (apply gE; refine sE ?_) | (apply gP; refine sP ?_) | (apply gC; refine sC ?_) | (apply gD; refine sD ?_) | fail)
  refine O_d (dy_call ArgsI.pf (by first | exact rfl | trivial | (intro a b; rfl)) (CT.pull (i := 0) (by rfl) (Open_cut (xs := []) (N := 0) (J1.begun (k := 5000) (by decide) (by decide) 0) rfl rfl (by decide) (by decide) (by decide) (by decide) (by rfl)))) ?_; rintro _ _ ⟨_, ⟨d1, q, A3, c3, hj1, ho1, ha1, hl1, rfl, rfl⟩, rfl⟩; refine O_n ?_
  replace hj1 : J1 d1 0 5000 [] 0 := hj1
  replace hl1 : d1.left = 0 := hl1
  repeat' (first | refine go ?_ | intro _ | (apply cG; first | refine cT ?_ | refine cF ?_ | refine cS (fun _ => ?_) fun _ => ?_) | (apply gW; refine sW ?_) | (apply gI; refine sI ?_) | (apply gE; refine sE ?_) | (apply gP; refine sP ?_) | (apply gC; refine sC ?_) | (apply gD; refine sD ?_) | fail)
  refine O_d (dy_call ArgsI.pf (by first | exact rfl | trivial | (intro a b; rfl)) (Around_ct (most := 13) hw1 hw2 (by decide) (by decide))) ?_; rintro _ _ ⟨_, ⟨rfl, hLL⟩, rfl⟩; replace hLL := hLL.symm; subst hLL; refine O_n ?_
  obtain ⟨wn, hwn, hwn2⟩ : ∃ k : Nat, around when 13 = (k : Int) ∧ k < 13 := by
    have := around_in (n := when) (most := 13) (by decide)
    exact ⟨(around when 13).toNat, by omega, by omega⟩
  rw [hwn]
  repeat' (first | refine go ?_ | intro _ | (apply cG; first | refine cT ?_ | refine cF ?_ | refine cS (fun _ => ?_) fun _ => ?_) | (apply gW; refine sW ?_) | (apply gI; refine sI ?_) | (apply gE; refine sE ?_) | (apply gP; refine sP ?_) | (apply gC; refine sC ?_) | (apply gD; refine sD ?_) | fail)
  obtain ⟨files, room, off, armed, left⟩ := d1
  replace ho1 : off = false := ho1
  replace ha1 : armed = false := ha1
  subst ho1 ha1
  refine O_front 2 rfl EAt.pf ?_
  refine O_d (dy_call ArgsI.pf (by first | exact rfl | trivial | (intro a b; rfl)) (dArm_ct (n := (wn : Int)))) ?_; rintro _ _ ⟨_, ⟨rfl, rfl⟩, rfl⟩; refine O_n ?_
  have hdec : decide ((0 : Int) ≤ (wn : Int)) = true := decide_eq_true (by omega)
  rw [hdec]
  replace hj1 := hj1.any (off' := false) (armed' := true) (left' := (wn : Int))
  repeat' (first | refine go ?_ | intro _ | (apply cG; first | refine cT ?_ | refine cF ?_ | refine cS (fun _ => ?_) fun _ => ?_) | (apply gW; refine sW ?_) | (apply gI; refine sI ?_) | (apply gE; refine sE ?_) | (apply gP; refine sP ?_) | (apply gC; refine sC ?_) | (apply gD; refine sD ?_) | fail)
  refine O_d (dy_call ArgsI.pf (by first | exact rfl | trivial | (intro a b; rfl)) (Records_ct (.tail _ (.tail _ (.tail _ hv))) hl hr)) ?_; rintro _ _ ⟨_, ⟨A4, c4, xs, rfl, rfl, hxs, hx6⟩, rfl⟩; refine O_n ?_
  refine O_frz 0 ?_
  refine O_fact (fun w s => ((Src.sl (.inl (.head _)) s).form)) ?_
  rintro ⟨_, c13, he13, hc13⟩
  injection he13 with _ _ he13
  subst he13
  repeat' (first | refine go ?_ | intro _ | (apply cG; first | refine cT ?_ | refine cF ?_ | refine cS (fun _ => ?_) fun _ => ?_) | (apply gW; refine sW ?_) | (apply gI; refine sI ?_) | (apply gE; refine sE ?_) | (apply gP; refine sP ?_) | (apply gC; refine sC ?_) | (apply gD; refine sD ?_) | fail)
  refine C_sub (S := cel q [.pointer (some ⟨p, 0, none⟩), .int .i64 0, .int .i64 ((0 : Nat) : Int), .bool false] 70 :: dsk p ⟨files, room, false, true, (wn : Int)⟩ :: rd (eSl eB) (.slice A4 xs.length c4) xs :: L) Sb ?_
  refine C_loopS (κ := US) [false, false, false, false, false, false, false, false, false, false, false, false, false, false, true, true, true, false, false, false, false, false, false, false, false, false, false, false, false, false, false, false, false, false, false, false, false, false, false, false, false, false, false, false, false, true, true, true, true, true, true, true, true, true, true, true, true, true, true, true, true, true, true, true, true, true, false, false, false, false, false, false, false, false, false, false, false, false, false, false, false, false, false, false, false, false, false, false, false, false, false, false, false, false, false, false, false, false, false, false, false, false, false, false, false, false, false, false, false, false, false, false, false, false, false, false, false, false, false, false, false, false, false, false, false, false, false, false, false, false, false, false, false, false, false, false, false, false, false, false, false, false, false, false, false, false, false, false, false, false, false, false, false, false, false, false, false] (fun k => [(14, .int .i64 (k.j : Int)), (15, .int .i64 (k.t : Int)), (16, .int .i64 (k.i : Int))]) (fun k => [(0, cel q [.pointer (some ⟨p, 0, none⟩), .int .i64 0, .int .i64 (k.j : Int), .bool k.dn] 70), (1, dsk p k.d)]) (fun k => k.i ≤ xs.length ∧ ((false = k.dn ∧ k.i = k.j ∧ k.i = k.t ∧ J1 k.d 0 5000 (framesF 0 (xs.take k.i)) (framesF 0 (xs.take k.i)).length ∧ k.d.off = false ∧ k.d.armed = true ∧ k.d.left = (wn : Int) - 2 * (k.i : Int)) ∨ (true = k.dn ∧ k.j < k.i ∧ k.j + 1 = k.t ∧ J1 k.d 0 5000 (framesF 0 (xs.take (k.j + 1))) (framesF 0 (xs.take k.j)).length ∧ -1000 ≤ k.d.left ∧ k.d.left ≤ 1000))) (fun k => xs.length - k.i) ⟨0, 0, 0, false, ⟨files, room, false, true, (wn : Int)⟩⟩ ⟨Nat.zero_le _, .inl ⟨rfl, rfl, rfl, hj1, rfl, rfl, by dsimp only; omega⟩⟩ ⟨rfl, rfl, rfl, trivial⟩ ?_ Sb
  rintro ⟨i, j, t, dn, d⟩ u ⟨hi, hs⟩
  dsimp only at hi hs
  dsimp only
  ((try dsimp only); refine C_n ?_; (try simp only [Nat.reduceAdd, Nat.zero_add]))
  have hfk : (0 : Int) ≤ 0 ∧ (0 : Int) < 64 := by decide
  have hU := framesF_len (m := 10) (xs.take i) 0 (fun y hy => hxs y (List.mem_of_mem_take hy)) (by decide) (by decide) (by rw [List.length_take]; omega)
  rw [List.length_take] at hU
  by_cases hlt : i < xs.length
  · obtain ⟨x, hx⟩ : ∃ x, xs[i]? = some x := ⟨_, List.getElem?_eq_getElem hlt⟩
    have hax : At xs i x := ⟨hx⟩
    have hxl := hxs x (List.mem_of_getElem? hx)
    have hFl := frameF_len (i := (i : Int)) (x := x) (by omega) (by omega) (by omega)
    have hnext := frames_next hi hx
    rcases hs with ⟨rfl, rfl, rfl, hj, ho, ha, hle⟩ | ⟨rfl, hji, rfl, hj, hl1, hl2⟩
    · by_cases h2 : 2 ≤ d.left
      · repeat' (first | refine go ?_ | intro _ | (apply cG; first | refine cT ?_ | refine cF ?_ | refine cS (fun _ => ?_) fun _ => ?_) | (apply gW; refine sW ?_) | (apply gI; refine sI ?_) | (apply gE; refine sE ?_) | (apply gP; refine sP ?_) | (apply gC; refine sC ?_) | (apply gD; refine sD ?_) | fail)
        refine O_front 2 rfl EAt.pf ?_
        refine O_front 2 rfl EAt.pf ?_
        refine O_d (dy_call ArgsI.pf (by first | exact rfl | trivial | (intro a b; rfl)) ((LApp_go2 (n := (i : Int)) (b := x) (.inl (.head _)) (by omega) (by omega) (by omega) hj hfk ho ha h2 (by omega) (by omega)))) ?_; rintro _ _ ⟨_, ⟨d', hj', ho', ha', hl', rfl, rfl⟩, rfl⟩; refine O_n ?_
        rw [← hnext] at hj'
        rw [show (i : Int) + 1 = ((i + 1 : Nat) : Int) from rfl]
        repeat' (first | refine go ?_ | intro _ | (apply cG; first | refine cT ?_ | refine cF ?_ | refine cS (fun _ => ?_) fun _ => ?_) | (apply gW; refine sW ?_) | (apply gI; refine sI ?_) | (apply gE; refine sE ?_) | (apply gP; refine sP ?_) | (apply gC; refine sC ?_) | (apply gD; refine sD ?_) | fail)
        exact E_round ⟨i + 1, i + 1, i + 1, false, d'⟩ ⟨hlt, .inl ⟨rfl, rfl, rfl, hj', ho', ha', by dsimp only; omega⟩⟩ (by show xs.length - (i + 1) < xs.length - i; omega) ⟨rfl, rfl, rfl, trivial⟩ Sb
      · repeat' (first | refine go ?_ | intro _ | (apply cG; first | refine cT ?_ | refine cF ?_ | refine cS (fun _ => ?_) fun _ => ?_) | (apply gW; refine sW ?_) | (apply gI; refine sI ?_) | (apply gE; refine sE ?_) | (apply gP; refine sP ?_) | (apply gC; refine sC ?_) | (apply gD; refine sD ?_) | fail)
        refine O_front 2 rfl EAt.pf ?_
        refine O_front 2 rfl EAt.pf ?_
        refine O_d (dy_call ArgsI.pf (by first | exact rfl | trivial | (intro a b; rfl)) ((LApp_fail (n := (i : Int)) (b := x) (.inl (.head _)) (by omega) (by omega) (by omega) hj hfk ho ha (by omega) (by omega) (by omega)))) ?_; rintro _ _ ⟨_, ⟨d', hj', ho', hl1', hl2', rfl, rfl⟩, rfl⟩; refine O_n ?_
        rw [← hnext] at hj'
        repeat' (first | refine go ?_ | intro _ | (apply cG; first | refine cT ?_ | refine cF ?_ | refine cS (fun _ => ?_) fun _ => ?_) | (apply gW; refine sW ?_) | (apply gI; refine sI ?_) | (apply gE; refine sE ?_) | (apply gP; refine sP ?_) | (apply gC; refine sC ?_) | (apply gD; refine sD ?_) | fail)
        exact E_round ⟨i + 1, i, i + 1, true, d'⟩ ⟨hlt, .inr ⟨rfl, Nat.lt_succ_self _, rfl, hj', by dsimp only; omega, by dsimp only; omega⟩⟩ (by show xs.length - (i + 1) < xs.length - i; omega) ⟨rfl, rfl, rfl, trivial⟩ Sb
    · have hne : j ≠ i := by omega
      repeat' (first | refine go ?_ | intro _ | (apply cG; first | refine cT ?_ | refine cF ?_ | refine cS (fun _ => ?_) fun _ => ?_) | (apply gW; refine sW ?_) | (apply gI; refine sI ?_) | (apply gE; refine sE ?_) | (apply gP; refine sP ?_) | (apply gC; refine sC ?_) | (apply gD; refine sD ?_) | fail)
      refine O_front 2 rfl EAt.pf ?_
      refine O_front 2 rfl EAt.pf ?_
      refine O_d (dy_call ArgsI.pf (by first | exact rfl | trivial | (intro a b; rfl)) ((LApp_down (n := (j : Int)) (b := x) (.inl (.head _)) (by omega) (by omega) (by omega) hj.ok (by omega) (by omega)))) ?_; rintro _ _ ⟨_, ⟨rfl, rfl⟩, rfl⟩; refine O_n ?_
      repeat' (first | refine go ?_ | intro _ | (apply cG; first | refine cT ?_ | refine cF ?_ | refine cS (fun _ => ?_) fun _ => ?_) | (apply gW; refine sW ?_) | (apply gI; refine sI ?_) | (apply gE; refine sE ?_) | (apply gP; refine sP ?_) | (apply gC; refine sC ?_) | (apply gD; refine sD ?_) | fail)
      exact E_round ⟨i + 1, j, j + 1, true, d⟩ ⟨hlt, .inr ⟨rfl, by dsimp only; omega, rfl, hj, hl1, hl2⟩⟩ (by show xs.length - (i + 1) < xs.length - i; omega) ⟨rfl, rfl, rfl, trivial⟩ Sb
  have hix : i = xs.length := by omega
  have hs2 : J1 d 0 5000 (framesF 0 (xs.take t)) (framesF 0 (xs.take j)).length ∧ ((dn = false ∧ j = xs.length ∧ t = j) ∨ (dn = true ∧ j < xs.length ∧ t = j + 1)) ∧ -1000 ≤ d.left ∧ d.left ≤ 1000 := by
    rcases hs with ⟨rfl, rfl, rfl, hj, ho, ha, hle⟩ | ⟨rfl, hji, rfl, hj, hl1, hl2⟩
    · exact ⟨hj, .inl ⟨rfl, hix, rfl⟩, by omega, by omega⟩
    · exact ⟨hj, .inr ⟨rfl, by omega, rfl⟩, hl1, hl2⟩
  obtain ⟨hj, hc, hl1, hl2⟩ := hs2
  obtain ⟨M, hM1, hM2, hM⟩ := crB_pre [keep] _ _ hj.dl
  obtain ⟨g, hg1, hg2, hg3, hsc, htk⟩ := dur_scan hxs hx6 hc hM1
  have hUt := framesF_len (m := 10) (xs.take t) 0 (fun y hy => hxs y (List.mem_of_mem_take hy)) (by decide) (by decide) (by rw [List.length_take]; omega)
  rw [List.length_take] at hUt
  have hgl : (xs.take g).length = g := by rw [List.length_take]; omega
  have hUg := framesF_len (m := 10) (xs.take g) 0 (fun y hy => hxs y (List.mem_of_mem_take hy)) (by decide) (by decide) (by omega)
  rw [hgl] at hUg
  have hjle : j ≤ xs.length := by omega
  clear hs hU
  subst hix
  rcases hc with ⟨rfl, hjx, htx⟩ | ⟨rfl, hjx, htx⟩
  all_goals
    repeat' (first | refine go ?_ | intro _ | (apply cG; first | refine cT ?_ | refine cF ?_ | refine cS (fun _ => ?_) fun _ => ?_) | (apply gW; refine sW ?_) | (apply gI; refine sI ?_) | (apply gE; refine sE ?_) | (apply gP; refine sP ?_) | (apply gC; refine sC ?_) | (apply gD; refine sD ?_) | fail)
    refine O_d (dy_call ArgsI.pf (by first | exact rfl | trivial | (intro a b; rfl)) (CT.pull (i := 0) (by rfl) (Len_ct))) ?_; rintro _ _ ⟨_, ⟨rfl, rfl⟩, rfl⟩; refine O_n ?_
    repeat' (first | refine go ?_ | intro _ | (apply cG; first | refine cT ?_ | refine cF ?_ | refine cS (fun _ => ?_) fun _ => ?_) | (apply gW; refine sW ?_) | (apply gI; refine sI ?_) | (apply gE; refine sE ?_) | (apply gP; refine sP ?_) | (apply gC; refine sC ?_) | (apply gD; refine sD ?_) | fail)
    refine O_d (dy_call ArgsI.pf (by first | exact rfl | trivial | (intro a b; rfl)) (CT.pull (i := 0) (by rfl) (Up_ct))) ?_; rintro _ _ ⟨_, ⟨rfl, rfl⟩, rfl⟩; refine O_n ?_
    (try simp only [Bool.not_false, Bool.not_true])
    repeat' (first | refine go ?_ | intro _ | (apply cG; first | refine cT ?_ | refine cF ?_ | refine cS (fun _ => ?_) fun _ => ?_) | (apply gW; refine sW ?_) | (apply gI; refine sI ?_) | (apply gE; refine sE ?_) | (apply gP; refine sP ?_) | (apply gC; refine sC ?_) | (apply gD; refine sD ?_) | fail)
    refine O_d (dy_litP (f := iv) (hf := fun _ => rfl) [keep] (by rfl)) ?_; rintro _ LI' ⟨_, rfl, hLL⟩; replace hLL : LI' = own _ eI _ _ :: _ := hLL; subst hLL; refine O_n ?_
    refine O_frz 0 ?_
    repeat' (first | refine go ?_ | intro _ | (apply cG; first | refine cT ?_ | refine cF ?_ | refine cS (fun _ => ?_) fun _ => ?_) | (apply gW; refine sW ?_) | (apply gI; refine sI ?_) | (apply gE; refine sE ?_) | (apply gP; refine sP ?_) | (apply gC; refine sC ?_) | (apply gD; refine sD ?_) | fail)
    refine O_front 2 rfl EAt.pf ?_
    refine O_d (dy_call ArgsI.pf (by first | exact rfl | trivial | (intro a b; rfl)) (Crash_j1 (kp := [keep]) (z := -1) hj (.head _) (by show 1 ≤ 1000000000; decide) (fun y hy => by simp only [List.mem_cons, List.not_mem_nil, or_false] at hy; subst hy; exact ⟨hk1, hk2⟩) (by decide) (by decide))) ?_; rintro _ _ ⟨_, ⟨d3, hj3, ho3, ha3, hl3', rfl, rfl⟩, rfl⟩; refine O_n ?_
    rw [hM] at hj3
    repeat' (first | refine go ?_ | intro _ | (apply cG; first | refine cT ?_ | refine cF ?_ | refine cS (fun _ => ?_) fun _ => ?_) | (apply gW; refine sW ?_) | (apply gI; refine sI ?_) | (apply gE; refine sE ?_) | (apply gP; refine sP ?_) | (apply gC; refine sC ?_) | (apply gD; refine sD ?_) | fail)
    refine O_d (dy_call ArgsI.pf (by first | exact rfl | trivial | (intro a b; rfl)) (CT.pull (i := 0) (by rfl) (Open_cut (xs := xs.take g) (N := (framesF 0 (xs.take g)).length) hj3 ho3 ha3 (by omega) (by omega) hfk (by rw [List.length_take]; omega) hsc))) ?_; rintro _ _ ⟨_, ⟨d4, q4, A6, c6, hj4, ho4, ha4, hl4, rfl, rfl⟩, rfl⟩; refine O_n ?_
    rw [htk] at hj4
    rw [hgl]
    refine O_frz 1 ?_
    repeat' (first | refine go ?_ | intro _ | (apply cG; first | refine cT ?_ | refine cF ?_ | refine cS (fun _ => ?_) fun _ => ?_) | (apply gW; refine sW ?_) | (apply gI; refine sI ?_) | (apply gE; refine sE ?_) | (apply gP; refine sP ?_) | (apply gC; refine sC ?_) | (apply gD; refine sD ?_) | fail)
    rw [List.drop_zero]
    have hx2 : ∀ y ∈ xs.take g, y.length ≤ 10000000 := fun y hy => by have := hxs y (List.mem_of_mem_take hy); omega
    refine O_d (dy_call ArgsI.pf (by first | exact rfl | trivial | (intro a b; rfl)) (SameLists_ct (la := xs.take g) (lb := xs.take g) (.tail _ (.tail _ (.head _))) (.head _) (by omega) (by omega) hx2 hx2 (q := true) (decide_eq_true rfl))) ?_; rintro _ _ ⟨_, ⟨rfl, hLL⟩, rfl⟩; replace hLL := hLL.symm; subst hLL; refine O_n ?_
    repeat' (first | refine go ?_ | intro _ | (apply cG; first | refine cT ?_ | refine cF ?_ | refine cS (fun _ => ?_) fun _ => ?_) | (apply gW; refine sW ?_) | (apply gI; refine sI ?_) | (apply gE; refine sE ?_) | (apply gP; refine sP ?_) | (apply gC; refine sC ?_) | (apply gD; refine sD ?_) | fail)
    refine O_d (dy_call ArgsI.pf (by first | exact rfl | trivial | (intro a b; rfl)) (CT.pull (i := 1) (by rfl) (Len_ct))) ?_; rintro _ _ ⟨_, ⟨rfl, rfl⟩, rfl⟩; refine O_n ?_
    repeat' (first | refine go ?_ | intro _ | (apply cG; first | refine cT ?_ | refine cF ?_ | refine cS (fun _ => ?_) fun _ => ?_) | (apply gW; refine sW ?_) | (apply gI; refine sI ?_) | (apply gE; refine sE ?_) | (apply gP; refine sP ?_) | (apply gC; refine sC ?_) | (apply gD; refine sD ?_) | fail)
    refine O_d (dy_call ArgsI.pf (by first | exact rfl | trivial | (intro a b; rfl)) (Few_ct (.tail _ (.tail _ (.tail _ (.tail _ (.tail _ (.tail _ (.tail _ hb))))))) hbl (most := 50) (by decide) (by decide))) ?_; rintro _ _ ⟨_, ⟨A8, c8, rfl, rfl⟩, rfl⟩; refine O_n ?_
    obtain ⟨fb, hfb⟩ : ∃ fb, ln.take (Int.toNat 50) = fb := ⟨_, rfl⟩
    have hfbl : fb.length ≤ 50 := by rw [← hfb]; exact List.length_take_le _ _
    rw [hfb]
    have hFl := frameF_len (i := (g : Int)) (x := fb) (by omega) (by omega) (by omega)
    refine O_frz 0 ?_
    repeat' (first | refine go ?_ | intro _ | (apply cG; first | refine cT ?_ | refine cF ?_ | refine cS (fun _ => ?_) fun _ => ?_) | (apply gW; refine sW ?_) | (apply gI; refine sI ?_) | (apply gE; refine sE ?_) | (apply gP; refine sP ?_) | (apply gC; refine sC ?_) | (apply gD; refine sD ?_) | fail)
    refine O_front 4 rfl EAt.pf ?_
    refine O_front 2 rfl EAt.pf ?_
    refine O_d (dy_call ArgsI.pf (by first | exact rfl | trivial | (intro a b; rfl)) ((LApp_go1 (n := (g : Int)) (b := fb) (.inl (.head _)) (by omega) (by omega) (by omega) hj4 hfk ho4 ha4 (by omega) (by omega) (by omega)))) ?_; rintro _ _ ⟨_, ⟨d5, hj5, ho5, ha5, hl5, rfl, rfl⟩, rfl⟩; refine O_n ?_
    have hsn : framesF 0 (xs.take g) ++ frameF (g : Int) fb = framesF 0 (xs.take g ++ [fb]) := by rw [framesF_snoc, hgl, Int.zero_add]
    rw [hsn] at hj5
    have hls : (xs.take g ++ [fb]).length = g + 1 := by rw [List.length_append, hgl]; rfl
    have hUs := congrArg List.length hsn
    rw [List.length_append] at hUs
    have hsc2 : scanF (framesF 0 (xs.take g ++ [fb])).length 0 (framesF 0 (xs.take g ++ [fb])) = (xs.take g ++ [fb], (framesF 0 (xs.take g ++ [fb])).length) := by
      refine scan_frames (fun y hy => ?_) (by omega)
      rcases List.mem_append.1 hy with hy | hy
      · have := hx2 y hy
        have := hxs y (List.mem_of_mem_take hy)
        omega
      · simp only [List.mem_cons, List.not_mem_nil, or_false] at hy
        subst hy
        omega
    repeat' (first | refine go ?_ | intro _ | (apply cG; first | refine cT ?_ | refine cF ?_ | refine cS (fun _ => ?_) fun _ => ?_) | (apply gW; refine sW ?_) | (apply gI; refine sI ?_) | (apply gE; refine sE ?_) | (apply gP; refine sP ?_) | (apply gC; refine sC ?_) | (apply gD; refine sD ?_) | fail)
    refine O_front 1 rfl EAt.pf ?_
    refine O_d (dy_call ArgsI.pf (by first | exact rfl | trivial | (intro a b; rfl)) (Open_cut (xs := xs.take g ++ [fb]) (N := (framesF 0 (xs.take g ++ [fb])).length) hj5 ho5 ha5 (by omega) (by omega) hfk (by omega) hsc2)) ?_; rintro _ _ ⟨_, ⟨d6, q6, A9, c9, hj6, ho6, ha6, hl6, rfl, rfl⟩, rfl⟩; refine O_n ?_
    rw [hls]
    refine O_frz 1 ?_
    have haf : At (xs.take g ++ [fb]) g fb := ⟨by rw [List.getElem?_append_right (by omega), hgl, Nat.sub_self]; rfl⟩
    repeat' (first | refine go ?_ | intro _ | (apply cG; first | refine cT ?_ | refine cF ?_ | refine cS (fun _ => ?_) fun _ => ?_) | (apply gW; refine sW ?_) | (apply gI; refine sI ?_) | (apply gE; refine sE ?_) | (apply gP; refine sP ?_) | (apply gC; refine sC ?_) | (apply gD; refine sD ?_) | fail)
    refine O_d (dy_call ArgsI.pf (by first | exact rfl | trivial | (intro a b; rfl)) (SameBytes_ct (la := fb) (lb := fb) (.inl (.head _)) (.inl (.tail _ (.tail _ (.tail _ (.tail _ (.tail _ (.head _))))))) (by omega) (by omega) (q := true) (decide_eq_true rfl))) ?_; rintro _ _ ⟨_, ⟨rfl, hLL⟩, rfl⟩; replace hLL := hLL.symm; subst hLL; refine O_n ?_
    repeat' (first | refine go ?_ | intro _ | (apply cG; first | refine cT ?_ | refine cF ?_ | refine cS (fun _ => ?_) fun _ => ?_) | (apply gW; refine sW ?_) | (apply gI; refine sI ?_) | (apply gE; refine sE ?_) | (apply gP; refine sP ?_) | (apply gC; refine sC ?_) | (apply gD; refine sD ?_) | fail)
    refine O_d (dy_call ArgsI.pf (by first | exact rfl | trivial | (intro a b; rfl)) (lives_ct)) ?_; rintro _ _ ⟨_, ⟨rfl, hLL⟩, rfl⟩; replace hLL := hLL.symm; subst hLL; refine O_n ?_
    repeat' (first | refine go ?_ | intro _ | (apply cG; first | refine cT ?_ | refine cF ?_ | refine cS (fun _ => ?_) fun _ => ?_) | (apply gW; refine sW ?_) | (apply gI; refine sI ?_) | (apply gE; refine sE ?_) | (apply gP; refine sP ?_) | (apply gC; refine sC ?_) | (apply gD; refine sD ?_) | fail)
    refine E_res1 (by rfl) (by rfl) ⟨rfl, rfl⟩ Sb
theorem JournalDurable_any {v vn : Value} {li : List Int} {ln : List UInt8} {when keep : Int} {w : World} (s : St w w [rd eI v li, rd eB vn ln]) (hl : li.length ≤ 9223372036854775807) (hr : ∀ n ∈ li, -9223372036854775808 ≤ n ∧ n ≤ 9223372036854775807)
    (hw1 : -9223372036854775808 ≤ when) (hw2 : when ≤ 9223372036854775807) (hk1 : -9223372036854775808 ≤ keep) (hk2 : keep ≤ 9223372036854775807) (hbl : ln.length ≤ 9223372036854775807) :
    Calls Try.prog 3 #[v, .int .i64 when, .int .i64 keep, vn] w fun e w' => e = .returned (.bool true) ∧ Below w.heap.size w w' :=
  ((JournalDurable_ct (W0 := w) (.head _) hl hr hw1 hw2 hk1 hk2 (.tail _ (.head _)) hbl).run w s).mono fun e w' h => by
    obtain ⟨v, L', rfl, ⟨rfl, rfl⟩, s⟩ := h
    exact ⟨rfl, s.below⟩
end
end Go.Proofs.Ytbjaecofccpahaa
namespace Go.Proofs.Ytbjaecofccpahaa
open Go Go.RowKit
set_option linter.unusedVariables false
set_option linter.unusedSimpArgs false
/-- a file's clone during a crash: where it lies, its bytes, how many are durable, how many loose ones it keeps -/
structure CB where
  A : Option Addr
  c : Nat
  b : List UInt8
  D : Nat
  m : Nat
def CB.df (x : CB) : DF := ⟨.slice x.A x.b.length x.c, x.b, (x.D : Int)⟩
def crS : List Int → List CB → List (Int × DF) → List (Int × DF)
  | y :: ys, x :: bs, l => crS ys bs (setF y x.df l)
  | _, _, l => l
theorem crS_snoc : ∀ {ys : List Int} {bs : List CB} {l : List (Int × DF)} {y : Int} {x : CB}, bs.length = ys.length → crS (ys ++ [y]) (bs ++ [x]) l = setF y x.df (crS ys bs l)
  | [], [], _, _, _, _ => rfl
  | _ :: ys, _ :: bs, l, y, x, h => crS_snoc (ys := ys) (bs := bs) (by simpa using h)
  | [], _ :: _, _, _, _, h => by simp at h
  | _ :: _, [], _, _, _, h => by simp at h
theorem crS_ok : ∀ {ys : List Int} {bs : List CB} {l : List (Int × DF)}, KeysOk l → KeysOk (crS ys bs l)
  | [], _, _, h => by unfold crS; exact h
  | _ :: _, [], _, h => h
  | y :: ys, x :: bs, l, h => crS_ok (ys := ys) (bs := bs) (set_ok h)
theorem crS_ne : ∀ {ys : List Int} {bs : List CB} {l : List (Int × DF)} {n : Int}, n ∉ ys → fileF n (crS ys bs l) = fileF n l
  | [], _, _, _, _ => by unfold crS; rfl
  | _ :: _, [], _, _, _ => rfl
  | y :: ys, x :: bs, l, n, h => by
    simp only [List.mem_cons, not_or] at h
    show fileF n (crS ys bs (setF y x.df l)) = _
    rw [crS_ne h.2, fileF_set_ne h.1]
theorem fileF_setv {n : Int} {x : DF} {l : List (Int × DF)} (h : KeysOk l) : fileF n (setF n x l) = if x.b.length = 0 then ⟨.slice none 0 0, [], 0⟩ else x := by
  unfold setF
  split
  · rw [fileF_del (put_ok h)]
  · rw [fileF_put]
theorem crS_at : ∀ {ys : List Int} {bs : List CB} {l : List (Int × DF)} {j : Nat} {y : Int} {x : CB}, ys.Nodup → KeysOk l → ys[j]? = some y → bs[j]? = some x →
    fileF y (crS ys bs l) = if x.b.length = 0 then ⟨.slice none 0 0, [], 0⟩ else x.df
  | [], _, _, _, _, _, _, _, h, _ => by simp at h
  | _ :: _, [], _, _, _, _, _, _, _, h => by simp at h
  | z :: ys, w :: bs, l, 0, y, x, hn, hk, hy, hx => by
    simp only [List.getElem?_cons_zero, Option.some.injEq] at hy hx
    subst hy hx
    show fileF z (crS ys bs (setF z w.df l)) = _
    rw [crS_ne (List.nodup_cons.1 hn).1, fileF_setv hk]
    rfl
  | z :: ys, w :: bs, l, j + 1, y, x, hn, hk, hy, hx => by
    rw [List.getElem?_cons_succ] at hy hx
    exact crS_at (l := setF z w.df l) (List.nodup_cons.1 hn).2 (set_ok hk) hy hx
theorem set_keys {n m : Int} {x : DF} {l : List (Int × DF)} (h : m ∈ (setF n x l).map Prod.fst) : m = n ∨ m ∈ l.map Prod.fst := by
  unfold setF at h
  split at h
  · exact put_keys.1 (((del_sub _).map Prod.fst).subset h)
  · exact put_keys.1 h
theorem crS_keys : ∀ {ys : List Int} {bs : List CB} {l : List (Int × DF)} {m : Int}, m ∈ (crS ys bs l).map Prod.fst → m ∈ ys ∨ m ∈ l.map Prod.fst
  | [], _, _, _, h => by unfold crS at h; exact .inr h
  | _ :: _, [], _, _, h => .inr h
  | y :: ys, x :: bs, l, m, h => by
    rcases crS_keys (ys := ys) (bs := bs) (l := setF y x.df l) h with h | h
    · exact .inl (.tail _ h)
    · rcases set_keys h with rfl | h
      · exact .inl (.head _)
      · exact .inr h
theorem crS_used : ∀ {ys : List Int} {bs : List CB} {l : List (Int × DF)}, ys.Nodup → bs.length ≤ ys.length → (∀ (j : Nat) (y : Int) (x : CB), ys[j]? = some y → bs[j]? = some x → x.b.length ≤ (fileF y l).b.length) → usedL (crS ys bs l) ≤ usedL l
  | [], _, _, _, _, _ => by unfold crS; exact Nat.le_refl _
  | _ :: _, [], _, _, _, _ => Nat.le_refl _
  | y :: ys, x :: bs, l, hn, hl, h => by
    have h0 := h 0 y x rfl rfl
    have h1 := set_used (n := y) (x := x.df) l
    have hx : x.df.b = x.b := rfl
    rw [hx] at h1
    have hn2 := List.nodup_cons.1 hn
    have h2 := crS_used (ys := ys) (bs := bs) (l := setF y x.df l) hn2.2 (by simpa using hl) (fun j y' x' hy hx' => by
      have hne : y' ≠ y := fun e => hn2.1 (e ▸ List.mem_of_getElem? hy)
      rw [fileF_set_ne hne]
      exact h (j + 1) y' x' hy hx')
    show usedL (crS ys bs (setF y x.df l)) ≤ _
    omega
/-- the same keys, values and numbers -/
def ghostR (q q' : Int × DF) : Prop := q.1 = q'.1 ∧ q.2.v = q'.2.v ∧ q.2.d = q'.2.d
theorem ghost_rfl : ∀ (l : List (Int × DF)), All2 ghostR l l
  | [] => trivial
  | _ :: l => ⟨⟨rfl, rfl, rfl⟩, ghost_rfl l⟩
theorem ghost_put {n : Int} {x x' : DF} (hv : x.v = x'.v) (hd : x.d = x'.d) : ∀ {l l' : List (Int × DF)}, All2 ghostR l l' → All2 ghostR (putM n x l) (putM n x' l')
  | [], [], _ => ⟨⟨rfl, hv, hd⟩, trivial⟩
  | p :: l, p' :: l', ⟨h, t⟩ => by
    rw [putM_cons, putM_cons, h.1]
    split
    · exact ⟨⟨rfl, hv, hd⟩, t⟩
    · exact ⟨h, ghost_put hv hd t⟩
  | [], _ :: _, h => h.elim
  | _ :: _, [], h => h.elim
theorem ghost_del {n : Int} : ∀ {l l' : List (Int × DF)}, All2 ghostR l l' → All2 ghostR (delM n l) (delM n l')
  | [], [], _ => trivial
  | p :: l, p' :: l', ⟨h, t⟩ => by
    rw [delM_cons, delM_cons, h.1]
    split
    · exact t
    · exact ⟨h, ghost_del t⟩
  | [], _ :: _, h => h.elim
  | _ :: _, [], h => h.elim
theorem ghost_set {n : Int} {x x' : DF} (hv : x.v = x'.v) (hd : x.d = x'.d) (hl : x.b.length = x'.b.length) {l l' : List (Int × DF)} (h : All2 ghostR l l') : All2 ghostR (setF n x l) (setF n x' l') := by
  unfold setF
  rw [hl]
  split
  · exact ghost_del (ghost_put hv hd h)
  · exact ghost_put hv hd h
def ghostC (x x' : CB) : Prop := x.A = x'.A ∧ x.c = x'.c ∧ x.D = x'.D ∧ x.b.length = x'.b.length
theorem ghost_crS : ∀ {ys : List Int} {bs bs' : List CB} {l l' : List (Int × DF)}, All2 ghostC bs bs' → All2 ghostR l l' → All2 ghostR (crS ys bs l) (crS ys bs' l')
  | [], _, _, _, _, _, h => by unfold crS; exact h
  | _ :: _, [], [], _, _, _, h => h
  | y :: ys, x :: bs, x' :: bs', l, l', ⟨hx, t⟩, h => ghost_crS (ys := ys) t (ghost_set (by show Value.slice x.A x.b.length x.c = Value.slice x'.A x'.b.length x'.c; rw [hx.1, hx.2.1, hx.2.2.2]) (by show (x.D : Int) = (x'.D : Int); rw [hx.2.2.1]) hx.2.2.2 h)
  | _ :: _, [], _ :: _, _, _, h, _ => h.elim
  | _ :: _, _ :: _, [], _, _, h, _ => h.elim
theorem ghostC_rfl : ∀ (l : List CB), All2 ghostC l l
  | [] => trivial
  | _ :: l => ⟨⟨rfl, rfl, rfl, rfl⟩, ghostC_rfl l⟩
theorem ghostC_set : ∀ {l : List CB} {j : Nat} {x : CB} {b : List UInt8}, l[j]? = some x → b.length = x.b.length → All2 ghostC l (l.set j { x with b := b })
  | y :: l, 0, x, b, h, hb => by
    simp only [List.getElem?_cons_zero, Option.some.injEq] at h
    subst h
    exact ⟨⟨rfl, rfl, rfl, hb.symm⟩, ghostC_rfl l⟩
  | y :: l, j + 1, x, b, h, hb => ⟨⟨rfl, rfl, rfl, rfl⟩, ghostC_set (l := l) (by simpa using h) hb⟩
  | [], _, _, _, h, _ => by simp at h
/-- the loose bytes kept -/
def loosC (bs : List CB) : List (Option Addr × Nat) := bs.flatMap fun x => (loos x.D x.m).map fun i => (x.A, i)
theorem loosC_snoc (bs : List CB) (x : CB) : loosC (bs ++ [x]) = loosC bs ++ (loos x.D x.m).map fun i => (x.A, i) := by unfold loosC; rw [List.flatMap_append]; simp
def turn1 (D : Nat) (b : List UInt8) (at_ : Nat) : List UInt8 := b.set (D + at_ / 8) (fl8 (b.getD (D + at_ / 8) 0) (7 - at_ % 8))
theorem turn1_len (D : Nat) (b : List UInt8) (at_ : Nat) : (turn1 D b at_).length = b.length := List.length_set
/-- a bit of the loose bytes turned -/
def turnL : Nat → List (Nat × List UInt8) → List (List UInt8)
  | _, [] => []
  | at_, (D, b) :: r => if at_ < 8 * (b.length - D) then turn1 D b at_ :: r.map Prod.snd else b :: turnL (at_ - 8 * (b.length - D)) r
def manyL : List (Nat × List UInt8) → Nat
  | [] => 0
  | (D, b) :: r => (b.length - D) + manyL r
def atZ (z : Int) (many : Nat) : Nat := if 0 ≤ z ∧ 0 < many then (z % ((8 * many : Nat) : Int)).toNat else 8 * many
theorem atZ_lt {z : Int} {many : Nat} (h : 0 ≤ z ∧ 0 < many) : atZ z many < 8 * many := by
  unfold atZ
  rw [if_pos h]
  have h1 := Int.emod_nonneg z (b := ((8 * many : Nat) : Int)) (by omega)
  have h2 := Int.emod_lt_of_pos z (b := ((8 * many : Nat) : Int)) (by omega)
  omega
theorem turnL_none : ∀ {l : List (Nat × List UInt8)} {at_ : Nat}, 8 * manyL l ≤ at_ → turnL at_ l = l.map Prod.snd
  | [], _, _ => rfl
  | (D, b) :: r, at_, h => by
    have hm : manyL ((D, b) :: r) = (b.length - D) + manyL r := rfl
    rw [hm] at h
    unfold turnL
    rw [if_neg (by omega), turnL_none (by omega)]
    rfl
def prC (x : CB) : Nat × List UInt8 := (x.D, x.b)
theorem loosC_len : ∀ {bs : List CB}, (∀ x ∈ bs, x.b.length = x.D + x.m) → (loosC bs).length = manyL (bs.map prC)
  | [], _ => rfl
  | x :: bs, h => by
    have h1 := loosC_len (bs := bs) fun y hy => h y (.tail _ hy)
    have h2 := h x (.head _)
    show (((loos x.D x.m).map fun i => (x.A, i)) ++ loosC bs).length = (x.b.length - x.D) + manyL (bs.map prC)
    rw [List.length_append, List.length_map, loos_len, h1]
    omega
theorem turnL_at : ∀ {bs : List CB} {at_ : Nat}, (∀ x ∈ bs, x.b.length = x.D + x.m) → at_ < 8 * manyL (bs.map prC) →
    ∃ j x o, bs[j]? = some x ∧ o < x.m ∧ (loosC bs)[at_ / 8]? = some (x.A, x.D + o) ∧
      turnL at_ (bs.map prC) = (bs.map fun x => x.b).set j (x.b.set (x.D + o) (fl8 (x.b.getD (x.D + o) 0) (7 - at_ % 8)))
  | [], at_, _, h => by simp [manyL] at h
  | x :: bs, at_, hb, h => by
    have h2 := hb x (.head _)
    have hm : manyL ((x :: bs).map prC) = (x.b.length - x.D) + manyL (bs.map prC) := rfl
    rw [hm] at h
    have hlo : loosC (x :: bs) = ((loos x.D x.m).map fun i => (x.A, i)) ++ loosC bs := rfl
    have htl : turnL at_ ((x :: bs).map prC) = if at_ < 8 * (x.b.length - x.D) then turn1 x.D x.b at_ :: (bs.map prC).map Prod.snd else x.b :: turnL (at_ - 8 * (x.b.length - x.D)) (bs.map prC) := rfl
    have hll : ((loos x.D x.m).map fun i => (x.A, i)).length = x.m := by rw [List.length_map, loos_len]
    by_cases hlt : at_ < 8 * (x.b.length - x.D)
    · refine ⟨0, x, at_ / 8, rfl, by omega, ?_, ?_⟩
      · rw [hlo, List.getElem?_append_left (by omega), List.getElem?_map, loos_get (by omega)]
        rfl
      · rw [htl, if_pos hlt]
        show turn1 x.D x.b at_ :: (bs.map prC).map Prod.snd = _ :: (bs.map fun x => x.b)
        rw [List.map_map]
        rfl
    · obtain ⟨j, y, o, hy, ho, hl, ht⟩ := turnL_at (bs := bs) (at_ := at_ - 8 * (x.b.length - x.D)) (fun y hy => hb y (.tail _ hy)) (by omega)
      have e8 : (at_ - 8 * (x.b.length - x.D)) / 8 = at_ / 8 - x.m := by omega
      have e9 : (at_ - 8 * (x.b.length - x.D)) % 8 = at_ % 8 := by omega
      rw [e8] at hl
      rw [e9] at ht
      refine ⟨j + 1, y, o, hy, ho, ?_, ?_⟩
      · rw [hlo, List.getElem?_append_right (by omega), hll]
        exact hl
      · rw [htl, if_neg hlt, ht]
        rfl
/-- what a crash keeps of a file, ahead of the bit -/
def kept (kp : List Int) (files : List (Int × DF)) (i : Nat) (y : Int) : Nat × List UInt8 :=
  ((fileF y files).d.toNat, (fileF y files).b.take ((fileF y files).d.toNat + keepN kp i (fileF y files).b.length (fileF y files).d.toNat))
def keptL (kp : List Int) (files : List (Int × DF)) (ys : List Int) (n : Nat) : List (Nat × List UInt8) := (List.range n).map fun j => kept kp files j (ys.getD j 0)
theorem keptL_succ (kp : List Int) (files : List (Int × DF)) (ys : List Int) (n : Nat) : keptL kp files ys (n + 1) = keptL kp files ys n ++ [kept kp files n (ys.getD n 0)] := by unfold keptL; rw [List.range_succ, List.map_append]; rfl
/-- all that a crash leaves -/
def crL (kp : List Int) (z : Int) (ys : List Int) (files : List (Int × DF)) : List (List UInt8) := turnL (atZ z (manyL (keptL kp files ys ys.length))) (keptL kp files ys ys.length)
structure CrOk (kp : List Int) (z : Int) (ys : List Int) (files F : List (Int × DF)) : Prop where
  at_ : ∀ (j : Nat) (y : Int), ys[j]? = some y → (crL kp z ys files)[j]? = some (fileF y F).b
  ne : ∀ n : Int, n ∉ ys → (fileF n F).b = []
  d : ∀ n : Int, (fileF n F).d = ((fileF n F).b.length : Int)
  ks : ∀ m ∈ F.map Prod.fst, m ∈ ys
  nz : (∀ p ∈ files, p.2.b.length ≠ 0) → ∀ p ∈ F, p.2.b.length ≠ 0
theorem put_mem {n : Int} {x : DF} {p : Int × DF} : ∀ {l : List (Int × DF)}, p ∈ putM n x l → p = (n, x) ∨ p ∈ l
  | [], h => by rw [show putM n x [] = [(n, x)] from rfl] at h; exact .inl (List.mem_singleton.1 h)
  | q :: l, h => by
    rw [putM_cons] at h
    split at h
    · rcases List.mem_cons.1 h with h | h
      · exact .inl h
      · exact .inr (.tail _ h)
    · rcases List.mem_cons.1 h with h | h
      · exact .inr (by rw [h]; exact .head _)
      · rcases put_mem h with h | h
        · exact .inl h
        · exact .inr (.tail _ h)
theorem delput_mem {n : Int} {x : DF} {p : Int × DF} : ∀ {l : List (Int × DF)}, p ∈ delM n (putM n x l) → p ∈ l
  | [], h => by
    rw [show putM n x [] = [(n, x)] from rfl, delM_cons, if_pos rfl] at h
    exact h
  | q :: l, h => by
    rw [putM_cons] at h
    split at h
    · rw [delM_cons, if_pos rfl] at h
      exact .tail _ h
    · rename_i hne
      rw [delM_cons, if_neg hne] at h
      rcases List.mem_cons.1 h with h | h
      · rw [h]; exact .head _
      · exact .tail _ (delput_mem h)
theorem set_nz {n : Int} {x : DF} {l : List (Int × DF)} (h : ∀ p ∈ l, p.2.b.length ≠ 0) : ∀ p ∈ setF n x l, p.2.b.length ≠ 0 := fun p hp => by
  unfold setF at hp
  split at hp
  · exact h p (delput_mem hp)
  · rename_i h0
    rcases put_mem hp with rfl | hp
    · exact h0
    · exact h p hp
theorem hard_nz {l : List (Int × DF)} (h : ∀ p ∈ l, p.2.b.length ≠ 0) : ∀ p ∈ hardL l, p.2.b.length ≠ 0 := fun p hp => by
  unfold hardL at hp
  obtain ⟨q, hq, rfl⟩ := List.mem_map.1 hp
  exact h q hq
theorem crS_nz : ∀ {ys : List Int} {bs : List CB} {l : List (Int × DF)}, (∀ p ∈ l, p.2.b.length ≠ 0) → ∀ p ∈ crS ys bs l, p.2.b.length ≠ 0
  | [], _, _, h => by unfold crS; exact h
  | _ :: _, [], _, h => h
  | y :: ys, x :: bs, l, h => crS_nz (ys := ys) (bs := bs) (set_nz h)
theorem mem_setC {α : Type} : ∀ {l : List α} {j : Nat} {a x : α}, x ∈ l.set j a → x = a ∨ x ∈ l.eraseIdx j
  | [], _, _, _, h => by simp at h
  | y :: l, 0, a, x, h => by
    rcases List.mem_cons.1 h with h | h
    · exact .inl h
    · exact .inr h
  | y :: l, j + 1, a, x, h => by
    rcases List.mem_cons.1 h with h | h
    · exact .inr (by rw [h]; exact .head _)
    · rcases mem_setC h with h | h
      · exact .inl h
      · exact .inr (.tail _ h)
theorem setB_map {l : List CB} {j : Nat} {x : CB} {b : List UInt8} : (l.set j { x with b := b }).map (fun x => x.b) = (l.map fun x => x.b).set j b := by rw [List.map_set]
/-- the crash's files, told by the clones -/
theorem crOk_of {kp : List Int} {z : Int} {ys : List Int} {files : List (Int × DF)} {bs : List CB} (hp : ys.Perm (files.map Prod.fst)) (hk : KeysOk files) (hl : bs.length = ys.length) (hb : bs.map (fun x => x.b) = crL kp z ys files) : CrOk kp z ys files (hardL (crS ys bs files)) := by
  have hn : ys.Nodup := hp.nodup_iff.2 hk
  refine ⟨fun j y hy => ?_, fun n hn2 => ?_, fun n => ?_, fun m hm => ?_, fun h => hard_nz (crS_nz h)⟩
  · have hj := (List.getElem?_eq_some_iff.1 hy).1
    obtain ⟨x, hx⟩ : ∃ x, bs[j]? = some x := ⟨_, List.getElem?_eq_getElem (by omega)⟩
    rw [(fileF_hard _).1, crS_at hn hk hy hx, ← hb, List.getElem?_map, hx]
    show some x.b = _
    split
    · rename_i h0
      rw [List.length_eq_zero_iff.1 h0]
    · rfl
  · rw [(fileF_hard _).1, crS_ne hn2]
    have : n ∉ files.map Prod.fst := fun h => hn2 (hp.mem_iff.2 h)
    rw [fileF_no this]
  · rw [(fileF_hard _).2, (fileF_hard _).1]
  · rw [hard_keys] at hm
    rcases crS_keys hm with h | h
    · exact h
    · exact hp.mem_iff.2 h
end Go.Proofs.Ytbjaecofccpahaa
