/-
  Walks: JournalDurable.
-/
import Derived.Test.YtbjaecofccpahaaMZA
import Derived.Test.YtbjaecofccpahaaMC
namespace Go.Proofs.Ytbjaecofccpahaa
open Go Go.RowKit
set_option linter.unusedVariables false
set_option linter.unusedSimpArgs false
set_option maxRecDepth 20000
set_option synthInstance.maxSize 100000
set_option synthInstance.maxHeartbeats 400000
structure US where
  i : Nat
  j : Nat
  t : Nat
  dn : Bool
  d : DK
theorem take_snoc {α : Type} {xs : List α} {i : Nat} {x : α} (h : xs[i]? = some x) : xs.take (i + 1) = xs.take i ++ [x] := by rw [List.take_add_one, h]; rfl
theorem frames_next {xs : List (List UInt8)} {i : Nat} {x : List UInt8} (hi : i ≤ xs.length) (h : xs[i]? = some x) : framesF 0 (xs.take (i + 1)) = framesF 0 (xs.take i) ++ frameF (i : Int) x := by
  rw [take_snoc h, framesF_snoc, List.length_take, Nat.min_eq_left hi, Int.zero_add]
/-- what the crash leaves, as Scan sees it -/
theorem dur_scan {xs : List (List UInt8)} {j t : Nat} {dn : Bool} {M : Nat} (hxs : ∀ x ∈ xs, x.length ≤ 10) (hx6 : xs.length ≤ 6) (hs : (dn = false ∧ j = xs.length ∧ t = j) ∨ (dn = true ∧ j < xs.length ∧ t = j + 1)) (hM : (framesF 0 (xs.take j)).length ≤ M) :
    ∃ g, j ≤ g ∧ g ≤ t ∧ g ≤ xs.length ∧ scanF ((framesF 0 (xs.take t)).take M).length 0 ((framesF 0 (xs.take t)).take M) = (xs.take g, (framesF 0 (xs.take g)).length) ∧ ((framesF 0 (xs.take t)).take M).take (framesF 0 (xs.take g)).length = framesF 0 (xs.take g) := by
  rcases hs with ⟨_, rfl, rfl⟩ | ⟨_, hj, rfl⟩
  · rw [List.take_length] at hM ⊢
    refine ⟨xs.length, Nat.le_refl _, Nat.le_refl _, Nat.le_refl _, ?_⟩
    rw [List.take_length, List.take_of_length_le hM]
    exact ⟨scan_frames (fun y hy => by have := hxs y hy; omega) (by omega), List.take_length⟩
  · obtain ⟨x, hx⟩ : ∃ x, xs[j]? = some x := ⟨_, List.getElem?_eq_getElem hj⟩
    have hlt : (xs.take j).length = j := by rw [List.length_take]; omega
    have e : (framesF 0 (xs.take (j + 1))).take M = framesF 0 (xs.take j) ++ (frameF ((xs.take j).length : Int) x).take (M - (framesF 0 (xs.take j)).length) := by
      rw [frames_next (by omega) hx, List.take_append, List.take_of_length_le hM, hlt]
    obtain ⟨g, hg, h1, h2⟩ := scan_cut (xs := xs.take j) (x := x) (m := M - (framesF 0 (xs.take j)).length) (fun y hy => by have := hxs y (List.mem_of_mem_take hy); omega) (by have := hxs x (List.mem_of_getElem? hx); omega) (by omega)
    rw [← take_snoc hx, List.take_take] at h1 h2
    rw [hlt] at hg
    have hmin : min g (j + 1) = g := by omega
    rw [hmin] at h1 h2
    rw [e]
    exact ⟨g, by omega, by omega, by omega, h1, h2⟩
section
variable {W0 : World} {L : List HP}
set_option maxHeartbeats 4000000 in
theorem JournalDurable_ct {v vn : Value} {li : List Int} {ln : List UInt8} {when keep : Int} (hv : rd eI v li ∈ L) (hl : li.length ≤ 9223372036854775807) (hr : ∀ n ∈ li, -9223372036854775808 ≤ n ∧ n ≤ 9223372036854775807)
    (hw1 : -9223372036854775808 ≤ when) (hw2 : when ≤ 9223372036854775807) (hk1 : -9223372036854775808 ≤ keep) (hk2 : keep ≤ 9223372036854775807) (hb : rd eB vn ln ∈ L) (hbl : ln.length ≤ 9223372036854775807) :
    CT Try.prog 3 #[v, .int .i64 when, .int .i64 keep, vn] W0 L fun r L' => r = .bool true ∧ L' = L := by
  refine CT_enter Try.func3 rfl ?_; (simp only [Try.ntmps3, List.size_toArray, List.length_cons, List.length_nil, Nat.reduceAdd, Nat.reduceSub, Array.replicate_succ, Array.replicate_zero, List.push_toArray, List.append_toArray, List.nil_append, List.cons_append])
  repeat' (first | refine go ?_ | intro _ | (apply cG; first | refine cT ?_ | refine cF ?_ | refine cS (fun _ => ?_) fun _ => ?_) | (apply gW; refine sW ?_) | (apply gI; refine sI ?_) | (apply gE; refine sE ?_) | (apply gP; refine sP ?_) | (apply gC; refine sC ?_) | (apply gD; refine sD ?_) | fail)
  refine O_d (dy_call ArgsI.pf (by first | exact rfl | trivial | (intro a b; rfl)) (fresh_ct (room := 5000) (by decide) (by decide))) ?_; rintro _ _ ⟨_, ⟨p, rfl, rfl⟩, rfl⟩; refine O_n ?_
  repeat' (first | refine go ?_ | intro _ | (apply cG; first | refine cT ?_ | refine cF ?_ | refine cS (fun _ => ?_) fun _ => ?_) | (apply gW; refine sW ?_) | (apply gI; refine sI ?_) | (apply gE; refine sE ?_) | (apply gP; refine sP ?_) | (apply gC; refine sC ?_) | (apply gD; refine sD ?_) | fail)
  refine O_d (dy_call ArgsI.pf (by first | exact rfl | trivial | (intro a b; rfl)) (CT.pull (i := 0) (by rfl) (Open_cut (xs := []) (N := 0) (J1.begun (k := 5000) (by decide) (by decide) 0) rfl rfl (by decide) (by decide) (by decide) (by decide) (by rfl)))) ?_; rintro _ _ ⟨_, ⟨d1, q, A3, c3, hj1, ho1, ha1, hl1, rfl, rfl⟩, rfl⟩; refine O_n ?_
  replace hj1 : J1 d1 0 5000 [] 0 := hj1
  replace hl1 : d1.left = 0 := hl1
  repeat' (first | refine go ?_ | intro _ | (apply cG; first | refine cT ?_ | refine cF ?_ | refine cS (fun _ => ?_) fun _ => ?_) | (apply gW; refine sW ?_) | (apply gI; refine sI ?_) | (apply gE; refine sE ?_) | (apply gP; refine sP ?_) | (apply gC; refine sC ?_) | (apply gD; refine sD ?_) | fail)
  refine O_d (dy_call ArgsI.pf (by first | exact rfl | trivial | (intro a b; rfl)) (Around_ct (most := 13) hw1 hw2 (by decide) (by decide))) ?_; rintro _ _ ⟨_, ⟨rfl, hLL⟩, rfl⟩; replace hLL := hLL.symm; subst hLL; refine O_n ?_
  obtain ⟨wn, hwn, hwn2⟩ : ∃ k : Nat, around when 13 = (k : Int) ∧ k < 13 := by
    have := around_in (n := when) (most := 13) (by decide)
    exact ⟨(around when 13).toNat, by omega, by omega⟩
  rw [hwn]
  repeat' (first | refine go ?_ | intro _ | (apply cG; first | refine cT ?_ | refine cF ?_ | refine cS (fun _ => ?_) fun _ => ?_) | (apply gW; refine sW ?_) | (apply gI; refine sI ?_) | (apply gE; refine sE ?_) | (apply gP; refine sP ?_) | (apply gC; refine sC ?_) | (apply gD; refine sD ?_) | fail)
  obtain ⟨files, room, off, armed, left⟩ := d1
  replace ho1 : off = false := ho1
  replace ha1 : armed = false := ha1
  subst ho1 ha1
  refine O_front 2 rfl EAt.pf ?_
  refine O_d (dy_call ArgsI.pf (by first | exact rfl | trivial | (intro a b; rfl)) (dArm_ct (n := (wn : Int)))) ?_; rintro _ _ ⟨_, ⟨rfl, rfl⟩, rfl⟩; refine O_n ?_
  have hdec : decide ((0 : Int) ≤ (wn : Int)) = true := decide_eq_true (by omega)
  rw [hdec]
  replace hj1 := hj1.any (off' := false) (armed' := true) (left' := (wn : Int))
  repeat' (first | refine go ?_ | intro _ | (apply cG; first | refine cT ?_ | refine cF ?_ | refine cS (fun _ => ?_) fun _ => ?_) | (apply gW; refine sW ?_) | (apply gI; refine sI ?_) | (apply gE; refine sE ?_) | (apply gP; refine sP ?_) | (apply gC; refine sC ?_) | (apply gD; refine sD ?_) | fail)
  refine O_d (dy_call ArgsI.pf (by first | exact rfl | trivial | (intro a b; rfl)) (Records_ct (.tail _ (.tail _ (.tail _ hv))) hl hr)) ?_; rintro _ _ ⟨_, ⟨A4, c4, xs, rfl, rfl, hxs, hx6⟩, rfl⟩; refine O_n ?_
  refine O_frz 0 ?_
  refine O_fact (fun w s => ((Src.sl (.inl (.head _)) s).form)) ?_
  rintro ⟨_, c13, he13, hc13⟩
  injection he13 with _ _ he13
  subst he13
  repeat' (first | refine go ?_ | intro _ | (apply cG; first | refine cT ?_ | refine cF ?_ | refine cS (fun _ => ?_) fun _ => ?_) | (apply gW; refine sW ?_) | (apply gI; refine sI ?_) | (apply gE; refine sE ?_) | (apply gP; refine sP ?_) | (apply gC; refine sC ?_) | (apply gD; refine sD ?_) | fail)
  refine C_sub (S := cel q [.pointer (some ⟨p, 0, none⟩), .int .i64 0, .int .i64 ((0 : Nat) : Int), .bool false] 70 :: dsk p ⟨files, room, false, true, (wn : Int)⟩ :: rd (eSl eB) (.slice A4 xs.length c4) xs :: L) Sb ?_
  refine C_loopS (κ := US) [false, false, false, false, false, false, false, false, false, false, false, false, false, false, true, true, true, false, false, false, false, false, false, false, false, false, false, false, false, false, false, false, false, false, false, false, false, false, false, false, false, false, false, false, false, true, true, true, true, true, true, true, true, true, true, true, true, true, true, true, true, true, true, true, true, true, false, false, false, false, false, false, false, false, false, false, false, false, false, false, false, false, false, false, false, false, false, false, false, false, false, false, false, false, false, false, false, false, false, false, false, false, false, false, false, false, false, false, false, false, false, false, false, false, false, false, false, false, false, false, false, false, false, false, false, false, false, false, false, false, false, false, false, false, false, false, false, false, false, false, false, false, false, false, false, false, false, false, false, false, false, false, false, false, false, false, false] (fun k => [(14, .int .i64 (k.j : Int)), (15, .int .i64 (k.t : Int)), (16, .int .i64 (k.i : Int))]) (fun k => [(0, cel q [.pointer (some ⟨p, 0, none⟩), .int .i64 0, .int .i64 (k.j : Int), .bool k.dn] 70), (1, dsk p k.d)]) (fun k => k.i ≤ xs.length ∧ ((false = k.dn ∧ k.i = k.j ∧ k.i = k.t ∧ J1 k.d 0 5000 (framesF 0 (xs.take k.i)) (framesF 0 (xs.take k.i)).length ∧ k.d.off = false ∧ k.d.armed = true ∧ k.d.left = (wn : Int) - 2 * (k.i : Int)) ∨ (true = k.dn ∧ k.j < k.i ∧ k.j + 1 = k.t ∧ J1 k.d 0 5000 (framesF 0 (xs.take (k.j + 1))) (framesF 0 (xs.take k.j)).length ∧ -1000 ≤ k.d.left ∧ k.d.left ≤ 1000))) (fun k => xs.length - k.i) ⟨0, 0, 0, false, ⟨files, room, false, true, (wn : Int)⟩⟩ ⟨Nat.zero_le _, .inl ⟨rfl, rfl, rfl, hj1, rfl, rfl, by dsimp only; omega⟩⟩ ⟨rfl, rfl, rfl, trivial⟩ ?_ Sb
  rintro ⟨i, j, t, dn, d⟩ u ⟨hi, hs⟩
  dsimp only at hi hs
  dsimp only
  ((try dsimp only); refine C_n ?_; (try simp only [Nat.reduceAdd, Nat.zero_add]))
  have hfk : (0 : Int) ≤ 0 ∧ (0 : Int) < 64 := by decide
  have hU := framesF_len (m := 10) (xs.take i) 0 (fun y hy => hxs y (List.mem_of_mem_take hy)) (by decide) (by decide) (by rw [List.length_take]; omega)
  rw [List.length_take] at hU
  by_cases hlt : i < xs.length
  · obtain ⟨x, hx⟩ : ∃ x, xs[i]? = some x := ⟨_, List.getElem?_eq_getElem hlt⟩
    have hax : At xs i x := ⟨hx⟩
    have hxl := hxs x (List.mem_of_getElem? hx)
    have hFl := frameF_len (i := (i : Int)) (x := x) (by omega) (by omega) (by omega)
    have hnext := frames_next hi hx
    rcases hs with ⟨rfl, rfl, rfl, hj, ho, ha, hle⟩ | ⟨rfl, hji, rfl, hj, hl1, hl2⟩
    · by_cases h2 : 2 ≤ d.left
      · repeat' (first | refine go ?_ | intro _ | (apply cG; first | refine cT ?_ | refine cF ?_ | refine cS (fun _ => ?_) fun _ => ?_) | (apply gW; refine sW ?_) | (apply gI; refine sI ?_) | (apply gE; refine sE ?_) | (apply gP; refine sP ?_) | (apply gC; refine sC ?_) | (apply gD; refine sD ?_) | fail)
        refine O_front 2 rfl EAt.pf ?_
        refine O_front 2 rfl EAt.pf ?_
        refine O_d (dy_call ArgsI.pf (by first | exact rfl | trivial | (intro a b; rfl)) ((LApp_go2 (n := (i : Int)) (b := x) (.inl (.head _)) (by omega) (by omega) (by omega) hj hfk ho ha h2 (by omega) (by omega)))) ?_; rintro _ _ ⟨_, ⟨d', hj', ho', ha', hl', rfl, rfl⟩, rfl⟩; refine O_n ?_
        rw [← hnext] at hj'
        rw [show (i : Int) + 1 = ((i + 1 : Nat) : Int) from rfl]
        repeat' (first | refine go ?_ | intro _ | (apply cG; first | refine cT ?_ | refine cF ?_ | refine cS (fun _ => ?_) fun _ => ?_) | (apply gW; refine sW ?_) | (apply gI; refine sI ?_) | (apply gE; refine sE ?_) | (apply gP; refine sP ?_) | (apply gC; refine sC ?_) | (apply gD; refine sD ?_) | fail)
        exact E_round ⟨i + 1, i + 1, i + 1, false, d'⟩ ⟨hlt, .inl ⟨rfl, rfl, rfl, hj', ho', ha', by dsimp only; omega⟩⟩ (by show xs.length - (i + 1) < xs.length - i; omega) ⟨rfl, rfl, rfl, trivial⟩ Sb
      · repeat' (first | refine go ?_ | intro _ | (apply cG; first | refine cT ?_ | refine cF ?_ | refine cS (fun _ => ?_) fun _ => ?_) | (apply gW; refine sW ?_) | (apply gI; refine sI ?_) | (apply gE; refine sE ?_) | (apply gP; refine sP ?_) | (apply gC; refine sC ?_) | (apply gD; refine sD ?_) | fail)
        refine O_front 2 rfl EAt.pf ?_
        refine O_front 2 rfl EAt.pf ?_
        refine O_d (dy_call ArgsI.pf (by first | exact rfl | trivial | (intro a b; rfl)) ((LApp_fail (n := (i : Int)) (b := x) (.inl (.head _)) (by omega) (by omega) (by omega) hj hfk ho ha (by omega) (by omega) (by omega)))) ?_; rintro _ _ ⟨_, ⟨d', hj', ho', hl1', hl2', rfl, rfl⟩, rfl⟩; refine O_n ?_
        rw [← hnext] at hj'
        repeat' (first | refine go ?_ | intro _ | (apply cG; first | refine cT ?_ | refine cF ?_ | refine cS (fun _ => ?_) fun _ => ?_) | (apply gW; refine sW ?_) | (apply gI; refine sI ?_) | (apply gE; refine sE ?_) | (apply gP; refine sP ?_) | (apply gC; refine sC ?_) | (apply gD; refine sD ?_) | fail)
        exact E_round ⟨i + 1, i, i + 1, true, d'⟩ ⟨hlt, .inr ⟨rfl, Nat.lt_succ_self _, rfl, hj', by dsimp only; omega, by dsimp only; omega⟩⟩ (by show xs.length - (i + 1) < xs.length - i; omega) ⟨rfl, rfl, rfl, trivial⟩ Sb
    · have hne : j ≠ i := by omega
      repeat' (first | refine go ?_ | intro _ | (apply cG; first | refine cT ?_ | refine cF ?_ | refine cS (fun _ => ?_) fun _ => ?_) | (apply gW; refine sW ?_) | (apply gI; refine sI ?_) | (apply gE; refine sE ?_) | (apply gP; refine sP ?_) | (apply gC; refine sC ?_) | (apply gD; refine sD ?_) | fail)
      refine O_front 2 rfl EAt.pf ?_
      refine O_front 2 rfl EAt.pf ?_
      refine O_d (dy_call ArgsI.pf (by first | exact rfl | trivial | (intro a b; rfl)) ((LApp_down (n := (j : Int)) (b := x) (.inl (.head _)) (by omega) (by omega) (by omega) hj.ok (by omega) (by omega)))) ?_; rintro _ _ ⟨_, ⟨rfl, rfl⟩, rfl⟩; refine O_n ?_
      repeat' (first | refine go ?_ | intro _ | (apply cG; first | refine cT ?_ | refine cF ?_ | refine cS (fun _ => ?_) fun _ => ?_) | (apply gW; refine sW ?_) | (apply gI; refine sI ?_) | (apply gE; refine sE ?_) | (apply gP; refine sP ?_) | (apply gC; refine sC ?_) | (apply gD; refine sD ?_) | fail)
      exact E_round ⟨i + 1, j, j + 1, true, d⟩ ⟨hlt, .inr ⟨rfl, by dsimp only; omega, rfl, hj, hl1, hl2⟩⟩ (by show xs.length - (i + 1) < xs.length - i; omega) ⟨rfl, rfl, rfl, trivial⟩ Sb
  have hix : i = xs.length := by omega
  have hs2 : J1 d 0 5000 (framesF 0 (xs.take t)) (framesF 0 (xs.take j)).length ∧ ((dn = false ∧ j = xs.length ∧ t = j) ∨ (dn = true ∧ j < xs.length ∧ t = j + 1)) ∧ -1000 ≤ d.left ∧ d.left ≤ 1000 := by
    rcases hs with ⟨rfl, rfl, rfl, hj, ho, ha, hle⟩ | ⟨rfl, hji, rfl, hj, hl1, hl2⟩
    · exact ⟨hj, .inl ⟨rfl, hix, rfl⟩, by omega, by omega⟩
    · exact ⟨hj, .inr ⟨rfl, by omega, rfl⟩, hl1, hl2⟩
  obtain ⟨hj, hc, hl1, hl2⟩ := hs2
  obtain ⟨M, hM1, hM2, hM⟩ := crB_pre [keep] _ _ hj.dl
  obtain ⟨g, hg1, hg2, hg3, hsc, htk⟩ := dur_scan hxs hx6 hc hM1
  have hUt := framesF_len (m := 10) (xs.take t) 0 (fun y hy => hxs y (List.mem_of_mem_take hy)) (by decide) (by decide) (by rw [List.length_take]; omega)
  rw [List.length_take] at hUt
  have hgl : (xs.take g).length = g := by rw [List.length_take]; omega
  have hUg := framesF_len (m := 10) (xs.take g) 0 (fun y hy => hxs y (List.mem_of_mem_take hy)) (by decide) (by decide) (by omega)
  rw [hgl] at hUg
  have hjle : j ≤ xs.length := by omega
  clear hs hU
  subst hix
  rcases hc with ⟨rfl, hjx, htx⟩ | ⟨rfl, hjx, htx⟩
  all_goals
    repeat' (first | refine go ?_ | intro _ | (apply cG; first | refine cT ?_ | refine cF ?_ | refine cS (fun _ => ?_) fun _ => ?_) | (apply gW; refine sW ?_) | (apply gI; refine sI ?_) | (apply gE; refine sE ?_) | (apply gP; refine sP ?_) | (apply gC; refine sC ?_) | (apply gD; refine sD ?_) | fail)
    refine O_d (dy_call ArgsI.pf (by first | exact rfl | trivial | (intro a b; rfl)) (CT.pull (i := 0) (by rfl) (Len_ct))) ?_; rintro _ _ ⟨_, ⟨rfl, rfl⟩, rfl⟩; refine O_n ?_
    repeat' (first | refine go ?_ | intro _ | (apply cG; first | refine cT ?_ | refine cF ?_ | refine cS (fun _ => ?_) fun _ => ?_) | (apply gW; refine sW ?_) | (apply gI; refine sI ?_) | (apply gE; refine sE ?_) | (apply gP; refine sP ?_) | (apply gC; refine sC ?_) | (apply gD; refine sD ?_) | fail)
    refine O_d (dy_call ArgsI.pf (by first | exact rfl | trivial | (intro a b; rfl)) (CT.pull (i := 0) (by rfl) (Up_ct))) ?_; rintro _ _ ⟨_, ⟨rfl, rfl⟩, rfl⟩; refine O_n ?_
    (try simp only [Bool.not_false, Bool.not_true])
    repeat' (first | refine go ?_ | intro _ | (apply cG; first | refine cT ?_ | refine cF ?_ | refine cS (fun _ => ?_) fun _ => ?_) | (apply gW; refine sW ?_) | (apply gI; refine sI ?_) | (apply gE; refine sE ?_) | (apply gP; refine sP ?_) | (apply gC; refine sC ?_) | (apply gD; refine sD ?_) | fail)
    refine O_d (dy_litP (f := iv) (hf := fun _ => rfl) [keep] (by rfl)) ?_; rintro _ LI' ⟨_, rfl, hLL⟩; replace hLL : LI' = own _ eI _ _ :: _ := hLL; subst hLL; refine O_n ?_
    refine O_frz 0 ?_
    repeat' (first | refine go ?_ | intro _ | (apply cG; first | refine cT ?_ | refine cF ?_ | refine cS (fun _ => ?_) fun _ => ?_) | (apply gW; refine sW ?_) | (apply gI; refine sI ?_) | (apply gE; refine sE ?_) | (apply gP; refine sP ?_) | (apply gC; refine sC ?_) | (apply gD; refine sD ?_) | fail)
    refine O_front 2 rfl EAt.pf ?_
    refine O_d (dy_call ArgsI.pf (by first | exact rfl | trivial | (intro a b; rfl)) (Crash_j1 (kp := [keep]) (z := -1) hj (.head _) (by show 1 ≤ 1000000000; decide) (fun y hy => by simp only [List.mem_cons, List.not_mem_nil, or_false] at hy; subst hy; exact ⟨hk1, hk2⟩) (by decide) (by decide))) ?_; rintro _ _ ⟨_, ⟨d3, hj3, ho3, ha3, hl3', rfl, rfl⟩, rfl⟩; refine O_n ?_
    rw [hM] at hj3
    repeat' (first | refine go ?_ | intro _ | (apply cG; first | refine cT ?_ | refine cF ?_ | refine cS (fun _ => ?_) fun _ => ?_) | (apply gW; refine sW ?_) | (apply gI; refine sI ?_) | (apply gE; refine sE ?_) | (apply gP; refine sP ?_) | (apply gC; refine sC ?_) | (apply gD; refine sD ?_) | fail)
    refine O_d (dy_call ArgsI.pf (by first | exact rfl | trivial | (intro a b; rfl)) (CT.pull (i := 0) (by rfl) (Open_cut (xs := xs.take g) (N := (framesF 0 (xs.take g)).length) hj3 ho3 ha3 (by omega) (by omega) hfk (by rw [List.length_take]; omega) hsc))) ?_; rintro _ _ ⟨_, ⟨d4, q4, A6, c6, hj4, ho4, ha4, hl4, rfl, rfl⟩, rfl⟩; refine O_n ?_
    rw [htk] at hj4
    rw [hgl]
    refine O_frz 1 ?_
    repeat' (first | refine go ?_ | intro _ | (apply cG; first | refine cT ?_ | refine cF ?_ | refine cS (fun _ => ?_) fun _ => ?_) | (apply gW; refine sW ?_) | (apply gI; refine sI ?_) | (apply gE; refine sE ?_) | (apply gP; refine sP ?_) | (apply gC; refine sC ?_) | (apply gD; refine sD ?_) | fail)
    rw [List.drop_zero]
    have hx2 : ∀ y ∈ xs.take g, y.length ≤ 10000000 := fun y hy => by have := hxs y (List.mem_of_mem_take hy); omega
    refine O_d (dy_call ArgsI.pf (by first | exact rfl | trivial | (intro a b; rfl)) (SameLists_ct (la := xs.take g) (lb := xs.take g) (.tail _ (.tail _ (.head _))) (.head _) (by omega) (by omega) hx2 hx2 (q := true) (decide_eq_true rfl))) ?_; rintro _ _ ⟨_, ⟨rfl, hLL⟩, rfl⟩; replace hLL := hLL.symm; subst hLL; refine O_n ?_
    repeat' (first | refine go ?_ | intro _ | (apply cG; first | refine cT ?_ | refine cF ?_ | refine cS (fun _ => ?_) fun _ => ?_) | (apply gW; refine sW ?_) | (apply gI; refine sI ?_) | (apply gE; refine sE ?_) | (apply gP; refine sP ?_) | (apply gC; refine sC ?_) | (apply gD; refine sD ?_) | fail)
    refine O_d (dy_call ArgsI.pf (by first | exact rfl | trivial | (intro a b; rfl)) (CT.pull (i := 1) (by rfl) (Len_ct))) ?_; rintro _ _ ⟨_, ⟨rfl, rfl⟩, rfl⟩; refine O_n ?_
    repeat' (first | refine go ?_ | intro _ | (apply cG; first | refine cT ?_ | refine cF ?_ | refine cS (fun _ => ?_) fun _ => ?_) | (apply gW; refine sW ?_) | (apply gI; refine sI ?_) | (apply gE; refine sE ?_) | (apply gP; refine sP ?_) | (apply gC; refine sC ?_) | (apply gD; refine sD ?_) | fail)
    refine O_d (dy_call ArgsI.pf (by first | exact rfl | trivial | (intro a b; rfl)) (Few_ct (.tail _ (.tail _ (.tail _ (.tail _ (.tail _ (.tail _ (.tail _ hb))))))) hbl (most := 50) (by decide) (by decide))) ?_; rintro _ _ ⟨_, ⟨A8, c8, rfl, rfl⟩, rfl⟩; refine O_n ?_
    obtain ⟨fb, hfb⟩ : ∃ fb, ln.take (Int.toNat 50) = fb := ⟨_, rfl⟩
    have hfbl : fb.length ≤ 50 := by rw [← hfb]; exact List.length_take_le _ _
    rw [hfb]
    have hFl := frameF_len (i := (g : Int)) (x := fb) (by omega) (by omega) (by omega)
    refine O_frz 0 ?_
    repeat' (first | refine go ?_ | intro _ | (apply cG; first | refine cT ?_ | refine cF ?_ | refine cS (fun _ => ?_) fun _ => ?_) | (apply gW; refine sW ?_) | (apply gI; refine sI ?_) | (apply gE; refine sE ?_) | (apply gP; refine sP ?_) | (apply gC; refine sC ?_) | (apply gD; refine sD ?_) | fail)
    refine O_front 4 rfl EAt.pf ?_
    refine O_front 2 rfl EAt.pf ?_
    refine O_d (dy_call ArgsI.pf (by first | exact rfl | trivial | (intro a b; rfl)) ((LApp_go1 (n := (g : Int)) (b := fb) (.inl (.head _)) (by omega) (by omega) (by omega) hj4 hfk ho4 ha4 (by omega) (by omega) (by omega)))) ?_; rintro _ _ ⟨_, ⟨d5, hj5, ho5, ha5, hl5, rfl, rfl⟩, rfl⟩; refine O_n ?_
    have hsn : framesF 0 (xs.take g) ++ frameF (g : Int) fb = framesF 0 (xs.take g ++ [fb]) := by rw [framesF_snoc, hgl, Int.zero_add]
    rw [hsn] at hj5
    have hls : (xs.take g ++ [fb]).length = g + 1 := by rw [List.length_append, hgl]; rfl
    have hUs := congrArg List.length hsn
    rw [List.length_append] at hUs
    have hsc2 : scanF (framesF 0 (xs.take g ++ [fb])).length 0 (framesF 0 (xs.take g ++ [fb])) = (xs.take g ++ [fb], (framesF 0 (xs.take g ++ [fb])).length) := by
      refine scan_frames (fun y hy => ?_) (by omega)
      rcases List.mem_append.1 hy with hy | hy
      · have := hx2 y hy
        have := hxs y (List.mem_of_mem_take hy)
        omega
      · simp only [List.mem_cons, List.not_mem_nil, or_false] at hy
        subst hy
        omega
    repeat' (first | refine go ?_ | intro _ | (apply cG; first | refine cT ?_ | refine cF ?_ | refine cS (fun _ => ?_) fun _ => ?_) | (apply gW; refine sW ?_) | (apply gI; refine sI ?_) | (apply gE; refine sE ?_) | (apply gP; refine sP ?_) | (apply gC; refine sC ?_) | (apply gD; refine sD ?_) | fail)
    refine O_front 1 rfl EAt.pf ?_
    refine O_d (dy_call ArgsI.pf (by first | exact rfl | trivial | (intro a b; rfl)) (Open_cut (xs := xs.take g ++ [fb]) (N := (framesF 0 (xs.take g ++ [fb])).length) hj5 ho5 ha5 (by omega) (by omega) hfk (by omega) hsc2)) ?_; rintro _ _ ⟨_, ⟨d6, q6, A9, c9, hj6, ho6, ha6, hl6, rfl, rfl⟩, rfl⟩; refine O_n ?_
    rw [hls]
    refine O_frz 1 ?_
    have haf : At (xs.take g ++ [fb]) g fb := ⟨by rw [List.getElem?_append_right (by omega), hgl, Nat.sub_self]; rfl⟩
    repeat' (first | refine go ?_ | intro _ | (apply cG; first | refine cT ?_ | refine cF ?_ | refine cS (fun _ => ?_) fun _ => ?_) | (apply gW; refine sW ?_) | (apply gI; refine sI ?_) | (apply gE; refine sE ?_) | (apply gP; refine sP ?_) | (apply gC; refine sC ?_) | (apply gD; refine sD ?_) | fail)
    refine O_d (dy_call ArgsI.pf (by first | exact rfl | trivial | (intro a b; rfl)) (SameBytes_ct (la := fb) (lb := fb) (.inl (.head _)) (.inl (.tail _ (.tail _ (.tail _ (.tail _ (.tail _ (.head _))))))) (by omega) (by omega) (q := true) (decide_eq_true rfl))) ?_; rintro _ _ ⟨_, ⟨rfl, hLL⟩, rfl⟩; replace hLL := hLL.symm; subst hLL; refine O_n ?_
    repeat' (first | refine go ?_ | intro _ | (apply cG; first | refine cT ?_ | refine cF ?_ | refine cS (fun _ => ?_) fun _ => ?_) | (apply gW; refine sW ?_) | (apply gI; refine sI ?_) | (apply gE; refine sE ?_) | (apply gP; refine sP ?_) | (apply gC; refine sC ?_) | (apply gD; refine sD ?_) | fail)
    refine O_d (dy_call ArgsI.pf (by first | exact rfl | trivial | (intro a b; rfl)) (lives_ct)) ?_; rintro _ _ ⟨_, ⟨rfl, hLL⟩, rfl⟩; replace hLL := hLL.symm; subst hLL; refine O_n ?_
    repeat' (first | refine go ?_ | intro _ | (apply cG; first | refine cT ?_ | refine cF ?_ | refine cS (fun _ => ?_) fun _ => ?_) | (apply gW; refine sW ?_) | (apply gI; refine sI ?_) | (apply gE; refine sE ?_) | (apply gP; refine sP ?_) | (apply gC; refine sC ?_) | (apply gD; refine sD ?_) | fail)
    refine E_res1 (by rfl) (by rfl) ⟨rfl, rfl⟩ Sb
theorem JournalDurable_any {v vn : Value} {li : List Int} {ln : List UInt8} {when keep : Int} {w : World} (s : St w w [rd eI v li, rd eB vn ln]) (hl : li.length ≤ 9223372036854775807) (hr : ∀ n ∈ li, -9223372036854775808 ≤ n ∧ n ≤ 9223372036854775807)
    (hw1 : -9223372036854775808 ≤ when) (hw2 : when ≤ 9223372036854775807) (hk1 : -9223372036854775808 ≤ keep) (hk2 : keep ≤ 9223372036854775807) (hbl : ln.length ≤ 9223372036854775807) :
    Calls Try.prog 3 #[v, .int .i64 when, .int .i64 keep, vn] w fun e w' => e = .returned (.bool true) ∧ Below w.heap.size w w' :=
  ((JournalDurable_ct (W0 := w) (.head _) hl hr hw1 hw2 hk1 hk2 (.tail _ (.head _)) hbl).run w s).mono fun e w' h => by
    obtain ⟨v, L', rfl, ⟨rfl, rfl⟩, s⟩ := h
    exact ⟨rfl, s.below⟩
end
end Go.Proofs.Ytbjaecofccpahaa
namespace Go.Proofs.Ytbjaecofccpahaa
open Go Go.RowKit
set_option linter.unusedVariables false
set_option linter.unusedSimpArgs false
def toB (n : Int) : UInt8 := UInt8.ofNat n.toNat
theorem toB_wf {n : Int} (h : (Lit.int .u8 n).wf = true) : ((toB n).toNat : Int) = n := by
  simp [Lit.wf, IntKind.min, IntKind.max, IntKind.signed, IntKind.bits] at h
  unfold toB
  simp
  omega
/-- a row of numbers of one kind, said as the rows' proofs say it -/
theorem row_sl {α : Type} {f : α → Value} {hf : ∀ a, (f a).oneCell' = true} {k : IntKind} {w : World} {a : Option Addr} {len cap : Nat} {zs : List Int} {l : List α} (hl : l.map f = (zs.take len).map (Value.int k)) (hz : zs.length = cap) (hlc : len ≤ cap)
    {x : Addr} (ha : a = some x) (hcell : ∀ i, i < zs.length → w.cell? (x.add i) = some (.int k (zs.getD i 0))) : Sl (Hp.of w) (e1 f hf) (.slice a len cap) l := by
  have hlen : l.length = len := by
    have := congrArg List.length hl
    simp at this
    omega
  subst hlen
  refine ⟨a, cap, l.map fun b => [f b], rfl, hlc, all2_e1.2 rfl, ?_⟩
  by_cases h0 : l = []
  · exact .inl h0
  · right
    have hpos : 0 < l.length := List.length_pos_iff.2 h0
    obtain ⟨b, off, spot⟩ := x
    have h1 := hcell 0 (by omega)
    have hspot : spot = none := by simpa [Addr.add] using World.cell?_spot h1
    subst hspot
    rw [flat_one]
    have hb : ∃ cs t fr, w.heap[b]? = some (.cells cs t fr) := by
      unfold World.cell? at h1
      simp only [Addr.add] at h1
      split at h1
      · rename_i cs t fr he; exact ⟨cs, t, fr, he⟩
      · cases h1
    obtain ⟨cs, t, fr, hb⟩ := hb
    refine ⟨b, off, cs, t, fr, ha, hb, ?_⟩
    intro j u hj
    rw [hl] at hj
    have hjl : j < l.length := by
      have := (List.getElem?_eq_some_iff.1 hj).1
      simp at this
      omega
    have h2 := hcell j (by omega)
    have h3 : w.cell? ⟨b, off + j, none⟩ = some (.int k (zs.getD j 0)) := by
      have e : (Addr.add ⟨b, off, none⟩ j) = ⟨b, off + j, none⟩ := by
        by_cases hj0 : j = 0
        · subst hj0; rfl
        · simp [Addr.add, hj0]
      rw [e] at h2
      exact h2
    have h4 : cs[off + j]? = some (.int k (zs.getD j 0)) := by simpa [World.cell?, hb] using h3
    rw [h4]
    rw [List.getElem?_map, List.getElem?_take, if_pos hjl] at hj
    rw [List.getD_eq_getElem?_getD]
    cases hzz : zs[j]? with
    | none => rw [hzz] at hj; cases hj
    | some z => rw [hzz] at hj; simpa using hj
theorem row_i64 {w : World} {a : Option Addr} {len cap : Nat} {zs : List Int} (h : (a = none ∧ len = 0 ∧ cap = 0 ∧ zs = []) ∨
    ∃ x, a = some x ∧ len ≤ cap ∧ cap ≤ maxLen ∧ zs.length = cap ∧ (∀ i, i < zs.length → w.cell? (x.add i) = some (.int .i64 (zs.getD i 0))) ∧ ∀ n ∈ zs, (Lit.int .i64 n).wf = true) :
    ∃ l : List Int, Sl (Hp.of w) eI (.slice a len cap) l ∧ l.length = len ∧ len ≤ 9223372036854775807 ∧ ∀ n ∈ l, -9223372036854775808 ≤ n ∧ n ≤ 9223372036854775807 := by
  rcases h with ⟨rfl, rfl, rfl, rfl⟩ | ⟨x, ha, hl, hm, hz, hc, hw⟩
  · exact ⟨[], ⟨none, 0, [], rfl, Nat.le_refl _, trivial, .inl rfl⟩, rfl, by omega, by simp⟩
  · unfold maxLen at hm
    refine ⟨zs.take len, row_sl rfl hz hl ha hc, by simp; omega, by omega, fun n hn => ?_⟩
    have := hw n (List.mem_of_mem_take hn)
    simpa [Lit.wf, IntKind.min, IntKind.max, IntKind.signed, IntKind.bits] using this
theorem row_u8 {w : World} {a : Option Addr} {len cap : Nat} {zs : List Int} (h : (a = none ∧ len = 0 ∧ cap = 0 ∧ zs = []) ∨
    ∃ x, a = some x ∧ len ≤ cap ∧ cap ≤ maxLen ∧ zs.length = cap ∧ (∀ i, i < zs.length → w.cell? (x.add i) = some (.int .u8 (zs.getD i 0))) ∧ ∀ n ∈ zs, (Lit.int .u8 n).wf = true) :
    ∃ l : List UInt8, Sl (Hp.of w) eB (.slice a len cap) l ∧ l.length = len ∧ len ≤ 9223372036854775807 := by
  rcases h with ⟨rfl, rfl, rfl, rfl⟩ | ⟨x, ha, hl, hm, hz, hc, hw⟩
  · exact ⟨[], ⟨none, 0, [], rfl, Nat.le_refl _, trivial, .inl rfl⟩, rfl, by omega⟩
  · unfold maxLen at hm
    refine ⟨(zs.take len).map toB, row_sl ?_ hz hl ha hc, by simp; omega, by omega⟩
    rw [List.map_map]
    refine List.map_congr_left fun n hn => ?_
    show bv (toB n) = _
    rw [bv, toB_wf (hw n (List.mem_of_mem_take hn))]
theorem St.mem_ {W : World} {α : Type} {R : Enc α} {v : Value} {l : List α} {L : List HP} (h : Sl (Hp.of W) R v l) (hS : St W W L) : St W W (Go.Proofs.Ytbjaecofccpahaa.rd R v l :: L) := hS.old h
end Go.Proofs.Ytbjaecofccpahaa
