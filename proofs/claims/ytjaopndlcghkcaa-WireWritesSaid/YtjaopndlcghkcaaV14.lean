/-
  Walks of the wire laws: WirePrefix.
-/
import Derived.Test.YtjaopndlcghkcaaV13
namespace Go.Proofs.Ytjaopndlcghkcaa
open Go Go.RowKit
set_option linter.unusedVariables false
set_option linter.unusedSimpArgs false
set_option synthInstance.maxSize 100000
set_option synthInstance.maxHeartbeats 400000
theorem encL_drop_len {l : List VV} (hg : ∀ x ∈ l, x.toVal.good) (k : Nat) : (encL ((l.drop k).map VV.toVal)).length ≤ 300 * l.length := by
  have := goodL_len (l := (l.drop k).map VV.toVal) (fun y hy => by
    obtain ⟨z, hz, rfl⟩ := List.mem_map.1 hy
    exact hg z (List.mem_of_mem_drop hz))
  rw [List.length_map, List.length_drop] at this
  omega
theorem rEnd_err {b : List UInt8} {e : Int} (h : e ≠ 0) : rEnd (b, e) = e := by unfold rEnd; rw [if_neg]; exact fun hh => h hh.1
theorem kinds_drop {l : List VV} {k : Nat} {x : VV} (h : l[k]? = some x) : (l.drop k).map (fun y => y.k) = x.k :: (l.drop (k + 1)).map (fun y => y.k) := by
  obtain ⟨hlt, rfl⟩ := List.getElem?_eq_some_iff.1 h
  rw [List.drop_eq_getElem_cons hlt]; rfl
section
variable {W0 : World} {L : List HP}
set_option synthInstance.maxSize 2000 in
set_option maxHeartbeats 1000000 in
theorem WirePrefix_ct {v : Value} {li : List Int} {cut : Int} {by8 : UInt8} (hv : rd eI v li ∈ L) (hl : li.length ≤ 9223372036854775807) (hr : ∀ n ∈ li, -9223372036854775808 ≤ n ∧ n ≤ 9223372036854775807) (hn : -9223372036854775808 ≤ cut ∧ cut ≤ 9223372036854775807) :
    CT Try.prog 9 #[v, .int .i64 cut, bv by8] W0 L fun r L' => r = .bool true ∧ L' = L := by
  refine CT_enter Try.func9 rfl ?_; (simp only [Try.ntmps9, List.size_toArray, List.length_cons, List.length_nil, Nat.reduceAdd, Nat.reduceSub, Array.replicate_succ, Array.replicate_zero, List.push_toArray, List.append_toArray, List.nil_append, List.cons_append])
  repeat' (first | refine go ?_ | intro _ | (apply cG; first | refine cT ?_ | refine cF ?_ | refine cS (fun _ => ?_) fun _ => ?_) | (apply gW; refine sW ?_) | (apply gI; refine sI ?_) | (apply gE; refine sE ?_) | (apply gP; refine sP ?_) | (apply gC; refine sC ?_) | (apply gD; refine sD ?_) | fail)
  refine O_d (dy_call ArgsI.pf (by first | exact rfl | trivial | (intro a b; rfl)) (Vals_ct hv hl hr)) ?_; rintro _ _ ⟨_, ⟨A, c, l, rfl, rfl, hg, h8⟩, rfl⟩; refine O_n ?_
  repeat' (first | refine go ?_ | intro _ | (apply cG; first | refine cT ?_ | refine cF ?_ | refine cS (fun _ => ?_) fun _ => ?_) | (apply gW; refine sW ?_) | (apply gI; refine sI ?_) | (apply gE; refine sE ?_) | (apply gP; refine sP ?_) | (apply gC; refine sC ?_) | (apply gD; refine sD ?_) | fail)
  refine O_d (dy_call ArgsI.pf (by first | exact rfl | trivial | (intro a b; rfl)) (encode_ct (l := l) Sc.pf (fun x hx => (hg x hx).ok) (by omega))) ?_; rintro _ _ ⟨_, ⟨A3, c3, rfl, rfl⟩, rfl⟩; refine O_n ?_
  have hel := encL_drop_len hg 0
  rw [List.drop_zero] at hel
  refine O_frz 0 ?_
  obtain ⟨enc, henc⟩ : ∃ enc, encL (l.map VV.toVal) = enc := ⟨_, rfl⟩
  rw [henc] at hel ⊢
  by_cases hz : enc.length = 0
  · obtain rfl := List.eq_nil_of_length_eq_zero hz
    repeat' (first | refine go ?_ | intro _ | (apply cG; first | refine cT ?_ | refine cF ?_ | refine cS (fun _ => ?_) fun _ => ?_) | (apply gW; refine sW ?_) | (apply gI; refine sI ?_) | (apply gE; refine sE ?_) | (apply gP; refine sP ?_) | (apply gC; refine sC ?_) | (apply gD; refine sD ?_) | fail)
    refine O_rdnil eB none 0 ?_
    refine O_d (dy_call ArgsI.pf (by first | exact rfl | trivial | (intro a b; rfl)) (Read_ct (l := []) (.inl (.head _)) (by decide))) ?_; rintro _ _ ⟨_, ⟨p1, rfl, rfl⟩, rfl⟩; refine O_n ?_
    repeat' (first | refine go ?_ | intro _ | (apply cG; first | refine cT ?_ | refine cF ?_ | refine cS (fun _ => ?_) fun _ => ?_) | (apply gW; refine sW ?_) | (apply gI; refine sI ?_) | (apply gE; refine sE ?_) | (apply gP; refine sP ?_) | (apply gC; refine sC ?_) | (apply gD; refine sD ?_) | fail)
    refine O_d (dy_call ArgsI.pf (by first | exact rfl | trivial | (intro a b; rfl)) (End_ct (bs := []) (e := 0) (x := 0) rfl (by decide))) ?_; rintro _ _ ⟨_, ⟨rfl, rfl⟩, rfl⟩; refine O_n ?_
    repeat' (first | refine go ?_ | intro _ | (apply cG; first | refine cT ?_ | refine cF ?_ | refine cS (fun _ => ?_) fun _ => ?_) | (apply gW; refine sW ?_) | (apply gI; refine sI ?_) | (apply gE; refine sE ?_) | (apply gP; refine sP ?_) | (apply gC; refine sC ?_) | (apply gD; refine sD ?_) | fail)
    refine O_d (dy_call ArgsI.pf (by first | exact rfl | trivial | (intro a b; rfl)) (lives_ct)) ?_; rintro _ _ ⟨_, ⟨rfl, hLL⟩, rfl⟩; replace hLL := hLL.symm; subst hLL; refine O_n ?_
    repeat' (first | refine go ?_ | intro _ | (apply cG; first | refine cT ?_ | refine cF ?_ | refine cS (fun _ => ?_) fun _ => ?_) | (apply gW; refine sW ?_) | (apply gI; refine sI ?_) | (apply gE; refine sE ?_) | (apply gP; refine sP ?_) | (apply gC; refine sC ?_) | (apply gD; refine sD ?_) | fail)
    refine E_res1 (by rfl) (by rfl) ⟨rfl, rfl⟩ Sb
  repeat' (first | refine go ?_ | intro _ | (apply cG; first | refine cT ?_ | refine cF ?_ | refine cS (fun _ => ?_) fun _ => ?_) | (apply gW; refine sW ?_) | (apply gI; refine sI ?_) | (apply gE; refine sE ?_) | (apply gP; refine sP ?_) | (apply gC; refine sC ?_) | (apply gD; refine sD ?_) | fail)
  refine O_d (dy_call ArgsI.pf (by first | exact rfl | trivial | (intro a b; rfl)) (Around_ct hn.1 hn.2 (by omega) (by omega))) ?_; rintro _ _ ⟨_, ⟨rfl, hLL⟩, rfl⟩; replace hLL := hLL.symm; subst hLL; refine O_n ?_
  obtain ⟨kk, hkk, hkl⟩ : ∃ kk : Nat, around cut (enc.length : Int) = (kk : Int) ∧ kk < enc.length := by
    have := around_in (n := cut) (most := enc.length) (by omega)
    exact ⟨(around cut enc.length).toNat, by omega, by omega⟩
  rw [hkk]
  repeat' (first | refine go ?_ | intro _ | (apply cG; first | refine cT ?_ | refine cF ?_ | refine cS (fun _ => ?_) fun _ => ?_) | (apply gW; refine sW ?_) | (apply gI; refine sI ?_) | (apply gE; refine sE ?_) | (apply gP; refine sP ?_) | (apply gC; refine sC ?_) | (apply gD; refine sD ?_) | fail)
  rw [List.drop_zero]
  obtain ⟨pre, hpre⟩ : ∃ pre, enc.take kk = pre := ⟨_, rfl⟩
  have hpl : pre.length = kk := by rw [← hpre, List.length_take]; omega
  rw [hpre]
  refine O_d (dy_call ArgsI.pf (by first | exact rfl | trivial | (intro a b; rfl)) (Read_ct (.inl (.head _)) (by omega))) ?_; rintro _ _ ⟨_, ⟨p1, rfl, rfl⟩, rfl⟩; refine O_n ?_
  repeat' (first | refine go ?_ | intro _ | (apply cG; first | refine cT ?_ | refine cF ?_ | refine cS (fun _ => ?_) fun _ => ?_) | (apply gW; refine sW ?_) | (apply gI; refine sI ?_) | (apply gE; refine sE ?_) | (apply gP; refine sP ?_) | (apply gC; refine sC ?_) | (apply gD; refine sD ?_) | fail)
  refine O_d (dy_call ArgsI.pf (by first | exact rfl | trivial | (intro a b; rfl)) (Few_all (l := enc) (.inl (by repeat (first | exact .head _ | refine .tail _ ?_))) (by omega) (Int.le_refl _))) ?_; rintro _ _ ⟨_, ⟨A4, c4, rfl, rfl⟩, rfl⟩; refine O_n ?_
  repeat' (first | refine go ?_ | intro _ | (apply cG; first | refine cT ?_ | refine cF ?_ | refine cS (fun _ => ?_) fun _ => ?_) | (apply gW; refine sW ?_) | (apply gI; refine sI ?_) | (apply gE; refine sE ?_) | (apply gP; refine sP ?_) | (apply gC; refine sC ?_) | (apply gD; refine sD ?_) | fail)
  refine O_d (dy_lit1 (R := eB) by8 (hcs := by rfl) (hel := fun _ _ _ => by rfl)) ?_; rintro _ _ ⟨_, rfl, rfl⟩; refine O_n ?_
  repeat' (first | refine go ?_ | intro _ | (apply cG; first | refine cT ?_ | refine cF ?_ | refine cS (fun _ => ?_) fun _ => ?_) | (apply gW; refine sW ?_) | (apply gI; refine sI ?_) | (apply gE; refine sE ?_) | (apply gP; refine sP ?_) | (apply gC; refine sC ?_) | (apply gD; refine sD ?_) | fail)
  refine O_d (dy_call ArgsI.pf (by first | exact rfl | trivial | (intro a b; rfl)) (Read_ct Sc.pf (by simp; omega))) ?_; rintro _ _ ⟨_, ⟨p2, rfl, rfl⟩, rfl⟩; refine O_n ?_
  repeat' (first | refine go ?_ | intro _ | (apply cG; first | refine cT ?_ | refine cF ?_ | refine cS (fun _ => ?_) fun _ => ?_) | (apply gW; refine sW ?_) | (apply gI; refine sI ?_) | (apply gE; refine sE ?_) | (apply gP; refine sP ?_) | (apply gC; refine sC ?_) | (apply gD; refine sD ?_) | fail)
  have hfin : (rVs ((l.map VV.toVal).map Val.k) (pre, 0)).2.2 = 3 := by
    rw [← hpre, ← henc]
    exact rVs_prefix (fun v hv => by
      obtain ⟨y, hy, rfl⟩ := List.mem_map.1 hv
      exact hg y hy) (by rw [henc]; exact hkl)
  have hfin2 : (rVs ((l.drop 0).map fun y => y.k) (pre, 0)).2.2 = 3 := by rw [List.drop_zero]; rw [List.map_map] at hfin; exact hfin
  have h0 : enc ++ [by8] = encL ((l.drop 0).map VV.toVal) ++ [by8] := by rw [List.drop_zero, henc]
  rw [h0]
  refine C_loopS (κ := Nat × List UInt8 × Int) [false, false, false, false, false, false, false, false, false, false, false, false, true, false, false, false, false, false, false, false, false, false, false, false, false, false, false, false, false, false, false, false, false, false, false, false, false, false, false, false, false, false, false, false, false, false, false, false, false, false, false, false, false, true, true, true, true, true, true, true, true, true, true, true, true, true, true, true, true, true, true, true, true, false, false, false, false, false, false, false, false, false, false, false, false, false, false, false, false, false, false, false, false, false, false, false, false, false] (fun k => [(12, .int .i64 (k.1 : Int))]) (fun k => [(0, rr p2 (encL ((l.drop k.1).map VV.toVal) ++ [by8]) 0), (3, rr p1 k.2.1 k.2.2)]) (fun k => k.1 ≤ l.length ∧ k.2.1.length ≤ 1000000 ∧ (rVs ((l.drop k.1).map fun y => y.k) (k.2.1, k.2.2)).2.2 = 3) (fun k => l.length - k.1) (0, pre, 0) ⟨Nat.zero_le _, by show pre.length ≤ _; omega, hfin2⟩ ⟨rfl, trivial⟩ ?_
  rintro ⟨i, bs, e⟩ u2 ⟨hi, hbl, hv3⟩
  dsimp only at hi hbl hv3
  ((try dsimp only); refine C_n ?_; (try simp only [Nat.reduceAdd, Nat.zero_add]))
  have hdl := encL_drop_len hg i
  by_cases hlt : i < l.length
  · obtain ⟨x, hx⟩ : ∃ x, l[i]? = some x := ⟨_, List.getElem?_eq_getElem hlt⟩
    have hgx := hg x (List.mem_of_getElem? hx)
    have hax : At l i x := ⟨hx⟩
    obtain ⟨y, b1, e1, hy⟩ : ∃ y b1 e1, rV x.k (bs, e) = (y, (b1, e1)) := ⟨_, _, _, rfl⟩
    rw [kinds_drop hx, rVs, hy] at hv3
    have hb1 := rV_len x.k (bs, e)
    rw [hy] at hb1
    dsimp only at hv3 hb1
    have he := encL_drop hx
    rw [he] at hdl ⊢
    rw [List.append_assoc]
    repeat' (first | refine go ?_ | intro _ | (apply cG; first | refine cT ?_ | refine cF ?_ | refine cS (fun _ => ?_) fun _ => ?_) | (apply gW; refine sW ?_) | (apply gI; refine sI ?_) | (apply gE; refine sE ?_) | (apply gP; refine sP ?_) | (apply gC; refine sC ?_) | (apply gD; refine sD ?_) | fail)
    refine O_d (dy_call ArgsI.pf (by first | exact rfl | trivial | (intro a b; rfl)) (CT.pull (i := 3) (by rfl) (read_ct hgx.ok.k1 hgx.ok.k2 hy (by omega)))) ?_; rintro _ _ ⟨_, ⟨A5, c5, A6, c6, rfl, rfl⟩, rfl⟩; refine O_n ?_
    repeat' (first | refine go ?_ | intro _ | (apply cG; first | refine cT ?_ | refine cF ?_ | refine cS (fun _ => ?_) fun _ => ?_) | (apply gW; refine sW ?_) | (apply gI; refine sI ?_) | (apply gE; refine sE ?_) | (apply gP; refine sP ?_) | (apply gC; refine sC ?_) | (apply gD; refine sD ?_) | fail)
    refine O_d (dy_call ArgsI.pf (by first | exact rfl | trivial | (intro a b; rfl)) (CT.pull (i := 3) (by rfl) (read_ct (x := x.toVal) (e' := 0) hgx.ok.k1 hgx.ok.k2 (rV_enc hgx _) (by simp only [List.length_append, List.length_cons, List.length_nil] at hdl ⊢; omega)))) ?_; rintro _ _ ⟨_, ⟨A7, c7, A8, c8, rfl, rfl⟩, rfl⟩; refine O_n ?_
    repeat' (first | refine go ?_ | intro _ | (apply cG; first | refine cT ?_ | refine cF ?_ | refine cS (fun _ => ?_) fun _ => ?_) | (apply gW; refine sW ?_) | (apply gI; refine sI ?_) | (apply gE; refine sE ?_) | (apply gP; refine sP ?_) | (apply gC; refine sC ?_) | (apply gD; refine sD ?_) | fail)
    exact E_round (i + 1, b1, e1) ⟨hlt, by show b1.length ≤ 1000000; omega, hv3⟩ (by show l.length - (i + 1) < l.length - i; omega) ⟨rfl, trivial⟩ Sb
  · obtain rfl : i = l.length := by omega
    rw [List.drop_length] at hv3 ⊢
    obtain rfl : e = 3 := hv3
    repeat' (first | refine go ?_ | intro _ | (apply cG; first | refine cT ?_ | refine cF ?_ | refine cS (fun _ => ?_) fun _ => ?_) | (apply gW; refine sW ?_) | (apply gI; refine sI ?_) | (apply gE; refine sE ?_) | (apply gP; refine sP ?_) | (apply gC; refine sC ?_) | (apply gD; refine sD ?_) | fail)
    refine O_d (dy_call ArgsI.pf (by first | exact rfl | trivial | (intro a b; rfl)) (CT.pull (i := 3) (by rfl) (End_ct (bs := bs) (e := 3) (x := 3) (rEnd_err (by decide)) (by omega)))) ?_; rintro _ _ ⟨_, ⟨rfl, rfl⟩, rfl⟩; refine O_n ?_
    repeat' (first | refine go ?_ | intro _ | (apply cG; first | refine cT ?_ | refine cF ?_ | refine cS (fun _ => ?_) fun _ => ?_) | (apply gW; refine sW ?_) | (apply gI; refine sI ?_) | (apply gE; refine sE ?_) | (apply gP; refine sP ?_) | (apply gC; refine sC ?_) | (apply gD; refine sD ?_) | fail)
    refine O_d (dy_call ArgsI.pf (by first | exact rfl | trivial | (intro a b; rfl)) (CT.pull (i := 1) (by rfl) (End_ct (bs := [by8]) (e := 0) (x := 2) rfl (by simp)))) ?_; rintro _ _ ⟨_, ⟨rfl, rfl⟩, rfl⟩; refine O_n ?_
    repeat' (first | refine go ?_ | intro _ | (apply cG; first | refine cT ?_ | refine cF ?_ | refine cS (fun _ => ?_) fun _ => ?_) | (apply gW; refine sW ?_) | (apply gI; refine sI ?_) | (apply gE; refine sE ?_) | (apply gP; refine sP ?_) | (apply gC; refine sC ?_) | (apply gD; refine sD ?_) | fail)
    refine O_d (dy_call ArgsI.pf (by first | exact rfl | trivial | (intro a b; rfl)) (Around_ct hn.1 hn.2 (by decide) (by decide))) ?_; rintro _ _ ⟨_, ⟨rfl, hLL⟩, rfl⟩; replace hLL := hLL.symm; subst hLL; refine O_n ?_
    obtain ⟨q, hq⟩ : ∃ q, around cut 6 = q := ⟨_, rfl⟩
    have hq2 := around_in (n := cut) (most := 6) (by decide)
    rw [hq] at hq2 ⊢
    repeat' (first | refine go ?_ | intro _ | (apply cG; first | refine cT ?_ | refine cF ?_ | refine cS (fun _ => ?_) fun _ => ?_) | (apply gW; refine sW ?_) | (apply gI; refine sI ?_) | (apply gE; refine sE ?_) | (apply gP; refine sP ?_) | (apply gC; refine sC ?_) | (apply gD; refine sD ?_) | fail)
    refine O_d (dy_call ArgsI.pf (by first | exact rfl | trivial | (intro a b; rfl)) (CT.pull (i := 1) (by rfl) (read_ct (by omega) (by omega) (rV_err (k := q) (s := (bs, 3)) (by show (3 : Int) ≠ 0; decide)) (by omega)))) ?_; rintro _ _ ⟨_, ⟨A5, c5, A6, c6, rfl, rfl⟩, rfl⟩; refine O_n ?_
    repeat' (first | refine go ?_ | intro _ | (apply cG; first | refine cT ?_ | refine cF ?_ | refine cS (fun _ => ?_) fun _ => ?_) | (apply gW; refine sW ?_) | (apply gI; refine sI ?_) | (apply gE; refine sE ?_) | (apply gP; refine sP ?_) | (apply gC; refine sC ?_) | (apply gD; refine sD ?_) | fail)
    refine O_rdnil eI none 0 ?_
    refine O_rdnil eB none 0 ?_
    repeat' (first | refine go ?_ | intro _ | (apply cG; first | refine cT ?_ | refine cF ?_ | refine cS (fun _ => ?_) fun _ => ?_) | (apply gW; refine sW ?_) | (apply gI; refine sI ?_) | (apply gE; refine sE ?_) | (apply gP; refine sP ?_) | (apply gC; refine sC ?_) | (apply gD; refine sD ?_) | fail)
    refine O_d (dy_call ArgsI.pf (by first | exact rfl | trivial | (intro a b; rfl)) (Same_ct (x := ⟨q, 0, 0, [], []⟩) (y := ⟨q, 0, 0, [], []⟩) (xb := .slice A5 0 c5) (xl := .slice A6 0 c6) (yb := .slice none 0 0) (yl := .slice none 0 0) (.inl (by repeat (first | exact .head _ | refine .tail _ ?_))) (.inl (by repeat (first | exact .head _ | refine .tail _ ?_))) (.inl (by repeat (first | exact .head _ | refine .tail _ ?_))) (.inl (by repeat (first | exact .head _ | refine .tail _ ?_))) (by simp) (by simp) (q := true) (decide_eq_true rfl))) ?_; rintro _ _ ⟨_, ⟨rfl, hLL⟩, rfl⟩; replace hLL := hLL.symm; subst hLL; refine O_n ?_
    repeat' (first | refine go ?_ | intro _ | (apply cG; first | refine cT ?_ | refine cF ?_ | refine cS (fun _ => ?_) fun _ => ?_) | (apply gW; refine sW ?_) | (apply gI; refine sI ?_) | (apply gE; refine sE ?_) | (apply gP; refine sP ?_) | (apply gC; refine sC ?_) | (apply gD; refine sD ?_) | fail)
    refine O_d (dy_call ArgsI.pf (by first | exact rfl | trivial | (intro a b; rfl)) (CT.pull (i := 5) (by rfl) (End_ct (bs := bs) (e := 3) (x := 3) (rEnd_err (by decide)) (by omega)))) ?_; rintro _ _ ⟨_, ⟨rfl, rfl⟩, rfl⟩; refine O_n ?_
    repeat' (first | refine go ?_ | intro _ | (apply cG; first | refine cT ?_ | refine cF ?_ | refine cS (fun _ => ?_) fun _ => ?_) | (apply gW; refine sW ?_) | (apply gI; refine sI ?_) | (apply gE; refine sE ?_) | (apply gP; refine sP ?_) | (apply gC; refine sC ?_) | (apply gD; refine sD ?_) | fail)
    refine O_d (dy_call ArgsI.pf (by first | exact rfl | trivial | (intro a b; rfl)) (lives_ct)) ?_; rintro _ _ ⟨_, ⟨rfl, hLL⟩, rfl⟩; replace hLL := hLL.symm; subst hLL; refine O_n ?_
    repeat' (first | refine go ?_ | intro _ | (apply cG; first | refine cT ?_ | refine cF ?_ | refine cS (fun _ => ?_) fun _ => ?_) | (apply gW; refine sW ?_) | (apply gI; refine sI ?_) | (apply gE; refine sE ?_) | (apply gP; refine sP ?_) | (apply gC; refine sC ?_) | (apply gD; refine sD ?_) | fail)
    refine E_res1 (by rfl) (by rfl) ⟨rfl, rfl⟩ Sb
theorem WirePrefix_any {v : Value} {li : List Int} {cut : Int} {by8 : UInt8} {w : World} (s : St w w [rd eI v li]) (hl : li.length ≤ 9223372036854775807) (hr : ∀ n ∈ li, -9223372036854775808 ≤ n ∧ n ≤ 9223372036854775807) (hn : -9223372036854775808 ≤ cut ∧ cut ≤ 9223372036854775807) :
    Calls Try.prog 9 #[v, .int .i64 cut, bv by8] w fun e w' => e = .returned (.bool true) ∧ Below w.heap.size w w' :=
  ((WirePrefix_ct (W0 := w) (.head _) hl hr hn).run w s).mono fun e w' h => by
    obtain ⟨v, L', rfl, ⟨rfl, rfl⟩, s⟩ := h
    exact ⟨rfl, s.below⟩
end
end Go.Proofs.Ytjaopndlcghkcaa
