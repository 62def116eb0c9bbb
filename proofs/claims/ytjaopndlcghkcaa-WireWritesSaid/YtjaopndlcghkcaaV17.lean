/-
  Walks of the reference 02: Encode; the law WireWrites.
-/
import Derived.Test.YtjaopndlcghkcaaV16
namespace Go.Proofs.Ytjaopndlcghkcaa
open Go Go.RowKit
set_option linter.unusedVariables false
set_option linter.unusedSimpArgs false
set_option synthInstance.maxSize 100000
set_option synthInstance.maxHeartbeats 400000
section
variable {W0 : World} {L : List HP}
set_option maxHeartbeats 1000000 in
theorem fEnc_ct {v : Value} {l : List VV} (hv : Src L eV v l) (hg : ∀ x ∈ l, x.toVal.good) (hl : l.length ≤ 1000) :
    CT Try.prog 18 #[v] W0 L fun r L' => ∃ A c, r = .slice A (encL (l.map VV.toVal)).length c ∧ L' = own 5 eB (.slice A (encL (l.map VV.toVal)).length c) (encL (l.map VV.toVal)) :: L := by
  refine CT_fact (fun w s => (hv.sl s).form) ?_
  rintro ⟨A, cap, rfl, hcap⟩
  replace hv : ScA A L l.length cap eV l := ⟨hv⟩
  refine CT_enter Try.func18 rfl ?_; (simp only [Try.ntmps18, List.size_toArray, List.length_cons, List.length_nil, Nat.reduceAdd, Nat.reduceSub, Array.replicate_succ, Array.replicate_zero, List.push_toArray, List.append_toArray, List.nil_append, List.cons_append])
  repeat' (first | refine go ?_ | intro _ | (apply cG; first | refine cT ?_ | refine cF ?_ | refine cS (fun _ => ?_) fun _ => ?_) | (apply gW; refine sW ?_) | (apply gI; refine sI ?_) | (apply gE; refine sE ?_) | (apply gP; refine sP ?_) | (apply gC; refine sC ?_) | (apply gD; refine sD ?_) | fail)
  refine C_ownnil 5 eB ?_
  refine C_loopS (κ := Nat × Value × List UInt8) [false, false, false, true, true, true, true, true, true, true, true, true, true, true, true, true, true, true, true, true, true, true, true, true, true, true, true, true, true, true, true, true, true, true, true, true, true, true, true, true, true, true, true, true, true, true, true, true, true, true, true, true, true, true, true, true, true, true, true, true, true, true, true, true, true, true, false] (fun k => [(3, k.2.1), (4, .int .i64 (k.1 : Int))]) (fun k => [(0, own 5 eB k.2.1 k.2.2)]) (fun k => k.1 ≤ l.length ∧ (∃ A c, k.2.1 = .slice A k.2.2.length c) ∧ k.2.2 = encL ((l.take k.1).map VV.toVal)) (fun k => l.length - k.1) (0, .slice none 0 0, []) ⟨Nat.zero_le _, ⟨none, 0, rfl⟩, rfl⟩ ⟨rfl, rfl, trivial⟩ ?_
  rintro ⟨k, vo, out⟩ u ⟨hk, ⟨A3, c3, hvo⟩, hout⟩
  dsimp only at hk hvo hout
  subst hvo
  have hel := goodL_len (l := (l.take k).map VV.toVal) (fun y hy => by
    obtain ⟨z, hz, rfl⟩ := List.mem_map.1 hy
    exact hg z (List.mem_of_mem_take hz))
  rw [← hout, List.length_map, List.length_take] at hel
  have hol : out.length ≤ 300000 := by omega
  ((try dsimp only); refine C_n ?_; (try simp only [Nat.reduceAdd, Nat.zero_add]))
  by_cases hlt : k < l.length
  · obtain ⟨x, hx⟩ : ∃ x, l[k]? = some x := ⟨_, List.getElem?_eq_getElem hlt⟩
    have hgx := hg x (List.mem_of_getElem? hx)
    have hax : At l k x := ⟨hx⟩
    have hge := good_len hgx
    have hnext : encL ((l.take (k + 1)).map VV.toVal) = out ++ encV x.toVal := by
      rw [take_snoc' hx, List.map_append, List.map_cons, List.map_nil, encL_snoc, hout]
    refine C_sub (sub_peekS hv.pf.c hx) ?_
    obtain ⟨e, he⟩ : ∃ e, encV x.toVal = e := ⟨_, rfl⟩
    rw [he] at hge hnext
    unfold encV at he
    obtain ⟨⟨k1, k2, hu, n1, n2, hb, hli, hlr⟩, g0, g6, gu, gn, gn2, gb, gl, gbl, gll⟩ := hgx
    by_cases e0 : x.k = 0
    · rw [if_pos e0] at he
      subst he
      repeat' (first | refine go ?_ | intro _ | (apply cG; first | refine cT ?_ | refine cF ?_ | refine cS (fun _ => ?_) fun _ => ?_) | (apply gW; refine sW ?_) | (apply gI; refine sI ?_) | (apply gE; refine sE ?_) | (apply gP; refine sP ?_) | (apply gC; refine sC ?_) | (apply gD; refine sD ?_) | fail)
      refine O_d (dy_call ArgsI.pf (by first | exact rfl | trivial | (intro a b; rfl)) (fUint_ct hu)) ?_; rintro _ _ ⟨_, ⟨A4, c4, rfl, rfl⟩, rfl⟩; refine O_n ?_
      repeat' (first | refine go ?_ | intro _ | (apply cG; first | refine cT ?_ | refine cF ?_ | refine cS (fun _ => ?_) fun _ => ?_) | (apply gW; refine sW ?_) | (apply gI; refine sI ?_) | (apply gE; refine sE ?_) | (apply gP; refine sP ?_) | (apply gC; refine sC ?_) | (apply gD; refine sD ?_) | fail)
      rename_i A5 c5
      exact E_round (k + 1, .slice A5 _ c5, out ++ varint x.u) ⟨hlt, ⟨A5, c5, by simp only [List.length_append]⟩, hnext.symm⟩ (by show l.length - (k + 1) < l.length - k; omega) ⟨rfl, rfl, trivial⟩ Sb
    rw [if_neg e0] at he
    by_cases e1 : x.k = 1
    · rw [if_pos e1] at he
      subst he
      repeat' (first | refine go ?_ | intro _ | (apply cG; first | refine cT ?_ | refine cF ?_ | refine cS (fun _ => ?_) fun _ => ?_) | (apply gW; refine sW ?_) | (apply gI; refine sI ?_) | (apply gE; refine sE ?_) | (apply gP; refine sP ?_) | (apply gC; refine sC ?_) | (apply gD; refine sD ?_) | fail)
      refine O_d (dy_call ArgsI.pf (by first | exact rfl | trivial | (intro a b; rfl)) (fInt_ct n1 n2)) ?_; rintro _ _ ⟨_, ⟨A4, c4, rfl, rfl⟩, rfl⟩; refine O_n ?_
      repeat' (first | refine go ?_ | intro _ | (apply cG; first | refine cT ?_ | refine cF ?_ | refine cS (fun _ => ?_) fun _ => ?_) | (apply gW; refine sW ?_) | (apply gI; refine sI ?_) | (apply gE; refine sE ?_) | (apply gP; refine sP ?_) | (apply gC; refine sC ?_) | (apply gD; refine sD ?_) | fail)
      rename_i A5 c5
      exact E_round (k + 1, .slice A5 _ c5, out ++ varint (zig x.n)) ⟨hlt, ⟨A5, c5, by simp only [List.length_append]⟩, hnext.symm⟩ (by show l.length - (k + 1) < l.length - k; omega) ⟨rfl, rfl, trivial⟩ Sb
    rw [if_neg e1] at he
    by_cases e2 : x.k = 2
    · rw [if_pos e2] at he
      subst he
      by_cases en : x.n = 1
      · repeat' (first | refine go ?_ | intro _ | (apply cG; first | refine cT ?_ | refine cF ?_ | refine cS (fun _ => ?_) fun _ => ?_) | (apply gW; refine sW ?_) | (apply gI; refine sI ?_) | (apply gE; refine sE ?_) | (apply gP; refine sP ?_) | (apply gC; refine sC ?_) | (apply gD; refine sD ?_) | fail)
        refine O_d (dy_call ArgsI.pf (by first | exact rfl | trivial | (intro a b; rfl)) (fBool_ct (b := true))) ?_; rintro _ _ ⟨_, ⟨A4, c4, rfl, rfl⟩, rfl⟩; refine O_n ?_
        rw [if_pos rfl]
        rw [if_pos en] at hnext hge
        repeat' (first | refine go ?_ | intro _ | (apply cG; first | refine cT ?_ | refine cF ?_ | refine cS (fun _ => ?_) fun _ => ?_) | (apply gW; refine sW ?_) | (apply gI; refine sI ?_) | (apply gE; refine sE ?_) | (apply gP; refine sP ?_) | (apply gC; refine sC ?_) | (apply gD; refine sD ?_) | fail)
        rename_i A5 c5
        exact E_round (k + 1, .slice A5 _ c5, out ++ varint 1) ⟨hlt, ⟨A5, c5, by simp only [List.length_append]⟩, hnext.symm⟩ (by show l.length - (k + 1) < l.length - k; omega) ⟨rfl, rfl, trivial⟩ Sb
      · repeat' (first | refine go ?_ | intro _ | (apply cG; first | refine cT ?_ | refine cF ?_ | refine cS (fun _ => ?_) fun _ => ?_) | (apply gW; refine sW ?_) | (apply gI; refine sI ?_) | (apply gE; refine sE ?_) | (apply gP; refine sP ?_) | (apply gC; refine sC ?_) | (apply gD; refine sD ?_) | fail)
        refine O_d (dy_call ArgsI.pf (by first | exact rfl | trivial | (intro a b; rfl)) (fBool_ct (b := false))) ?_; rintro _ _ ⟨_, ⟨A4, c4, rfl, rfl⟩, rfl⟩; refine O_n ?_
        rw [if_neg Bool.false_ne_true]
        rw [if_neg en] at hnext hge
        repeat' (first | refine go ?_ | intro _ | (apply cG; first | refine cT ?_ | refine cF ?_ | refine cS (fun _ => ?_) fun _ => ?_) | (apply gW; refine sW ?_) | (apply gI; refine sI ?_) | (apply gE; refine sE ?_) | (apply gP; refine sP ?_) | (apply gC; refine sC ?_) | (apply gD; refine sD ?_) | fail)
        rename_i A5 c5
        exact E_round (k + 1, .slice A5 _ c5, out ++ varint 0) ⟨hlt, ⟨A5, c5, by simp only [List.length_append]⟩, hnext.symm⟩ (by show l.length - (k + 1) < l.length - k; omega) ⟨rfl, rfl, trivial⟩ Sb
    rw [if_neg e2] at he
    by_cases e3 : x.k = 3
    · rw [if_pos (.inl e3)] at he
      subst he
      have hge2 := hge
      rw [List.length_append] at hge2
      repeat' (first | refine go ?_ | intro _ | (apply cG; first | refine cT ?_ | refine cF ?_ | refine cS (fun _ => ?_) fun _ => ?_) | (apply gW; refine sW ?_) | (apply gI; refine sI ?_) | (apply gE; refine sE ?_) | (apply gP; refine sP ?_) | (apply gC; refine sC ?_) | (apply gD; refine sD ?_) | fail)
      refine O_d (dy_call ArgsI.pf (by first | exact rfl | trivial | (intro a b; rfl)) (fRaw_ct (v := x.vb) (l := x.b) (.inl (by repeat (first | exact .head _ | refine .tail _ ?_))) (by omega))) ?_; rintro _ _ ⟨_, ⟨A4, c4, rfl, rfl⟩, rfl⟩; refine O_n ?_
      repeat' (first | refine go ?_ | intro _ | (apply cG; first | refine cT ?_ | refine cF ?_ | refine cS (fun _ => ?_) fun _ => ?_) | (apply gW; refine sW ?_) | (apply gI; refine sI ?_) | (apply gE; refine sE ?_) | (apply gP; refine sP ?_) | (apply gC; refine sC ?_) | (apply gD; refine sD ?_) | fail)
      rename_i A5 c5
      exact E_round (k + 1, .slice A5 _ c5, out ++ (varint x.b.length ++ x.b)) ⟨hlt, ⟨A5, c5, by simp only [List.length_append]⟩, hnext.symm⟩ (by show l.length - (k + 1) < l.length - k; omega) ⟨rfl, rfl, trivial⟩ Sb
    by_cases e4 : x.k = 4
    · rw [if_pos (.inr e4)] at he
      subst he
      have hge2 := hge
      rw [List.length_append] at hge2
      repeat' (first | refine go ?_ | intro _ | (apply cG; first | refine cT ?_ | refine cF ?_ | refine cS (fun _ => ?_) fun _ => ?_) | (apply gW; refine sW ?_) | (apply gI; refine sI ?_) | (apply gE; refine sE ?_) | (apply gP; refine sP ?_) | (apply gC; refine sC ?_) | (apply gD; refine sD ?_) | fail)
      refine O_d (dy_call ArgsI.pf (by first | exact rfl | trivial | (intro a b; rfl)) (fRaw_ct (v := x.vb) (l := x.b) (.inl (by repeat (first | exact .head _ | refine .tail _ ?_))) (by omega))) ?_; rintro _ _ ⟨_, ⟨A4, c4, rfl, rfl⟩, rfl⟩; refine O_n ?_
      repeat' (first | refine go ?_ | intro _ | (apply cG; first | refine cT ?_ | refine cF ?_ | refine cS (fun _ => ?_) fun _ => ?_) | (apply gW; refine sW ?_) | (apply gI; refine sI ?_) | (apply gE; refine sE ?_) | (apply gP; refine sP ?_) | (apply gC; refine sC ?_) | (apply gD; refine sD ?_) | fail)
      rename_i A5 c5
      exact E_round (k + 1, .slice A5 _ c5, out ++ (varint x.b.length ++ x.b)) ⟨hlt, ⟨A5, c5, by simp only [List.length_append]⟩, hnext.symm⟩ (by show l.length - (k + 1) < l.length - k; omega) ⟨rfl, rfl, trivial⟩ Sb
    rw [if_neg (by omega)] at he
    subst he
    have hge2 := hge
    rw [List.length_append] at hge2
    repeat' (first | refine go ?_ | intro _ | (apply cG; first | refine cT ?_ | refine cF ?_ | refine cS (fun _ => ?_) fun _ => ?_) | (apply gW; refine sW ?_) | (apply gI; refine sI ?_) | (apply gE; refine sE ?_) | (apply gP; refine sP ?_) | (apply gC; refine sC ?_) | (apply gD; refine sD ?_) | fail)
    refine O_d (dy_call ArgsI.pf (by first | exact rfl | trivial | (intro a b; rfl)) (fInts_ct (v := x.vl) (l := x.l) (.inl (by repeat (first | exact .head _ | refine .tail _ ?_))) hlr (by omega))) ?_; rintro _ _ ⟨_, ⟨A4, c4, rfl, rfl⟩, rfl⟩; refine O_n ?_
    repeat' (first | refine go ?_ | intro _ | (apply cG; first | refine cT ?_ | refine cF ?_ | refine cS (fun _ => ?_) fun _ => ?_) | (apply gW; refine sW ?_) | (apply gI; refine sI ?_) | (apply gE; refine sE ?_) | (apply gP; refine sP ?_) | (apply gC; refine sC ?_) | (apply gD; refine sD ?_) | fail)
    rename_i A5 c5
    exact E_round (k + 1, .slice A5 _ c5, out ++ (varint x.l.length ++ encI x.l)) ⟨hlt, ⟨A5, c5, by simp only [List.length_append]⟩, hnext.symm⟩ (by show l.length - (k + 1) < l.length - k; omega) ⟨rfl, rfl, trivial⟩ Sb
  · obtain rfl : k = l.length := by omega
    rw [List.take_length] at hout
    subst hout
    repeat' (first | refine go ?_ | intro _ | (apply cG; first | refine cT ?_ | refine cF ?_ | refine cS (fun _ => ?_) fun _ => ?_) | (apply gW; refine sW ?_) | (apply gI; refine sI ?_) | (apply gE; refine sE ?_) | (apply gP; refine sP ?_) | (apply gC; refine sC ?_) | (apply gD; refine sD ?_) | fail)
    refine E_res1 (by rfl) (by rfl) ⟨_, _, rfl, rfl⟩ Sb
end
end Go.Proofs.Ytjaopndlcghkcaa
