/-
  Walks of the wire laws: WireRound.
-/
import Derived.Test.YtjaopndlcghkcaaV12
namespace Go.Proofs.Ytjaopndlcghkcaa
open Go Go.RowKit
set_option linter.unusedVariables false
set_option linter.unusedSimpArgs false
set_option synthInstance.maxSize 100000
set_option synthInstance.maxHeartbeats 400000
def vU (u : Nat) : VV := ⟨⟨0, u, 0, [], []⟩, .slice none 0 0, .slice none 0 0⟩
def vN (n : Int) : VV := ⟨⟨1, 0, n, [], []⟩, .slice none 0 0, .slice none 0 0⟩
theorem encL_drop {l : List VV} {i : Nat} {x : VV} (h : l[i]? = some x) : encL ((l.drop i).map VV.toVal) = encV x.toVal ++ encL ((l.drop (i + 1)).map VV.toVal) := by
  have : l.drop i = x :: l.drop (i + 1) := by
    obtain ⟨hlt, rfl⟩ := List.getElem?_eq_some_iff.1 h
    exact List.drop_eq_getElem_cons hlt
  rw [this]
  simp [encL]
section
variable {W0 : World} {L : List HP}
set_option synthInstance.maxSize 2000 in
set_option maxHeartbeats 1000000 in
theorem WireRound_ct {v : Value} {li : List Int} {un : Nat} {n : Int} (hv : rd eI v li ∈ L) (hl : li.length ≤ 9223372036854775807) (hr : ∀ n ∈ li, -9223372036854775808 ≤ n ∧ n ≤ 9223372036854775807) (hu : un < 18446744073709551616) (hn : -9223372036854775808 ≤ n ∧ n ≤ 9223372036854775807) :
    CT Try.prog 7 #[v, .int .u64 (un : Int), .int .i64 n] W0 L fun r L' => r = .bool true ∧ L' = L := by
  refine CT_enter Try.func7 rfl ?_; (simp only [Try.ntmps7, List.size_toArray, List.length_cons, List.length_nil, Nat.reduceAdd, Nat.reduceSub, Array.replicate_succ, Array.replicate_zero, List.push_toArray, List.append_toArray, List.nil_append, List.cons_append])
  repeat' (first | refine go ?_ | intro _ | (apply cG; first | refine cT ?_ | refine cF ?_ | refine cS (fun _ => ?_) fun _ => ?_) | (apply gW; refine sW ?_) | (apply gI; refine sI ?_) | (apply gE; refine sE ?_) | (apply gP; refine sP ?_) | (apply gC; refine sC ?_) | (apply gD; refine sD ?_) | fail)
  refine O_d (dy_call ArgsI.pf (by first | exact rfl | trivial | (intro a b; rfl)) (Vals_ct hv hl hr)) ?_; rintro _ _ ⟨_, ⟨A, c, l, rfl, rfl, hg, h8⟩, rfl⟩; refine O_n ?_
  repeat' (first | refine go ?_ | intro _ | (apply cG; first | refine cT ?_ | refine cF ?_ | refine cS (fun _ => ?_) fun _ => ?_) | (apply gW; refine sW ?_) | (apply gI; refine sI ?_) | (apply gE; refine sE ?_) | (apply gP; refine sP ?_) | (apply gC; refine sC ?_) | (apply gD; refine sD ?_) | fail)
  refine O_d (dy_litA (R := eV) [vU un, vN n] [(vU un).cells, (vN n).cells] (by rfl) (fun m h hs => ⟨⟨rfl, Sl.nil _ _ _ _, Sl.nil _ _ _ _⟩, ⟨rfl, Sl.nil _ _ _ _, Sl.nil _ _ _ _⟩, trivial⟩)) ?_; rintro _ _ ⟨_, rfl, rfl⟩; refine O_n ?_
  repeat' (first | refine go ?_ | intro _ | (apply cG; first | refine cT ?_ | refine cF ?_ | refine cS (fun _ => ?_) fun _ => ?_) | (apply gW; refine sW ?_) | (apply gI; refine sI ?_) | (apply gE; refine sE ?_) | (apply gP; refine sP ?_) | (apply gC; refine sC ?_) | (apply gD; refine sD ?_) | fail)
  rename_i g c2
  obtain ⟨all, hall⟩ : ∃ all, l ++ [vU un, vN n] = all := ⟨_, rfl⟩
  have hgood : ∀ x ∈ all, x.toVal.good := by
    rw [← hall]
    intro x hx
    simp only [List.mem_append, List.mem_cons, List.not_mem_nil, or_false] at hx
    rcases hx with hx | rfl | rfl
    · exact hg x hx
    · exact good0 hu
    · exact good1 hn
  have hlen : l.length + 2 = all.length := by rw [← hall]; simp
  rw [hall, hlen]
  refine O_d (dy_call ArgsI.pf (by first | exact rfl | trivial | (intro a b; rfl)) (encode_ct (l := all) Sc.pf (fun x hx => (hgood x hx).ok) (by omega))) ?_; rintro _ _ ⟨_, ⟨A3, c3, rfl, rfl⟩, rfl⟩; refine O_n ?_
  have hel := encL_len (l := all.map VV.toVal) (fun x hx => by
    obtain ⟨y, hy, rfl⟩ := List.mem_map.1 hx
    exact (hgood y hy).ok)
  rw [List.length_map] at hel
  obtain ⟨enc, henc⟩ : ∃ enc, encL (all.map VV.toVal) = enc := ⟨_, rfl⟩
  rw [henc] at hel ⊢
  refine O_d (dy_call ArgsI.pf (by first | exact rfl | trivial | (intro a b; rfl)) (Read_ct Sc.pf (by omega))) ?_; rintro _ _ ⟨_, ⟨p1, rfl, rfl⟩, rfl⟩; refine O_n ?_
  repeat' (first | refine go ?_ | intro _ | (apply cG; first | refine cT ?_ | refine cF ?_ | refine cS (fun _ => ?_) fun _ => ?_) | (apply gW; refine sW ?_) | (apply gI; refine sI ?_) | (apply gE; refine sE ?_) | (apply gP; refine sP ?_) | (apply gC; refine sC ?_) | (apply gD; refine sD ?_) | fail)
  have h0 : enc = encL ((all.drop 0).map VV.toVal) := by rw [List.drop_zero, henc]
  rw [h0]
  refine C_loopS (κ := Nat) [false, false, false, false, false, false, true, false, false, true, false, false, false, false, false, false, false, false, false, false, false, false, false, true, true, true, true, true, true, true, true, true, true, true, true, true, true, true, true, true, true, true, false, false, false, false, false, false] (fun k => [(9, .int .i64 (k : Int))]) (fun k => [(0, rr p1 (encL ((all.drop k).map VV.toVal)) 0)]) (fun k => k ≤ all.length) (fun k => all.length - k) 0 (Nat.zero_le _) ⟨rfl, trivial⟩ ?_
  rintro k u2 hk
  ((try dsimp only); refine C_n ?_; (try simp only [Nat.reduceAdd, Nat.zero_add]))
  by_cases hlt : k < all.length
  · obtain ⟨x, hx⟩ : ∃ x, all[k]? = some x := ⟨_, List.getElem?_eq_getElem hlt⟩
    have hgx := hgood x (List.mem_of_getElem? hx)
    have hax : At all k x := ⟨hx⟩
    have hsub := encL_drop hx
    obtain ⟨t, ht⟩ : ∃ t, encL ((all.drop (k + 1)).map VV.toVal) = t := ⟨_, rfl⟩
    rw [ht] at hsub
    have hel2 : (encV x.toVal ++ t).length ≤ 20000000 * all.length := by
      rw [← hsub]
      have := encL_len (l := (all.drop k).map VV.toVal) (fun y hy => by
        obtain ⟨z, hz, rfl⟩ := List.mem_map.1 hy
        exact (hgood z (List.mem_of_mem_drop hz)).ok)
      rw [List.length_map, List.length_drop] at this
      omega
    rw [hsub]
    refine C_sub (sub_peekS (v := .slice g all.length c2) (l := all) (j := k) (x := x) Sc.pf hx) ?_
    repeat' (first | refine go ?_ | intro _ | (apply cG; first | refine cT ?_ | refine cF ?_ | refine cS (fun _ => ?_) fun _ => ?_) | (apply gW; refine sW ?_) | (apply gI; refine sI ?_) | (apply gE; refine sE ?_) | (apply gP; refine sP ?_) | (apply gC; refine sC ?_) | (apply gD; refine sD ?_) | fail)
    refine C_draw (n := 99) [own 47 eV (.slice g all.length c2) all] [(0, 1), (1, 1), (2, 1), (3, 1), (4, 1), (5, 1), (7, 1), (8, 1), (9, 1), (10, 1), (6, 0), (11, 0), (12, 1)] (by kernel_rfl) (by kernel_rfl) Sb ?_
    repeat' (first | refine go ?_ | intro _ | (apply cG; first | refine cT ?_ | refine cF ?_ | refine cS (fun _ => ?_) fun _ => ?_) | (apply gW; refine sW ?_) | (apply gI; refine sI ?_) | (apply gE; refine sE ?_) | (apply gP; refine sP ?_) | (apply gC; refine sC ?_) | (apply gD; refine sD ?_) | fail)
    refine D_op rfl ?_; refine X_d (dy_call ArgsI.pf (by first | exact rfl | trivial | (intro a b; rfl)) (CT.pull (i := 2) (by rfl) (read_ct (x := x.toVal) (bs' := t) (e' := 0) hgx.ok.k1 hgx.ok.k2 (rV_enc hgx t) (by omega)))) ?_; rintro _ _ ⟨_, ⟨A5, c5, A6, c6, rfl, rfl⟩, rfl⟩; refine ⟨(by first | exact .inl rfl | exact .inr Sb), D_n ?_⟩
    repeat' (first | refine go ?_ | intro _ | (apply cG; first | refine cT ?_ | refine cF ?_ | refine cS (fun _ => ?_) fun _ => ?_) | (apply gW; refine sW ?_) | (apply gI; refine sI ?_) | (apply gE; refine sE ?_) | (apply gP; refine sP ?_) | (apply gC; refine sC ?_) | (apply gD; refine sD ?_) | fail)
    have hbl : x.toVal.b.length ≤ 1000000000000 ∧ x.toVal.l.length ≤ 1000000000000 := ⟨by have := hgx.ok.b; omega, by have := hgx.ok.l; omega⟩
    refine D_op rfl ?_; refine X_d (dy_call ArgsI.pf (by first | exact rfl | trivial | (intro a b; rfl)) (Same_ct (x := x.toVal) (y := x.toVal) (xb := .slice A5 _ c5) (xl := .slice A6 _ c6) (yb := x.vb) (yl := x.vl) (.inl (by repeat (first | exact .head _ | refine .tail _ ?_))) (.inl (by repeat (first | exact .head _ | refine .tail _ ?_))) (.inl (by repeat (first | exact .head _ | refine .tail _ ?_))) (.inl (by repeat (first | exact .head _ | refine .tail _ ?_))) hbl hbl (q := true) (decide_eq_true rfl))) ?_; rintro _ _ ⟨_, ⟨rfl, hLL⟩, rfl⟩; replace hLL := hLL.symm; subst hLL; refine ⟨(by first | exact .inl rfl | exact .inr Sb), D_n ?_⟩
    repeat' (first | refine go ?_ | intro _ | (apply cG; first | refine cT ?_ | refine cF ?_ | refine cS (fun _ => ?_) fun _ => ?_) | (apply gW; refine sW ?_) | (apply gI; refine sI ?_) | (apply gE; refine sE ?_) | (apply gP; refine sP ?_) | (apply gC; refine sC ?_) | (apply gD; refine sD ?_) | fail)
    rw [← ht]
    exact E_round (k + 1) hlt (by show all.length - (k + 1) < all.length - k; omega) ⟨rfl, trivial⟩ Sb
  · obtain rfl : k = all.length := by omega
    rw [List.drop_length]
    repeat' (first | refine go ?_ | intro _ | (apply cG; first | refine cT ?_ | refine cF ?_ | refine cS (fun _ => ?_) fun _ => ?_) | (apply gW; refine sW ?_) | (apply gI; refine sI ?_) | (apply gE; refine sE ?_) | (apply gP; refine sP ?_) | (apply gC; refine sC ?_) | (apply gD; refine sD ?_) | fail)
    refine O_d (dy_call ArgsI.pf (by first | exact rfl | trivial | (intro a b; rfl)) (End_ct (bs := []) (e := 0) (x := 0) rfl (by decide))) ?_; rintro _ _ ⟨_, ⟨rfl, rfl⟩, rfl⟩; refine O_n ?_
    repeat' (first | refine go ?_ | intro _ | (apply cG; first | refine cT ?_ | refine cF ?_ | refine cS (fun _ => ?_) fun _ => ?_) | (apply gW; refine sW ?_) | (apply gI; refine sI ?_) | (apply gE; refine sE ?_) | (apply gP; refine sP ?_) | (apply gC; refine sC ?_) | (apply gD; refine sD ?_) | fail)
    refine O_d (dy_call ArgsI.pf (by first | exact rfl | trivial | (intro a b; rfl)) (lives_ct)) ?_; rintro _ _ ⟨_, ⟨rfl, hLL⟩, rfl⟩; replace hLL := hLL.symm; subst hLL; refine O_n ?_
    repeat' (first | refine go ?_ | intro _ | (apply cG; first | refine cT ?_ | refine cF ?_ | refine cS (fun _ => ?_) fun _ => ?_) | (apply gW; refine sW ?_) | (apply gI; refine sI ?_) | (apply gE; refine sE ?_) | (apply gP; refine sP ?_) | (apply gC; refine sC ?_) | (apply gD; refine sD ?_) | fail)
    refine E_res1 (by rfl) (by rfl) ⟨rfl, rfl⟩ Sb
theorem WireRound_any {v : Value} {li : List Int} {un : Nat} {n : Int} {w : World} (s : St w w [rd eI v li]) (hl : li.length ≤ 9223372036854775807) (hr : ∀ n ∈ li, -9223372036854775808 ≤ n ∧ n ≤ 9223372036854775807) (hu : un < 18446744073709551616) (hn : -9223372036854775808 ≤ n ∧ n ≤ 9223372036854775807) :
    Calls Try.prog 7 #[v, .int .u64 (un : Int), .int .i64 n] w fun e w' => e = .returned (.bool true) ∧ Below w.heap.size w w' :=
  ((WireRound_ct (W0 := w) (.head _) hl hr hu hn).run w s).mono fun e w' h => by
    obtain ⟨v, L', rfl, ⟨rfl, rfl⟩, s⟩ := h
    exact ⟨rfl, s.below⟩
end
end Go.Proofs.Ytjaopndlcghkcaa
