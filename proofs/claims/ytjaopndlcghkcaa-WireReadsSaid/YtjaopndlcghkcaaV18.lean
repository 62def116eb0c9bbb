/-
  Walks of the wire laws: WireWrites.
-/
import Derived.Test.YtjaopndlcghkcaaV17
namespace Go.Proofs.Ytjaopndlcghkcaa
open Go Go.RowKit
set_option linter.unusedVariables false
set_option linter.unusedSimpArgs false
set_option synthInstance.maxSize 100000
set_option synthInstance.maxHeartbeats 400000
section
variable {W0 : World} {L : List HP}
set_option maxHeartbeats 1000000 in
theorem WireWrites_ct {v vb vi : Value} {li lints : List Int} {lb : List UInt8} {un : Nat} {n : Int} (hv : rd eI v li ∈ L) (hl : li.length ≤ 9223372036854775807) (hr : ∀ n ∈ li, -9223372036854775808 ≤ n ∧ n ≤ 9223372036854775807) (hu : un < 18446744073709551616) (hn : -9223372036854775808 ≤ n ∧ n ≤ 9223372036854775807)
    (hb : rd eB vb lb ∈ L) (hbl : lb.length ≤ 9223372036854775807) (hi : rd eI vi lints ∈ L) (hil : lints.length ≤ 9223372036854775807) (hir : ∀ n ∈ lints, -9223372036854775808 ≤ n ∧ n ≤ 9223372036854775807) :
    CT Try.prog 6 #[v, .int .u64 (un : Int), .int .i64 n, vb, vi] W0 L fun r L' => r = .bool true ∧ L' = L := by
  refine CT_enter Try.func6 rfl ?_; (simp only [Try.ntmps6, List.size_toArray, List.length_cons, List.length_nil, Nat.reduceAdd, Nat.reduceSub, Array.replicate_succ, Array.replicate_zero, List.push_toArray, List.append_toArray, List.nil_append, List.cons_append])
  repeat' (first | refine go ?_ | intro _ | (apply cG; first | refine cT ?_ | refine cF ?_ | refine cS (fun _ => ?_) fun _ => ?_) | (apply gW; refine sW ?_) | (apply gI; refine sI ?_) | (apply gE; refine sE ?_) | (apply gP; refine sP ?_) | (apply gC; refine sC ?_) | (apply gD; refine sD ?_) | fail)
  refine O_d (dy_call ArgsI.pf (by first | exact rfl | trivial | (intro a b; rfl)) (Vals_ct hv hl hr)) ?_; rintro _ _ ⟨_, ⟨A, c, l, rfl, rfl, hg, h8⟩, rfl⟩; refine O_n ?_
  repeat' (first | refine go ?_ | intro _ | (apply cG; first | refine cT ?_ | refine cF ?_ | refine cS (fun _ => ?_) fun _ => ?_) | (apply gW; refine sW ?_) | (apply gI; refine sI ?_) | (apply gE; refine sE ?_) | (apply gP; refine sP ?_) | (apply gC; refine sC ?_) | (apply gD; refine sD ?_) | fail)
  refine O_d (dy_call ArgsI.pf (by first | exact rfl | trivial | (intro a b; rfl)) (Few_ct (.tail _ hb) hbl (most := 200) (by decide) (by decide))) ?_; rintro _ _ ⟨_, ⟨A1, c1, rfl, rfl⟩, rfl⟩; refine O_n ?_
  obtain ⟨few, hfew⟩ : ∃ few, lb.take (Int.toNat 200) = few := ⟨_, rfl⟩
  have hfl : few.length ≤ 200 := by rw [← hfew]; exact List.length_take_le _ _
  rw [hfew]
  repeat' (first | refine go ?_ | intro _ | (apply cG; first | refine cT ?_ | refine cF ?_ | refine cS (fun _ => ?_) fun _ => ?_) | (apply gW; refine sW ?_) | (apply gI; refine sI ?_) | (apply gE; refine sE ?_) | (apply gP; refine sP ?_) | (apply gC; refine sC ?_) | (apply gD; refine sD ?_) | fail)
  refine O_d (dy_call ArgsI.pf (by first | exact rfl | trivial | (intro a b; rfl)) (Ints_ct (.tail _ (.tail _ hi)) hil (most := 20) (by decide) (by decide))) ?_; rintro _ _ ⟨_, ⟨A2, c2, rfl, rfl⟩, rfl⟩; refine O_n ?_
  obtain ⟨ints, hints⟩ : ∃ ints, lints.take (Int.toNat 20) = ints := ⟨_, rfl⟩
  have hnl : ints.length ≤ 20 := by rw [← hints]; exact List.length_take_le _ _
  have hnr : ∀ n ∈ ints, -9223372036854775808 ≤ n ∧ n ≤ 9223372036854775807 := fun n h => hir n (List.mem_of_mem_take (by rw [hints]; exact h))
  rw [hints]
  repeat' (first | refine go ?_ | intro _ | (apply cG; first | refine cT ?_ | refine cF ?_ | refine cS (fun _ => ?_) fun _ => ?_) | (apply gW; refine sW ?_) | (apply gI; refine sI ?_) | (apply gE; refine sE ?_) | (apply gP; refine sP ?_) | (apply gC; refine sC ?_) | (apply gD; refine sD ?_) | fail)
  refine O_frz 0 ?_
  refine O_frz 1 ?_
  refine O_d (dy_litA (R := eV) [vU un, vN n, ⟨⟨4, 0, 0, few, []⟩, .slice A1 few.length c1, .slice none 0 0⟩, ⟨⟨5, 0, 0, [], ints⟩, .slice none 0 0, .slice A2 ints.length c2⟩, ⟨⟨2, 0, 1, [], []⟩, .slice none 0 0, .slice none 0 0⟩] [(vU un).cells, (vN n).cells, VV.cells ⟨⟨4, 0, 0, few, []⟩, .slice A1 few.length c1, .slice none 0 0⟩, VV.cells ⟨⟨5, 0, 0, [], ints⟩, .slice none 0 0, .slice A2 ints.length c2⟩, VV.cells ⟨⟨2, 0, 1, [], []⟩, .slice none 0 0, .slice none 0 0⟩] (by rfl) (fun m h hs => ⟨⟨rfl, Sl.nil _ _ _ _, Sl.nil _ _ _ _⟩, ⟨rfl, Sl.nil _ _ _ _, Sl.nil _ _ _ _⟩, ⟨rfl, rd_mem hs (by repeat (first | exact .head _ | refine .tail _ ?_)), Sl.nil _ _ _ _⟩, ⟨rfl, Sl.nil _ _ _ _, rd_mem hs (by repeat (first | exact .head _ | refine .tail _ ?_))⟩, ⟨rfl, Sl.nil _ _ _ _, Sl.nil _ _ _ _⟩, trivial⟩)) ?_; rintro _ _ ⟨_, rfl, rfl⟩; refine O_n ?_
  repeat' (first | refine go ?_ | intro _ | (apply cG; first | refine cT ?_ | refine cF ?_ | refine cS (fun _ => ?_) fun _ => ?_) | (apply gW; refine sW ?_) | (apply gI; refine sI ?_) | (apply gE; refine sE ?_) | (apply gP; refine sP ?_) | (apply gC; refine sC ?_) | (apply gD; refine sD ?_) | fail)
  rename_i g c5 pw
  refine C_new ?_
  refine C_frz 4 ?_
  obtain ⟨all, hall⟩ : ∃ all, l ++ [vU un, vN n, ⟨⟨4, 0, 0, few, []⟩, .slice A1 few.length c1, .slice none 0 0⟩, ⟨⟨5, 0, 0, [], ints⟩, .slice none 0 0, .slice A2 ints.length c2⟩, ⟨⟨2, 0, 1, [], []⟩, .slice none 0 0, .slice none 0 0⟩] = all := ⟨_, rfl⟩
  have hgood : ∀ x ∈ all, x.toVal.good := by
    rw [← hall]
    intro x hx
    simp only [List.mem_append, List.mem_cons, List.not_mem_nil, or_false] at hx
    rcases hx with hx | rfl | rfl | rfl | rfl | rfl
    · exact hg x hx
    · exact good0 hu
    · exact good1 hn
    · exact good3 (.inr rfl) hfl
    · exact good5 hnl hnr
    · exact good2 (.inr rfl)
  have hlen : l.length + 5 = all.length := by rw [← hall]; simp
  rw [hall, hlen]
  refine C_fact (fun w s => Sl.cap_ (St.rd s (R := eV) (v := .slice g all.length c5) (l := all) (by repeat (first | exact .head _ | refine .tail _ ?_)))) fun hcap5 => ?_
  refine C_loopS (κ := Nat) [false, false, false, false, false, false, false, false, false, false, true, false, false, true, false, false, false, false, false, false, false, false, false, false, false, false, false, false, false, true, true, true, true, true, true, true, true, true, true, true, true, true, true, true, true, true, true, true, false] (fun k => [(13, .int .i64 (k : Int))]) (fun k => [(0, wr pw (encL ((all.take k).map VV.toVal)))]) (fun k => k ≤ all.length) (fun k => all.length - k) 0 (Nat.zero_le _) ⟨rfl, trivial⟩ ?_
  rintro k u2 hk
  ((try dsimp only); refine C_n ?_; (try simp only [Nat.reduceAdd, Nat.zero_add]))
  have hel := goodL_len (l := (all.take k).map VV.toVal) (fun y hy => by
    obtain ⟨z, hz, rfl⟩ := List.mem_map.1 hy
    exact hgood z (List.mem_of_mem_take hz))
  rw [List.length_map, List.length_take] at hel
  by_cases hlt : k < all.length
  · obtain ⟨x, hx⟩ : ∃ x, all[k]? = some x := ⟨_, List.getElem?_eq_getElem hlt⟩
    have hgx := hgood x (List.mem_of_getElem? hx)
    have hax : At all k x := ⟨hx⟩
    have hge := good_len hgx
    have hnext : encL ((all.take (k + 1)).map VV.toVal) = encL ((all.take k).map VV.toVal) ++ encV x.toVal := by
      rw [take_snoc' hx, List.map_append, List.map_cons, List.map_nil, encL_snoc]
    have hnl2 : (encL ((all.take k).map VV.toVal) ++ encV x.toVal).length ≤ 10000 := by rw [List.length_append]; omega
    refine C_sub (sub_peekS (v := .slice g all.length c5) (l := all) (j := k) (x := x) Sc.pf hx) ?_
    repeat' (first | refine go ?_ | intro _ | (apply cG; first | refine cT ?_ | refine cF ?_ | refine cS (fun _ => ?_) fun _ => ?_) | (apply gW; refine sW ?_) | (apply gI; refine sI ?_) | (apply gE; refine sE ?_) | (apply gP; refine sP ?_) | (apply gC; refine sC ?_) | (apply gD; refine sD ?_) | fail)
    refine O_d (dy_call ArgsI.pf (by first | exact rfl | trivial | (intro a b; rfl)) (CT.pull (i := 2) (by rfl) (write_ct (x := x) hgx.ok (.inl (.head _)) (.inl (.tail _ (.head _))) (by omega)))) ?_; rintro _ _ ⟨_, rfl, rfl⟩; refine O_n ?_
    rw [← hnext] at hnl2 ⊢
    repeat' (first | refine go ?_ | intro _ | (apply cG; first | refine cT ?_ | refine cF ?_ | refine cS (fun _ => ?_) fun _ => ?_) | (apply gW; refine sW ?_) | (apply gI; refine sI ?_) | (apply gE; refine sE ?_) | (apply gP; refine sP ?_) | (apply gC; refine sC ?_) | (apply gD; refine sD ?_) | fail)
    refine C_draw (n := 99) [] [(1, 1), (2, 1), (3, 1), (4, 1), (0, 0), (5, 0), (6, 0), (7, 1)] (by kernel_rfl) (by kernel_rfl) Sb ?_
    repeat' (first | refine go ?_ | intro _ | (apply cG; first | refine cT ?_ | refine cF ?_ | refine cS (fun _ => ?_) fun _ => ?_) | (apply gW; refine sW ?_) | (apply gI; refine sI ?_) | (apply gE; refine sE ?_) | (apply gP; refine sP ?_) | (apply gC; refine sC ?_) | (apply gD; refine sD ?_) | fail)
    refine D_op rfl ?_
    refine X_s (sv_slice (l' := 0) (h' := k + 1) (h2 := by omega) (e2 := by omega)) ?_
    refine D_op rfl ?_; refine X_d (dy_call ArgsI.pf (by first | exact rfl | trivial | (intro a b; rfl)) (wDone_ct (by omega))) ?_; rintro _ _ ⟨_, ⟨A6, c6, rfl, rfl⟩, rfl⟩; refine ⟨(by first | exact .inl rfl | exact .inr Sb), D_n ?_⟩
    refine D_sub (sub_rdcut (lo := 0) (k := k + 1) (s := 5) (R := eV) (l := all) (A := g) (n := all.length) (c := c5) (by repeat (first | exact .head _ | refine .tail _ ?_)) (by omega) rfl) ?_
    rw [List.drop_zero]
    refine D_op rfl ?_; refine X_d (dy_call ArgsI.pf (by first | exact rfl | trivial | (intro a b; rfl)) (fEnc_ct (l := all.take (k + 1)) (.inl (.head _)) (fun y hy => hgood y (List.mem_of_mem_take hy)) (by rw [List.length_take]; omega))) ?_; rintro _ _ ⟨_, ⟨A7, c7, rfl, rfl⟩, rfl⟩; refine ⟨(by first | exact .inl rfl | exact .inr Sb), D_n ?_⟩
    obtain ⟨out, hout⟩ : ∃ out, encL ((all.take (k + 1)).map VV.toVal) = out := ⟨_, rfl⟩
    rw [hout] at hnl2 ⊢
    refine D_op rfl ?_; refine X_d (dy_call ArgsI.pf (by first | exact rfl | trivial | (intro a b; rfl)) (SameBytes_ct (la := out) (lb := out) Sc.pf Sc.pf (by omega) (by omega) (q := true) (decide_eq_true rfl))) ?_; rintro _ _ ⟨_, ⟨rfl, hLL⟩, rfl⟩; replace hLL := hLL.symm; subst hLL; refine ⟨(by first | exact .inl rfl | exact .inr Sb), D_n ?_⟩
    repeat' (first | refine go ?_ | intro _ | (apply cG; first | refine cT ?_ | refine cF ?_ | refine cS (fun _ => ?_) fun _ => ?_) | (apply gW; refine sW ?_) | (apply gI; refine sI ?_) | (apply gE; refine sE ?_) | (apply gP; refine sP ?_) | (apply gC; refine sC ?_) | (apply gD; refine sD ?_) | fail)
    rw [← hout]
    exact E_round (k + 1) hlt (by show all.length - (k + 1) < all.length - k; omega) ⟨rfl, trivial⟩ Sb
  · obtain rfl : k = all.length := by omega
    repeat' (first | refine go ?_ | intro _ | (apply cG; first | refine cT ?_ | refine cF ?_ | refine cS (fun _ => ?_) fun _ => ?_) | (apply gW; refine sW ?_) | (apply gI; refine sI ?_) | (apply gE; refine sE ?_) | (apply gP; refine sP ?_) | (apply gC; refine sC ?_) | (apply gD; refine sD ?_) | fail)
    refine O_d (dy_call ArgsI.pf (by first | exact rfl | trivial | (intro a b; rfl)) (lives_ct)) ?_; rintro _ _ ⟨_, ⟨rfl, hLL⟩, rfl⟩; replace hLL := hLL.symm; subst hLL; refine O_n ?_
    repeat' (first | refine go ?_ | intro _ | (apply cG; first | refine cT ?_ | refine cF ?_ | refine cS (fun _ => ?_) fun _ => ?_) | (apply gW; refine sW ?_) | (apply gI; refine sI ?_) | (apply gE; refine sE ?_) | (apply gP; refine sP ?_) | (apply gC; refine sC ?_) | (apply gD; refine sD ?_) | fail)
    refine E_res1 (by rfl) (by rfl) ⟨rfl, rfl⟩ Sb
theorem WireWrites_any {v vb vi : Value} {li lints : List Int} {lb : List UInt8} {un : Nat} {n : Int} {w : World} (s : St w w [rd eI v li, rd eB vb lb, rd eI vi lints]) (hl : li.length ≤ 9223372036854775807) (hr : ∀ n ∈ li, -9223372036854775808 ≤ n ∧ n ≤ 9223372036854775807) (hu : un < 18446744073709551616) (hn : -9223372036854775808 ≤ n ∧ n ≤ 9223372036854775807)
    (hbl : lb.length ≤ 9223372036854775807) (hil : lints.length ≤ 9223372036854775807) (hir : ∀ n ∈ lints, -9223372036854775808 ≤ n ∧ n ≤ 9223372036854775807) :
    Calls Try.prog 6 #[v, .int .u64 (un : Int), .int .i64 n, vb, vi] w fun e w' => e = .returned (.bool true) ∧ Below w.heap.size w w' :=
  ((WireWrites_ct (W0 := w) (.head _) hl hr hu hn (.tail _ (.head _)) hbl (.tail _ (.tail _ (.head _))) hil hir).run w s).mono fun e w' h => by
    obtain ⟨v, L', rfl, ⟨rfl, rfl⟩, s⟩ := h
    exact ⟨rfl, s.below⟩
end
end Go.Proofs.Ytjaopndlcghkcaa
