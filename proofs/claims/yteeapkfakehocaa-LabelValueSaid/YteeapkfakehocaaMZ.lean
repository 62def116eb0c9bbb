/-
  The laws LabelTaken, LabelBest, LabelValue.
-/
import Derived.Test.YteeapkfakehocaaMY
namespace Go.Proofs.Yteeapkfakehocaa
open Go Go.RowKit
set_option linter.unusedVariables false
set_option linter.unusedSimpArgs false
set_option maxRecDepth 20000
set_option synthInstance.maxSize 100000
set_option synthInstance.maxHeartbeats 400000
theorem good_some {a : AK} (h : SomeOk a) : a.good := by
  dsimp only [AK.good]
  omega
theorem good_bx {b : BX} (h : BxOk b) : b.good := by
  dsimp only [BX.good]
  omega
theorem check_some {x : List AK} {t : List BX} (hx : ∀ a ∈ x, SomeOk a) (ht : ∀ b ∈ t, BxOk b) (h1 : x.length ≤ 64) (h2 : t.length ≤ 256) : checkF x t = 0 := by
  unfold checkF
  rw [if_neg (by omega), if_pos fun a ha => good_some (hx a ha), if_pos fun b hb => good_bx (ht b hb)]
theorem place_some {x : List AK} {t : List BX} (hx : ∀ a ∈ x, SomeOk a) (ht : ∀ b ∈ t, BxOk b) (h1 : x.length ≤ 7) (h2 : t.length ≤ 256) : placeF x t 1048576 = ((bestF x t).1, (bestF x t).2, 0) := by
  refine placeF_ok (check_some hx ht (by omega) h2) ?_
  have := enterR_steps t x 0 [] [] ⟨[], -1, 0⟩
  have hm : stepsB x.length ≤ 100000 := by
    have : ∀ n : Fin 8, stepsB n.val ≤ 100000 := by decide
    exact this ⟨x.length, by omega⟩
  dsimp only at this
  omega
theorem bfF_drop {a b : List Int} {i : Nat} {x y : Int} (ha : a[i]? = some x) (hb : b[i]? = some y) : bfF (a.drop i) (b.drop i) = if x ≠ y then decide (y < 0 ∨ (0 ≤ x ∧ x < y)) else bfF (a.drop (i + 1)) (b.drop (i + 1)) := by
  rw [List.drop_eq_getElem_cons (List.getElem?_eq_some_iff.1 ha).1, (List.getElem?_eq_some_iff.1 ha).2, List.drop_eq_getElem_cons (List.getElem?_eq_some_iff.1 hb).1, (List.getElem?_eq_some_iff.1 hb).2]
  rfl
section
variable {W0 : World} {L : List HP}
theorem positions_ct {N m : Nat} (hN : N ≤ 1000000000) (hm : m ≤ 1000) : CT Try.prog 20 #[.int .i64 (N : Int), .int .i64 (m : Int)] W0 L fun r L' => ∃ A c p, r = .slice A p.length c ∧ p.length = m ∧ (∀ z ∈ p, -1 ≤ z ∧ z ≤ 3) ∧ L' = own 3 eI (.slice A p.length c) p :: L := by
  refine CT_enter Try.func20 rfl ?_; (simp only [Try.ntmps20, List.size_toArray, List.length_cons, List.length_nil, Nat.reduceAdd, Nat.reduceSub, Array.replicate_succ, Array.replicate_zero, List.push_toArray, List.append_toArray, List.nil_append, List.cons_append])
  repeat' (first | refine go ?_ | intro _ | (apply cG; first | refine cT ?_ | refine cF ?_ | refine cS (fun _ => ?_) fun _ => ?_) | (apply gW; refine sW ?_) | (apply gI; refine sI ?_) | (apply gE; refine sE ?_) | (apply gP; refine sP ?_) | (apply gC; refine sC ?_) | (apply gD; refine sD ?_) | fail)
  refine C_ownnil 3 eI ?_
  refine C_loopS (κ := Nat × List Int × Option Addr × Nat) [true, false, false, false, false, true, true, true, true, true, true, true, true, true, true, true, true, true, true, true, true, true, false] (fun k => [(0, .int .i64 (k.1 : Int)), (5, .slice k.2.2.1 k.2.1.length k.2.2.2), (6, .int .i64 (k.2.1.length : Int))]) (fun k => [(0, own 3 eI (.slice k.2.2.1 k.2.1.length k.2.2.2) k.2.1)]) (fun k => k.1 ≤ 1000000000 ∧ k.2.1.length ≤ m ∧ ∀ z ∈ k.2.1, -1 ≤ z ∧ z ≤ 3) (fun k => m - k.2.1.length) (N, [], none, 0) ⟨hN, Nat.zero_le _, fun _ h => (by cases h)⟩ ⟨rfl, rfl, rfl, trivial⟩ ?_
  rintro ⟨n, p, A, c⟩ u ⟨hn, hp, hok⟩
  dsimp only at hn hp hok
  dsimp only
  ((try dsimp only); refine C_n ?_; (try simp only [Nat.reduceAdd, Nat.zero_add]))
  by_cases hlt : p.length < m
  rotate_left
  · repeat' (first | refine go ?_ | intro _ | (apply cG; first | refine cT ?_ | refine cF ?_ | refine cS (fun _ => ?_) fun _ => ?_) | (apply gW; refine sW ?_) | (apply gI; refine sI ?_) | (apply gE; refine sE ?_) | (apply gP; refine sP ?_) | (apply gC; refine sC ?_) | (apply gD; refine sD ?_) | fail)
    refine E_res1 (by rfl) (by rfl) ⟨A, c, p, rfl, by omega, hok, rfl⟩ Sb
  have h5 : n % 5 < 5 := Nat.mod_lt _ (by decide)
  obtain ⟨z, hz⟩ : ∃ z, [0, 1, 2, 3, (-1 : Int)][n % 5]? = some z := ⟨_, List.getElem?_eq_getElem h5⟩
  have hzok : ∀ z ∈ [0, 1, 2, 3, (-1 : Int)], -1 ≤ z ∧ z ≤ 3 := by decide
  have haz : At [0, 1, 2, 3, (-1 : Int)] (n % 5) z := ⟨hz⟩
  have hz1 := hzok z (List.mem_of_getElem? hz)
  repeat' (first | refine go ?_ | intro _ | (apply cG; first | refine cT ?_ | refine cF ?_ | refine cS (fun _ => ?_) fun _ => ?_) | (apply gW; refine sW ?_) | (apply gI; refine sI ?_) | (apply gE; refine sE ?_) | (apply gP; refine sP ?_) | (apply gC; refine sC ?_) | (apply gD; refine sD ?_) | fail)
  refine O_d (dy_litP (f := iv) (hf := fun _ => rfl) [0, 1, 2, 3, (-1 : Int)] (by rfl)) ?_; rintro _ LI' ⟨_, rfl, hLL⟩; replace hLL : LI' = own _ eI _ _ :: _ := hLL; subst hLL; refine O_n ?_
  repeat' (first | refine go ?_ | intro _ | (apply cG; first | refine cT ?_ | refine cF ?_ | refine cS (fun _ => ?_) fun _ => ?_) | (apply gI; refine sI ?_) | (apply gE; refine sE ?_) | (apply gP; refine sP ?_) | (apply gC; refine sC ?_) | (apply gD; refine sD ?_) | fail)
  apply gW; refine sW (r := ((n % 5 : Nat) : Int)) ?_ ⟨by decide, rfl⟩
  repeat' (first | refine go ?_ | intro _ | (apply cG; first | refine cT ?_ | refine cF ?_ | refine cS (fun _ => ?_) fun _ => ?_) | (apply gW; refine sW ?_) | (apply gI; refine sI ?_) | (apply gE; refine sE ?_) | (apply gP; refine sP ?_) | (apply gC; refine sC ?_) | (apply gD; refine sD ?_) | fail)
  refine O_d (dy_lit1 (R := eI) z (hcs := by rfl) (hel := fun _ _ _ => by rfl)) ?_; rintro _ _ ⟨_, rfl, rfl⟩; refine O_n ?_
  repeat' (first | refine go ?_ | intro _ | (apply cG; first | refine cT ?_ | refine cF ?_ | refine cS (fun _ => ?_) fun _ => ?_) | (apply gI; refine sI ?_) | (apply gE; refine sE ?_) | (apply gP; refine sP ?_) | (apply gC; refine sC ?_) | (apply gD; refine sD ?_) | fail)
  apply gW; refine sW (r := ((n / 5 : Nat) : Int)) ?_ ⟨by decide, by show IntKind.i64.wrap ((n / 5 : Nat) : Int) = ((n / 5 : Nat) : Int); exact wr_i64 (by omega) (by omega)⟩
  repeat' (first | refine go ?_ | intro _ | (apply cG; first | refine cT ?_ | refine cF ?_ | refine cS (fun _ => ?_) fun _ => ?_) | (apply gW; refine sW ?_) | (apply gI; refine sI ?_) | (apply gE; refine sE ?_) | (apply gP; refine sP ?_) | (apply gC; refine sC ?_) | (apply gD; refine sD ?_) | fail)
  rename_i A5 c5
  exact E_round (n / 5, p ++ [z], A5, c5) ⟨by dsimp only; omega, by dsimp only; rw [List.length_append]; exact hlt, fun y hy => by
    rcases List.mem_append.1 hy with hy | hy
    · exact hok y hy
    · simp only [List.mem_cons, List.not_mem_nil, or_false] at hy
      subst hy
      exact hz1⟩ (by dsimp only; rw [List.length_append]; show m - (p.length + 1) < _; omega) ⟨rfl, by dsimp only; rw [List.length_append]; rfl, by dsimp only; rw [List.length_append]; rfl, trivial⟩ (by dsimp only; rw [List.length_append]; exact Sb)
theorem before_ct {A B : Option Addr} {c d : Nat} {a b : List Int} (ha : rd eI (.slice A a.length c) a ∈ L) (hb : rd eI (.slice B b.length d) b ∈ L) (hal : a.length ≤ 1000000000) : CT Try.prog 23 #[.slice A a.length c, .slice B b.length d] W0 L fun r L' => r = .bool (bfF a b) ∧ L' = L := by
  refine CT.sub ?_ (sub_dup hb)
  refine CT.sub ?_ (sub_dup (.tail _ ha))
  refine CT_enter Try.func23 rfl ?_; (simp only [Try.ntmps23, List.size_toArray, List.length_cons, List.length_nil, Nat.reduceAdd, Nat.reduceSub, Array.replicate_succ, Array.replicate_zero, List.push_toArray, List.append_toArray, List.nil_append, List.cons_append])
  repeat' (first | refine go ?_ | intro _ | (apply cG; first | refine cT ?_ | refine cF ?_ | refine cS (fun _ => ?_) fun _ => ?_) | (apply gW; refine sW ?_) | (apply gI; refine sI ?_) | (apply gE; refine sE ?_) | (apply gP; refine sP ?_) | (apply gC; refine sC ?_) | (apply gD; refine sD ?_) | fail)
  refine C_loopS (κ := Nat) [false, false, false, false, true, true, true, true, true, true, true, true, true, true, true, true, true, true, true, true, true, true, true, true, true, true, true, true, true, true, true, true, true, true, true, true, true, true, true, true, true, true, true, true, true, true, true, true, true, true] (fun k => [(5, .int .i64 (k : Int))]) (fun k => []) (fun k => k ≤ a.length ∧ k ≤ b.length ∧ bfF (a.drop k) (b.drop k) = bfF a b) (fun k => a.length - k) 0 ⟨Nat.zero_le _, Nat.zero_le _, rfl⟩ ⟨rfl, trivial⟩ ?_
  rintro i u ⟨hi, hi2, hbf⟩
  ((try dsimp only); refine C_n ?_; (try simp only [Nat.reduceAdd, Nat.zero_add]))
  by_cases h1 : i < a.length
  rotate_left
  · obtain rfl : i = a.length := by omega
    rw [List.drop_length] at hbf
    replace hbf : false = bfF a b := hbf
    rw [← hbf]
    repeat' (first | refine go ?_ | intro _ | (apply cG; first | refine cT ?_ | refine cF ?_ | refine cS (fun _ => ?_) fun _ => ?_) | (apply gW; refine sW ?_) | (apply gI; refine sI ?_) | (apply gE; refine sE ?_) | (apply gP; refine sP ?_) | (apply gC; refine sC ?_) | (apply gD; refine sD ?_) | fail)
    refine E_res1 (by rfl) (by rfl) ⟨rfl, rfl⟩ Sb
  by_cases h2 : i < b.length
  rotate_left
  · obtain rfl : i = b.length := by omega
    rw [List.drop_length] at hbf
    have : bfF (a.drop b.length) [] = false := by cases a.drop b.length <;> rfl
    rw [this] at hbf
    rw [← hbf]
    repeat' (first | refine go ?_ | intro _ | (apply cG; first | refine cT ?_ | refine cF ?_ | refine cS (fun _ => ?_) fun _ => ?_) | (apply gW; refine sW ?_) | (apply gI; refine sI ?_) | (apply gE; refine sE ?_) | (apply gP; refine sP ?_) | (apply gC; refine sC ?_) | (apply gD; refine sD ?_) | fail)
    refine E_res1 (by rfl) (by rfl) ⟨rfl, rfl⟩ Sb
  obtain ⟨x, hx⟩ : ∃ x, a[i]? = some x := ⟨_, List.getElem?_eq_getElem h1⟩
  obtain ⟨y, hy⟩ : ∃ y, b[i]? = some y := ⟨_, List.getElem?_eq_getElem h2⟩
  have hax : At a i x := ⟨hx⟩
  have hay : At b i y := ⟨hy⟩
  rw [bfF_drop hx hy] at hbf
  repeat' (first | refine go ?_ | intro _ | (apply cG; first | refine cT ?_ | refine cF ?_ | refine cS (fun _ => ?_) fun _ => ?_) | (apply gW; refine sW ?_) | (apply gI; refine sI ?_) | (apply gE; refine sE ?_) | (apply gP; refine sP ?_) | (apply gC; refine sC ?_) | (apply gD; refine sD ?_) | fail)
  refine C_draw (n := 99) [rd eI (.slice A a.length c) a, rd eI (.slice B b.length d) b] [(0, 1), (1, 1), (2, 1), (3, 1), (4, 1), (5, 1), (6, 1), (7, 1), (8, 1)] (by kernel_rfl) (by kernel_rfl) Sb ?_
  by_cases hxy : x = y
  · rw [if_neg (fun h => h hxy)] at hbf
    repeat' (first | refine go ?_ | intro _ | (apply cG; first | refine cT ?_ | refine cF ?_ | refine cS (fun _ => ?_) fun _ => ?_) | (apply gW; refine sW ?_) | (apply gI; refine sI ?_) | (apply gE; refine sE ?_) | (apply gP; refine sP ?_) | (apply gC; refine sC ?_) | (apply gD; refine sD ?_) | fail)
    exact E_round (i + 1) ⟨h1, h2, hbf⟩ (by omega) ⟨rfl, trivial⟩ Sb
  rw [if_pos hxy] at hbf
  rw [← hbf]
  repeat' (first | refine go ?_ | intro _ | (apply cG; first | refine cT ?_ | refine cF ?_ | refine cS (fun _ => ?_) fun _ => ?_) | (apply gW; refine sW ?_) | (apply gI; refine sI ?_) | (apply gE; refine sE ?_) | (apply gP; refine sP ?_) | (apply gC; refine sC ?_) | (apply gD; refine sD ?_) | fail)
  refine C_draw (n := 99) [rd eI (.slice A a.length c) a, rd eI (.slice B b.length d) b] [(0, 1), (1, 1), (2, 1), (3, 1), (4, 1), (5, 1), (6, 1), (7, 1), (8, 1), (9, 1), (10, 1), (11, 1), (12, 1), (13, 1), (14, 1), (15, 1), (16, 1), (17, 1), (18, 1), (19, 1), (20, 1), (21, 1), (22, 1), (23, 1)] (by kernel_rfl) (by kernel_rfl) Sb ?_
  by_cases hy0 : y < 0
  · rw [decide_eq_true (.inl hy0)]
    repeat' (first | refine go ?_ | intro _ | (apply cG; first | refine cT ?_ | refine cF ?_ | refine cS (fun _ => ?_) fun _ => ?_) | (apply gW; refine sW ?_) | (apply gI; refine sI ?_) | (apply gE; refine sE ?_) | (apply gP; refine sP ?_) | (apply gC; refine sC ?_) | (apply gD; refine sD ?_) | fail)
    refine E_res1 (by rfl) (by rfl) ⟨rfl, rfl⟩ Sb
  by_cases hx0 : 0 ≤ x
  · by_cases hlt : x < y
    · rw [decide_eq_true (.inr ⟨hx0, hlt⟩)]
      repeat' (first | refine go ?_ | intro _ | (apply cG; first | refine cT ?_ | refine cF ?_ | refine cS (fun _ => ?_) fun _ => ?_) | (apply gW; refine sW ?_) | (apply gI; refine sI ?_) | (apply gE; refine sE ?_) | (apply gP; refine sP ?_) | (apply gC; refine sC ?_) | (apply gD; refine sD ?_) | fail)
      refine E_res1 (by rfl) (by rfl) ⟨rfl, rfl⟩ Sb
    · rw [decide_eq_false (by omega)]
      repeat' (first | refine go ?_ | intro _ | (apply cG; first | refine cT ?_ | refine cF ?_ | refine cS (fun _ => ?_) fun _ => ?_) | (apply gW; refine sW ?_) | (apply gI; refine sI ?_) | (apply gE; refine sE ?_) | (apply gP; refine sP ?_) | (apply gC; refine sC ?_) | (apply gD; refine sD ?_) | fail)
      refine E_res1 (by rfl) (by rfl) ⟨rfl, rfl⟩ Sb
  · rw [decide_eq_false (by omega)]
    repeat' (first | refine go ?_ | intro _ | (apply cG; first | refine cT ?_ | refine cF ?_ | refine cS (fun _ => ?_) fun _ => ?_) | (apply gW; refine sW ?_) | (apply gI; refine sI ?_) | (apply gE; refine sE ?_) | (apply gP; refine sP ?_) | (apply gC; refine sC ?_) | (apply gD; refine sD ?_) | fail)
    refine E_res1 (by rfl) (by rfl) ⟨rfl, rfl⟩ Sb
end
end Go.Proofs.Yteeapkfakehocaa
namespace Go.Proofs.Yteeapkfakehocaa
open Go Go.RowKit
set_option linter.unusedVariables false
set_option linter.unusedSimpArgs false
set_option maxRecDepth 20000
set_option synthInstance.maxSize 100000
set_option synthInstance.maxHeartbeats 400000
theorem best_bound {l : List AK} {t : List BX} (h : ∀ a ∈ l, a.good) : 0 ≤ (bestF l t).2 ∧ (bestF l t).2 ≤ l.length * 1048576 := by
  have h1 := best_max (okc_none t l [])
  have h2 := comps_le t (fun a ha => by have := (h a ha).2.2.2.2; omega) ((mem_comps t).2 (best_ok l t))
  have h3 := restF_le h
  dsimp only at h2
  omega
section
variable {W0 : World} {L : List HP}
theorem LabelTaken_ct {v vm vn : Value} {li lm ln : List Int} (hv : rd eI v li ∈ L) (hl : li.length ≤ 9223372036854775807) (hr : ∀ n ∈ li, I64 n) (hv2 : rd eI vm lm ∈ L) (hl2 : lm.length ≤ 9223372036854775807) (hr2 : ∀ n ∈ lm, I64 n) (hv3 : rd eI vn ln ∈ L) (hl3 : ln.length ≤ 9223372036854775807) (hr3 : ∀ n ∈ ln, I64 n) :
    CT Try.prog 4 #[v, vm, vn] W0 L fun r L' => r = .bool true ∧ L' = L := by
  refine CT_fact (fun w s => ((Src.sl (.inl hv) s).form)) ?_
  rintro ⟨A0, c0, rfl, hc0⟩
  refine CT_fact (fun w s => ((Src.sl (.inl hv2) s).form)) ?_
  rintro ⟨B0, d0, rfl, hd0⟩
  refine CT_fact (fun w s => ((Src.sl (.inl hv3) s).form)) ?_
  rintro ⟨E0, e0, rfl, he0⟩
  refine CT.sub ?_ (sub_dup hv)
  refine CT.sub ?_ (sub_dup (.tail _ hv2))
  refine CT.sub ?_ (sub_dup (.tail _ (.tail _ hv3)))
  refine CT_enter Try.func4 rfl ?_; (simp only [Try.ntmps4, List.size_toArray, List.length_cons, List.length_nil, Nat.reduceAdd, Nat.reduceSub, Array.replicate_succ, Array.replicate_zero, List.push_toArray, List.append_toArray, List.nil_append, List.cons_append])
  repeat' (first | refine go ?_ | intro _ | (apply cG; first | refine cT ?_ | refine cF ?_ | refine cS (fun _ => ?_) fun _ => ?_) | (apply gW; refine sW ?_) | (apply gI; refine sI ?_) | (apply gE; refine sE ?_) | (apply gP; refine sP ?_) | (apply gC; refine sC ?_) | (apply gD; refine sD ?_) | fail)
  refine O_d (dy_call ArgsI.pf (by first | exact rfl | trivial | (intro a b; rfl)) (Some_ct (m := 5) (by repeat (first | exact .head _ | refine .tail _ ?_)) hr hl (by decide))) ?_; rintro _ _ ⟨_, ⟨A1, c1, x, rfl, hx5, hxok, rfl⟩, rfl⟩; refine O_n ?_
  repeat' (first | refine go ?_ | intro _ | (apply cG; first | refine cT ?_ | refine cF ?_ | refine cS (fun _ => ?_) fun _ => ?_) | (apply gW; refine sW ?_) | (apply gI; refine sI ?_) | (apply gE; refine sE ?_) | (apply gP; refine sP ?_) | (apply gC; refine sC ?_) | (apply gD; refine sD ?_) | fail)
  refine O_frz 0 ?_
  refine O_d (dy_call ArgsI.pf (by first | exact rfl | trivial | (intro a b; rfl)) (own_ct (l := x) (by repeat (first | exact .head _ | refine .tail _ ?_)) (by omega))) ?_; rintro _ _ ⟨_, ⟨A2, c2, rfl, rfl⟩, rfl⟩; refine O_n ?_
  refine O_frz 0 ?_
  repeat' (first | refine go ?_ | intro _ | (apply cG; first | refine cT ?_ | refine cF ?_ | refine cS (fun _ => ?_) fun _ => ?_) | (apply gW; refine sW ?_) | (apply gI; refine sI ?_) | (apply gE; refine sE ?_) | (apply gP; refine sP ?_) | (apply gC; refine sC ?_) | (apply gD; refine sD ?_) | fail)
  refine O_d (dy_call ArgsI.pf (by first | exact rfl | trivial | (intro a b; rfl)) (Boxes_ct (m := 3) (by repeat (first | exact .head _ | refine .tail _ ?_)) hr2 hl2 (by decide))) ?_; rintro _ _ ⟨_, ⟨B1, d1, t, rfl, ht3, htok, rfl⟩, rfl⟩; refine O_n ?_
  refine O_frz 0 ?_
  repeat' (first | refine go ?_ | intro _ | (apply cG; first | refine cT ?_ | refine cF ?_ | refine cS (fun _ => ?_) fun _ => ?_) | (apply gW; refine sW ?_) | (apply gI; refine sI ?_) | (apply gE; refine sE ?_) | (apply gP; refine sP ?_) | (apply gC; refine sC ?_) | (apply gD; refine sD ?_) | fail)
  refine O_d (dy_lit0 eBX rfl) ?_; rintro _ _ ⟨_, rfl, rfl⟩; refine O_n ?_
  repeat' (first | refine go ?_ | intro _ | (apply cG; first | refine cT ?_ | refine cF ?_ | refine cS (fun _ => ?_) fun _ => ?_) | (apply gW; refine sW ?_) | (apply gI; refine sI ?_) | (apply gE; refine sE ?_) | (apply gP; refine sP ?_) | (apply gC; refine sC ?_) | (apply gD; refine sD ?_) | fail)
  refine O_d (dy_call ArgsI.pf (by first | exact rfl | trivial | (intro a b; rfl)) (Boxes_ct (m := 1) (by repeat (first | exact .head _ | refine .tail _ ?_)) hr3 hl3 (by decide))) ?_; rintro _ _ ⟨_, ⟨B2, d2, t2, rfl, ht1, ht2ok, rfl⟩, rfl⟩; refine O_n ?_
  repeat' (first | refine go ?_ | intro _ | (apply cG; first | refine cT ?_ | refine cF ?_ | refine cS (fun _ => ?_) fun _ => ?_) | (apply gW; refine sW ?_) | (apply gI; refine sI ?_) | (apply gE; refine sE ?_) | (apply gP; refine sP ?_) | (apply gC; refine sC ?_) | (apply gD; refine sD ?_) | fail)
  rename_i B3 d3
  rw [List.nil_append]
  have hlen3 : (t ++ t2).length = t.length + t2.length := List.length_append
  have hmok : ∀ b ∈ t ++ t2, BxOk b := fun b hb => (List.mem_append.1 hb).elim (htok b) (ht2ok b)
  have hp1 := place_some (x := x) (t := t) hxok htok (by omega) (by omega)
  have hp2 := place_some (x := x) (t := t ++ t2) hxok hmok (by omega) (by omega)
  have hmore := best_more x t t2
  rw [← hlen3]
  refine O_frz 1 ?_
  refine O_d (dy_call ArgsI.pf (by first | exact rfl | trivial | (intro a b; rfl)) (Place_ct (l := x) (t := t) (fuel := 1048576) (by repeat (first | exact .head _ | refine .tail _ ?_)) (by repeat (first | exact .head _ | refine .tail _ ?_)) (by decide) (.inl (by omega)))) ?_; rintro _ _ ⟨_, ⟨A3, c3, rfl, rfl⟩, rfl⟩; refine O_n ?_
  rw [hp1]
  dsimp only
  repeat' (first | refine go ?_ | intro _ | (apply cG; first | refine cT ?_ | refine cF ?_ | refine cS (fun _ => ?_) fun _ => ?_) | (apply gW; refine sW ?_) | (apply gI; refine sI ?_) | (apply gE; refine sE ?_) | (apply gP; refine sP ?_) | (apply gC; refine sC ?_) | (apply gD; refine sD ?_) | fail)
  refine O_d (dy_call ArgsI.pf (by first | exact rfl | trivial | (intro a b; rfl)) (Place_ct (l := x) (t := t ++ t2) (fuel := 1048576) (by repeat (first | exact .head _ | refine .tail _ ?_)) (by repeat (first | exact .head _ | refine .tail _ ?_)) (by decide) (.inl (by omega)))) ?_; rintro _ _ ⟨_, ⟨A4, c4, rfl, rfl⟩, rfl⟩; refine O_n ?_
  rw [hp2]
  dsimp only
  by_cases h0 : x.length = 0
  · obtain rfl : x = [] := List.length_eq_zero_iff.1 h0
    have hb0 : (bestF [] t).2 = 0 := best_nil t
    rw [hb0] at hmore
    rw [hb0]
    repeat' (first | refine go ?_ | intro _ | (apply cG; first | refine cT ?_ | refine cF ?_ | refine cS (fun _ => ?_) fun _ => ?_) | (apply gW; refine sW ?_) | (apply gI; refine sI ?_) | (apply gE; refine sE ?_) | (apply gP; refine sP ?_) | (apply gC; refine sC ?_) | (apply gD; refine sD ?_) | fail)
    refine O_d (dy_call ArgsI.pf (by first | exact rfl | trivial | (intro a b; rfl)) (lives_ct)) ?_; rintro _ _ ⟨_, ⟨rfl, hLL⟩, rfl⟩; replace hLL := hLL.symm; subst hLL; refine O_n ?_
    repeat' (first | refine go ?_ | intro _ | (apply cG; first | refine cT ?_ | refine cF ?_ | refine cS (fun _ => ?_) fun _ => ?_) | (apply gW; refine sW ?_) | (apply gI; refine sI ?_) | (apply gE; refine sE ?_) | (apply gP; refine sP ?_) | (apply gC; refine sC ?_) | (apply gD; refine sD ?_) | fail)
    refine E_res1 (by rfl) (by rfl) ⟨rfl, rfl⟩ Sb
  obtain ⟨xi, b, hx⟩ : ∃ xi b, x = xi ++ [b] := ⟨x.dropLast, x.getLast (fun h => h0 (by rw [h]; rfl)), (List.dropLast_concat_getLast _).symm⟩
  have hxl : x.length = xi.length + 1 := by rw [hx, List.length_append]; rfl
  have htk : x.take xi.length = xi := by rw [hx, List.take_left]
  have hgb : x[xi.length]? = some b := by rw [hx, List.getElem?_append_right (Nat.le_refl _), Nat.sub_self]; rfl
  have hxiok : ∀ a ∈ xi, SomeOk a := fun a ha => hxok a (by rw [hx]; exact List.mem_append_left _ ha)
  have hbok := hxok b (List.mem_of_getElem? hgb)
  have hp3 := place_some (x := xi) (t := t) hxiok htok (by omega) (by omega)
  have hless := best_less (l := xi) (b := b) (t := t) (by omega)
  rw [← hx] at hless
  have hat : At x xi.length b := ⟨hgb⟩
  repeat' (first | refine go ?_ | intro _ | (apply cG; first | refine cT ?_ | refine cF ?_ | refine cS (fun _ => ?_) fun _ => ?_) | (apply gI; refine sI ?_) | (apply gE; refine sE ?_) | (apply gP; refine sP ?_) | (apply gC; refine sC ?_) | (apply gD; refine sD ?_) | fail)
  apply gW; refine sW (r := (xi.length : Int)) ?_ (by rw [show (x.length : Int) - 1 = (xi.length : Int) by omega]; exact wr_i64 (by omega) (by omega))
  repeat' (first | refine go ?_ | intro _ | (apply cG; first | refine cT ?_ | refine cF ?_ | refine cS (fun _ => ?_) fun _ => ?_) | (apply gW; refine sW ?_) | (apply gI; refine sI ?_) | (apply gE; refine sE ?_) | (apply gP; refine sP ?_) | (apply gC; refine sC ?_) | (apply gD; refine sD ?_) | fail)
  rw [List.drop_zero, htk]
  refine O_d (dy_call ArgsI.pf (by first | exact rfl | trivial | (intro a b; rfl)) (Place_ct (l := xi) (t := t) (fuel := 1048576) (by repeat (first | exact .head _ | refine .tail _ ?_)) (by repeat (first | exact .head _ | refine .tail _ ?_)) (by decide) (.inl (by omega)))) ?_; rintro _ _ ⟨_, ⟨A5, c5, rfl, rfl⟩, rfl⟩; refine O_n ?_
  rw [hp3]
  dsimp only
  have hbb := best_bound (l := xi) (t := t) (fun a ha => good_some (hxiok a ha))
  repeat' (first | refine go ?_ | intro _ | (apply cG; first | refine cT ?_ | refine cF ?_ | refine cS (fun _ => ?_) fun _ => ?_) | (apply gI; refine sI ?_) | (apply gE; refine sE ?_) | (apply gP; refine sP ?_) | (apply gC; refine sC ?_) | (apply gD; refine sD ?_) | fail)
  apply gW; refine sW (r := (xi.length : Int)) ?_ (by rw [show (x.length : Int) - 1 = (xi.length : Int) by omega]; exact wr_i64 (by omega) (by omega))
  repeat' (first | refine go ?_ | intro _ | (apply cG; first | refine cT ?_ | refine cF ?_ | refine cS (fun _ => ?_) fun _ => ?_) | (apply gW; refine sW ?_) | (apply gI; refine sI ?_) | (apply gE; refine sE ?_) | (apply gP; refine sP ?_) | (apply gC; refine sC ?_) | (apply gD; refine sD ?_) | fail)
  refine O_d (dy_call ArgsI.pf (by first | exact rfl | trivial | (intro a b; rfl)) (lives_ct)) ?_; rintro _ _ ⟨_, ⟨rfl, hLL⟩, rfl⟩; replace hLL := hLL.symm; subst hLL; refine O_n ?_
  repeat' (first | refine go ?_ | intro _ | (apply cG; first | refine cT ?_ | refine cF ?_ | refine cS (fun _ => ?_) fun _ => ?_) | (apply gW; refine sW ?_) | (apply gI; refine sI ?_) | (apply gE; refine sE ?_) | (apply gP; refine sP ?_) | (apply gC; refine sC ?_) | (apply gD; refine sD ?_) | fail)
  refine E_res1 (by rfl) (by rfl) ⟨rfl, rfl⟩ Sb
theorem LabelTaken_any {v vm vn : Value} {li lm ln : List Int} {w : World} (s : St w w [rd eI v li, rd eI vm lm, rd eI vn ln]) (hl : li.length ≤ 9223372036854775807) (hr : ∀ n ∈ li, I64 n) (hl2 : lm.length ≤ 9223372036854775807) (hr2 : ∀ n ∈ lm, I64 n) (hl3 : ln.length ≤ 9223372036854775807) (hr3 : ∀ n ∈ ln, I64 n) :
    Calls Try.prog 4 #[v, vm, vn] w fun e w' => e = .returned (.bool true) ∧ Below w.heap.size w w' :=
  ((LabelTaken_ct (W0 := w) (.head _) hl hr (.tail _ (.head _)) hl2 hr2 (.tail _ (.tail _ (.head _))) hl3 hr3).run w s).mono fun e w' h => by
    obtain ⟨v, L', rfl, ⟨rfl, rfl⟩, s⟩ := h
    exact ⟨rfl, s.below⟩
end
end Go.Proofs.Yteeapkfakehocaa
namespace Go.Proofs.Yteeapkfakehocaa
open Go Go.RowKit
set_option linter.unusedVariables false
set_option linter.unusedSimpArgs false
set_option maxRecDepth 20000
set_option synthInstance.maxSize 100000
set_option synthInstance.maxHeartbeats 400000
section
variable {W0 : World} {L : List HP}
theorem LabelValue_ct {v vm : Value} {li lm : List Int} {n at_ how by_ : Int} (hv : rd eI v li ∈ L) (hl : li.length ≤ 9223372036854775807) (hr : ∀ n ∈ li, I64 n) (hv2 : rd eI vm lm ∈ L) (hl2 : lm.length ≤ 9223372036854775807) (hr2 : ∀ n ∈ lm, I64 n) (hn : I64 n) (ha : I64 at_) (hh : I64 how) (hb : I64 by_) :
    CT Try.prog 5 #[v, vm, .int .i64 n, .int .i64 at_, .int .i64 how, .int .i64 by_] W0 L fun r L' => r = .bool true ∧ L' = L := by
  refine CT_fact (fun w s => ((Src.sl (.inl hv) s).form)) ?_
  rintro ⟨A0, c0, rfl, hc0⟩
  refine CT_fact (fun w s => ((Src.sl (.inl hv2) s).form)) ?_
  rintro ⟨B0, d0, rfl, hd0⟩
  refine CT.sub ?_ (sub_dup hv)
  refine CT.sub ?_ (sub_dup (.tail _ hv2))
  refine CT_enter Try.func5 rfl ?_; (simp only [Try.ntmps5, List.size_toArray, List.length_cons, List.length_nil, Nat.reduceAdd, Nat.reduceSub, Array.replicate_succ, Array.replicate_zero, List.push_toArray, List.append_toArray, List.nil_append, List.cons_append])
  repeat' (first | refine go ?_ | intro _ | (apply cG; first | refine cT ?_ | refine cF ?_ | refine cS (fun _ => ?_) fun _ => ?_) | (apply gW; refine sW ?_) | (apply gI; refine sI ?_) | (apply gE; refine sE ?_) | (apply gP; refine sP ?_) | (apply gC; refine sC ?_) | (apply gD; refine sD ?_) | fail)
  refine O_d (dy_call ArgsI.pf (by first | exact rfl | trivial | (intro a b; rfl)) (Some_ct (m := 4) (by repeat (first | exact .head _ | refine .tail _ ?_)) hr hl (by decide))) ?_; rintro _ _ ⟨_, ⟨A1, c1, x, rfl, hx4, hxok, rfl⟩, rfl⟩; refine O_n ?_
  repeat' (first | refine go ?_ | intro _ | (apply cG; first | refine cT ?_ | refine cF ?_ | refine cS (fun _ => ?_) fun _ => ?_) | (apply gW; refine sW ?_) | (apply gI; refine sI ?_) | (apply gE; refine sE ?_) | (apply gP; refine sP ?_) | (apply gC; refine sC ?_) | (apply gD; refine sD ?_) | fail)
  refine O_frz 0 ?_
  refine O_d (dy_call ArgsI.pf (by first | exact rfl | trivial | (intro a b; rfl)) (Boxes_ct (m := 2) (by repeat (first | exact .head _ | refine .tail _ ?_)) hr2 hl2 (by decide))) ?_; rintro _ _ ⟨_, ⟨B1, d1, t, rfl, ht3, htok, rfl⟩, rfl⟩; refine O_n ?_
  repeat' (first | refine go ?_ | intro _ | (apply cG; first | refine cT ?_ | refine cF ?_ | refine cS (fun _ => ?_) fun _ => ?_) | (apply gW; refine sW ?_) | (apply gI; refine sI ?_) | (apply gE; refine sE ?_) | (apply gP; refine sP ?_) | (apply gC; refine sC ?_) | (apply gD; refine sD ?_) | fail)
  refine O_frz 0 ?_
  refine O_d (dy_call ArgsI.pf (by first | exact rfl | trivial | (intro a b; rfl)) (Spoilt_ct (l := x) (by repeat (first | exact .head _ | refine .tail _ ?_)) (by omega) ha hh hb)) ?_; rintro _ _ ⟨_, ⟨A2, c2, y, rfl, hy4, rfl⟩, rfl⟩; refine O_n ?_
  refine O_frz 0 ?_
  repeat' (first | refine go ?_ | intro _ | (apply cG; first | refine cT ?_ | refine cF ?_ | refine cS (fun _ => ?_) fun _ => ?_) | (apply gW; refine sW ?_) | (apply gI; refine sI ?_) | (apply gE; refine sE ?_) | (apply gP; refine sP ?_) | (apply gC; refine sC ?_) | (apply gD; refine sD ?_) | fail)
  refine O_d (dy_litS (R := eSX eAK) [⟨.slice A1 x.length c1, x⟩, ⟨.slice A2 y.length c2, y⟩] [.slice A1 x.length c1, .slice A2 y.length c2] (by rfl) (fun m h hs => ⟨⟨rfl, rd_mem hs (by repeat (first | exact .head _ | refine .tail _ ?_))⟩, ⟨rfl, rd_mem hs (by repeat (first | exact .head _ | refine .tail _ ?_))⟩, trivial⟩)) ?_; rintro _ _ ⟨g, rfl, rfl⟩; refine O_n ?_
  refine O_frz 0 ?_
  repeat' (first | refine go ?_ | intro _ | (apply cG; first | refine cT ?_ | refine cF ?_ | refine cS (fun _ => ?_) fun _ => ?_) | (apply gW; refine sW ?_) | (apply gI; refine sI ?_) | (apply gE; refine sE ?_) | (apply gP; refine sP ?_) | (apply gC; refine sC ?_) | (apply gD; refine sD ?_) | fail)
  have hk2 := around_in (n := n) (most := 625) (by decide)
  refine O_d (dy_call ArgsI.pf (by first | exact rfl | trivial | (intro a b; rfl)) (Around_ct (most := 625) hn.1 hn.2 (by decide) (by decide))) ?_; rintro _ _ ⟨_, ⟨rfl, hLL⟩, rfl⟩; replace hLL := hLL.symm; subst hLL; refine O_n ?_
  obtain ⟨K, hK⟩ : ∃ K : Nat, around n 625 = (K : Int) := ⟨(around n 625).toNat, by omega⟩
  rw [hK] at hk2 ⊢
  repeat' (first | refine go ?_ | intro _ | (apply cG; first | refine cT ?_ | refine cF ?_ | refine cS (fun _ => ?_) fun _ => ?_) | (apply gW; refine sW ?_) | (apply gI; refine sI ?_) | (apply gE; refine sE ?_) | (apply gP; refine sP ?_) | (apply gC; refine sC ?_) | (apply gD; refine sD ?_) | fail)
  refine O_d (dy_call ArgsI.pf (by first | exact rfl | trivial | (intro a b; rfl)) (positions_ct (N := K) (m := x.length) (by omega) (by omega))) ?_; rintro _ _ ⟨_, ⟨A5, c5, p1, rfl, hp1, hq1, rfl⟩, rfl⟩; refine O_n ?_
  refine O_frz 0 ?_
  repeat' (first | refine go ?_ | intro _ | (apply cG; first | refine cT ?_ | refine cF ?_ | refine cS (fun _ => ?_) fun _ => ?_) | (apply gI; refine sI ?_) | (apply gE; refine sE ?_) | (apply gP; refine sP ?_) | (apply gC; refine sC ?_) | (apply gD; refine sD ?_) | fail)
  apply gW; refine sW (r := ((K / 5 : Nat) : Int)) ?_ ⟨by decide, by show IntKind.i64.wrap ((K / 5 : Nat) : Int) = ((K / 5 : Nat) : Int); exact wr_i64 (by omega) (by omega)⟩
  repeat' (first | refine go ?_ | intro _ | (apply cG; first | refine cT ?_ | refine cF ?_ | refine cS (fun _ => ?_) fun _ => ?_) | (apply gI; refine sI ?_) | (apply gE; refine sE ?_) | (apply gP; refine sP ?_) | (apply gC; refine sC ?_) | (apply gD; refine sD ?_) | fail)
  apply gW; refine sW (r := ((x.length + 1 : Nat) : Int)) ?_ (by rw [Int.natCast_add]; exact wr_i64 (by omega) (by omega))
  repeat' (first | refine go ?_ | intro _ | (apply cG; first | refine cT ?_ | refine cF ?_ | refine cS (fun _ => ?_) fun _ => ?_) | (apply gW; refine sW ?_) | (apply gI; refine sI ?_) | (apply gE; refine sE ?_) | (apply gP; refine sP ?_) | (apply gC; refine sC ?_) | (apply gD; refine sD ?_) | fail)
  refine O_d (dy_call ArgsI.pf (by first | exact rfl | trivial | (intro a b; rfl)) (positions_ct (N := K / 5) (m := x.length + 1) (by omega) (by omega))) ?_; rintro _ _ ⟨_, ⟨A6, c6, p2, rfl, hp2, hq2, rfl⟩, rfl⟩; refine O_n ?_
  refine O_frz 0 ?_
  obtain ⟨mx, hmx⟩ : ∃ mx : Nat, max 0 ((x.length : Int) - 1) = (mx : Int) := ⟨(max 0 ((x.length : Int) - 1)).toNat, by omega⟩
  repeat' (first | refine go ?_ | intro _ | (apply cG; first | refine cT ?_ | refine cF ?_ | refine cS (fun _ => ?_) fun _ => ?_) | (apply gI; refine sI ?_) | (apply gE; refine sE ?_) | (apply gP; refine sP ?_) | (apply gC; refine sC ?_) | (apply gD; refine sD ?_) | fail)
  apply gW; refine sW (r := (x.length : Int) - 1) ?_ (wr_i64 (by omega) (by omega))
  repeat' (first | refine go ?_ | intro _ | (apply cG; first | refine cT ?_ | refine cF ?_ | refine cS (fun _ => ?_) fun _ => ?_) | (apply gI; refine sI ?_) | (apply gE; refine sE ?_) | (apply gP; refine sP ?_) | (apply gC; refine sC ?_) | (apply gD; refine sD ?_) | fail)
  apply gW; refine sW (r := (mx : Int)) ?_ (by split <;> omega)
  repeat' (first | refine go ?_ | intro _ | (apply cG; first | refine cT ?_ | refine cF ?_ | refine cS (fun _ => ?_) fun _ => ?_) | (apply gW; refine sW ?_) | (apply gI; refine sI ?_) | (apply gE; refine sE ?_) | (apply gP; refine sP ?_) | (apply gC; refine sC ?_) | (apply gD; refine sD ?_) | fail)
  refine O_d (dy_call ArgsI.pf (by first | exact rfl | trivial | (intro a b; rfl)) (positions_ct (N := K) (m := mx) (by omega) (by omega))) ?_; rintro _ _ ⟨_, ⟨A7, c7, p3, rfl, hp3, hq3, rfl⟩, rfl⟩; refine O_n ?_
  repeat' (first | refine go ?_ | intro _ | (apply cG; first | refine cT ?_ | refine cF ?_ | refine cS (fun _ => ?_) fun _ => ?_) | (apply gW; refine sW ?_) | (apply gI; refine sI ?_) | (apply gE; refine sE ?_) | (apply gP; refine sP ?_) | (apply gC; refine sC ?_) | (apply gD; refine sD ?_) | fail)
  refine O_d (dy_lit1 (R := eI) by_ (hcs := by rfl) (hel := fun _ _ _ => by rfl)) ?_; rintro _ _ ⟨_, rfl, rfl⟩; refine O_n ?_
  repeat' (first | refine go ?_ | intro _ | (apply cG; first | refine cT ?_ | refine cF ?_ | refine cS (fun _ => ?_) fun _ => ?_) | (apply gW; refine sW ?_) | (apply gI; refine sI ?_) | (apply gE; refine sE ?_) | (apply gP; refine sP ?_) | (apply gC; refine sC ?_) | (apply gD; refine sD ?_) | fail)
  rename_i A8 c8
  refine O_frz 1 ?_
  refine O_d (dy_litS (R := eSX eI) [⟨.slice A5 p1.length c5, p1⟩, ⟨.slice A6 p2.length c6, p2⟩, ⟨.slice A8 (p3.length + 1) c8, p3 ++ [by_]⟩] [.slice A5 p1.length c5, .slice A6 p2.length c6, .slice A8 (p3.length + 1) c8] (by rfl) (fun m h hs => ⟨⟨rfl, rd_mem hs (by repeat (first | exact .head _ | refine .tail _ ?_))⟩, ⟨rfl, rd_mem hs (by repeat (first | exact .head _ | refine .tail _ ?_))⟩, ⟨rfl, rd_mem hs (by repeat (first | exact .head _ | refine .tail _ ?_))⟩, trivial⟩)) ?_; rintro _ _ ⟨g2, rfl, rfl⟩; refine O_n ?_
  refine O_frz 0 ?_
  have hz0 : ∀ z ∈ [(⟨.slice A1 x.length c1, x⟩ : SX AK), ⟨.slice A2 y.length c2, y⟩], z.b.length ≤ 7 ∧ ∃ A c, z.v = .slice A z.b.length c := by
    intro z hz
    simp only [List.mem_cons, List.not_mem_nil, or_false] at hz
    rcases hz with rfl | rfl
    · exact ⟨by dsimp only; omega, A1, c1, rfl⟩
    · exact ⟨by dsimp only; omega, A2, c2, rfl⟩
  have hzl : [(⟨.slice A1 x.length c1, x⟩ : SX AK), ⟨.slice A2 y.length c2, y⟩].length = 2 := rfl
  obtain ⟨zs, hzs⟩ : ∃ zs : List (SX AK), [⟨.slice A1 x.length c1, x⟩, ⟨.slice A2 y.length c2, y⟩] = zs := ⟨_, rfl⟩
  rw [hzs] at hz0 hzl ⊢
  clear hzs
  have ht0 : ∀ z ∈ [(⟨.slice A5 p1.length c5, p1⟩ : SX Int), ⟨.slice A6 p2.length c6, p2⟩, ⟨.slice A8 (p3.length + 1) c8, p3 ++ [by_]⟩], z.b.length ≤ 100 ∧ ∃ A c, z.v = .slice A z.b.length c := by
    intro z hz
    simp only [List.mem_cons, List.not_mem_nil, or_false] at hz
    rcases hz with rfl | rfl | rfl
    · exact ⟨by dsimp only; omega, A5, c5, rfl⟩
    · exact ⟨by dsimp only; omega, A6, c6, rfl⟩
    · exact ⟨by dsimp only; rw [List.length_append]; show p3.length + 1 ≤ 100; omega, A8, c8, by dsimp only; rw [List.length_append]; rfl⟩
  have htl : [(⟨.slice A5 p1.length c5, p1⟩ : SX Int), ⟨.slice A6 p2.length c6, p2⟩, ⟨.slice A8 (p3.length + 1) c8, p3 ++ [by_]⟩].length = 3 := rfl
  obtain ⟨ts, hts⟩ : ∃ ts : List (SX Int), [⟨.slice A5 p1.length c5, p1⟩, ⟨.slice A6 p2.length c6, p2⟩, ⟨.slice A8 (p3.length + 1) c8, p3 ++ [by_]⟩] = ts := ⟨_, rfl⟩
  rw [hts] at ht0 htl ⊢
  clear hts
  repeat' (first | refine go ?_ | intro _ | (apply cG; first | refine cT ?_ | refine cF ?_ | refine cS (fun _ => ?_) fun _ => ?_) | (apply gW; refine sW ?_) | (apply gI; refine sI ?_) | (apply gE; refine sE ?_) | (apply gP; refine sP ?_) | (apply gC; refine sC ?_) | (apply gD; refine sD ?_) | fail)
  refine C_loopS (κ := Nat) [false, false, false, false, false, false, false, false, false, false, false, false, true, false, false, false, false, false, true, true, true, true, true, true, false, false, false, false, false, false, false, false, false, false, false, false, false, false, false, false, false, false, false, false, false, false, false, false, false, false, false, false, false, false, false, false, false, true, true, true, true, true, true, true, true, true, true, true, true, true, true, true, true, true, true, true, true, true, true, true, true, true, true, true, true, true, true, true, true, true, true, true, true, true, true, true, true, true, true, true, false] (fun k => [(18, .int .i64 (k : Int))]) (fun k => []) (fun k => k ≤ 2) (fun k => 2 - k) 0 (Nat.zero_le _) ⟨rfl, trivial⟩ ?_
  rintro i u hi
  ((try dsimp only); refine C_n ?_; (try simp only [Nat.reduceAdd, Nat.zero_add]))
  by_cases hi2 : i < 2
  rotate_left
  · repeat' (first | refine go ?_ | intro _ | (apply cG; first | refine cT ?_ | refine cF ?_ | refine cS (fun _ => ?_) fun _ => ?_) | (apply gW; refine sW ?_) | (apply gI; refine sI ?_) | (apply gE; refine sE ?_) | (apply gP; refine sP ?_) | (apply gC; refine sC ?_) | (apply gD; refine sD ?_) | fail)
    refine O_d (dy_call ArgsI.pf (by first | exact rfl | trivial | (intro a b; rfl)) (lives_ct)) ?_; rintro _ _ ⟨_, ⟨rfl, hLL⟩, rfl⟩; replace hLL := hLL.symm; subst hLL; refine O_n ?_
    repeat' (first | refine go ?_ | intro _ | (apply cG; first | refine cT ?_ | refine cF ?_ | refine cS (fun _ => ?_) fun _ => ?_) | (apply gW; refine sW ?_) | (apply gI; refine sI ?_) | (apply gE; refine sE ?_) | (apply gP; refine sP ?_) | (apply gC; refine sC ?_) | (apply gD; refine sD ?_) | fail)
    refine E_res1 (by rfl) (by rfl) ⟨rfl, rfl⟩ Sb
  obtain ⟨z, hz⟩ : ∃ z, zs[i]? = some z := ⟨_, List.getElem?_eq_getElem (by omega)⟩
  have haz : At zs i z := ⟨hz⟩
  obtain ⟨hz4, Az, cz, hzv⟩ := hz0 z (List.mem_of_getElem? hz)
  have hec : EncC (eSX eAK) z [.slice Az z.b.length cz] := ⟨fun m cs h => by rw [h.1, hzv]⟩
  refine C_sub (sub_peekX (v := .slice (some ⟨g, 0, none⟩) 2 2) (l := zs) (R := eAK) (by repeat (first | exact .head _ | refine .tail _ ?_)) hz) ?_
  rw [hzv]
  repeat' (first | refine go ?_ | intro _ | (apply cG; first | refine cT ?_ | refine cF ?_ | refine cS (fun _ => ?_) fun _ => ?_) | (apply gW; refine sW ?_) | (apply gI; refine sI ?_) | (apply gE; refine sE ?_) | (apply gP; refine sP ?_) | (apply gC; refine sC ?_) | (apply gD; refine sD ?_) | fail)
  refine C_loopS (κ := Nat) [false, false, false, false, false, false, false, false, false, false, false, false, true, false, false, false, false, false, false, true, true, true, true, true, false, false, false, false, false, false, false, false, false, false, false, false, false, false, false, false, false, false, false, false, false, false, false, false, false, false, false, false, false, false, false, false, false, false, false, false, false, true, true, true, true, true, true, true, true, true, true, true, true, true, true, true, true, true, true, true, true, true, true, true, true, true, true, true, true, true, true, true, true, true, true, true, true, true, true, true, false] (fun k => [(19, .int .i64 (k : Int))]) (fun k => []) (fun k => k ≤ 3) (fun k => 3 - k) 0 (Nat.zero_le _) ⟨rfl, trivial⟩ ?_
  rintro k u2 hk
  ((try dsimp only); refine C_n ?_; (try simp only [Nat.reduceAdd, Nat.zero_add]))
  by_cases hk2 : k < 3
  rotate_left
  · repeat' (first | refine go ?_ | intro _ | (apply cG; first | refine cT ?_ | refine cF ?_ | refine cS (fun _ => ?_) fun _ => ?_) | (apply gW; refine sW ?_) | (apply gI; refine sI ?_) | (apply gE; refine sE ?_) | (apply gP; refine sP ?_) | (apply gC; refine sC ?_) | (apply gD; refine sD ?_) | fail)
    exact E_round (i + 1) hi2 (by omega) ⟨rfl, trivial⟩ Sb
  obtain ⟨tz, htz⟩ : ∃ tz, ts[k]? = some tz := ⟨_, List.getElem?_eq_getElem (by omega)⟩
  have hatz : At ts k tz := ⟨htz⟩
  obtain ⟨htl2, Bz, dz, htv⟩ := ht0 tz (List.mem_of_getElem? htz)
  have hec2 : EncC (eSX eI) tz [.slice Bz tz.b.length dz] := ⟨fun m cs h => by rw [h.1, htv]⟩
  refine C_sub (sub_peekX (v := .slice (some ⟨g2, 0, none⟩) 3 3) (l := ts) (R := eI) (by repeat (first | exact .head _ | refine .tail _ ?_)) htz) ?_
  rw [htv]
  obtain ⟨⟨pn, pe⟩, hpf⟩ : ∃ q, valF z.b t tz.b = q := ⟨_, rfl⟩
  repeat' (first | refine go ?_ | intro _ | (apply cG; first | refine cT ?_ | refine cF ?_ | refine cS (fun _ => ?_) fun _ => ?_) | (apply gW; refine sW ?_) | (apply gI; refine sI ?_) | (apply gE; refine sE ?_) | (apply gP; refine sP ?_) | (apply gC; refine sC ?_) | (apply gD; refine sD ?_) | fail)
  refine C_draw (n := 99) [rd (eSX eAK) (.slice (some ⟨g, 0, none⟩) 2 2) zs, rd (eSX eI) (.slice (some ⟨g2, 0, none⟩) 3 3) ts] [(0, 1), (1, 1), (2, 1), (3, 1), (5, 1), (6, 1), (7, 1), (8, 1), (9, 1), (4, 0), (10, 0), (11, 1), (12, 1), (13, 1), (14, 1), (15, 1)] (by kernel_rfl) (by kernel_rfl) Sb ?_
  repeat' (first | refine go ?_ | intro _ | (apply cG; first | refine cT ?_ | refine cF ?_ | refine cS (fun _ => ?_) fun _ => ?_) | (apply gW; refine sW ?_) | (apply gI; refine sI ?_) | (apply gE; refine sE ?_) | (apply gP; refine sP ?_) | (apply gC; refine sC ?_) | (apply gD; refine sD ?_) | fail)
  refine D_op rfl ?_; refine X_d (dy_call ArgsI.pf (by first | exact rfl | trivial | (intro a b; rfl)) (own_ct (l := z.b) (by repeat (first | exact .head _ | refine .tail _ ?_)) (by omega))) ?_; rintro _ _ ⟨_, ⟨A3, c3, rfl, rfl⟩, rfl⟩; refine ⟨(by first | exact .inl rfl | exact .inr Sb), D_n ?_⟩
  refine D_frz 0 ?_
  repeat' (first | refine go ?_ | intro _ | (apply cG; first | refine cT ?_ | refine cF ?_ | refine cS (fun _ => ?_) fun _ => ?_) | (apply gW; refine sW ?_) | (apply gI; refine sI ?_) | (apply gE; refine sE ?_) | (apply gP; refine sP ?_) | (apply gC; refine sC ?_) | (apply gD; refine sD ?_) | fail)
  refine D_op rfl ?_; refine X_d (dy_call ArgsI.pf (by first | exact rfl | trivial | (intro a b; rfl)) (Value_ct (l := z.b) (t := t) (p := tz.b) (by repeat (first | exact .head _ | refine .tail _ ?_)) (by repeat (first | exact .head _ | refine .tail _ ?_)) (by repeat (first | exact .head _ | refine .tail _ ?_)) (by omega))) ?_; rintro _ _ ⟨_, ⟨rfl, hLL⟩, rfl⟩; replace hLL := hLL.symm; subst hLL; refine ⟨(by first | exact .inl rfl | exact .inr Sb), D_n ?_⟩
  rw [hpf]
  dsimp only
  repeat' (first | refine go ?_ | intro _ | (apply cG; first | refine cT ?_ | refine cF ?_ | refine cS (fun _ => ?_) fun _ => ?_) | (apply gW; refine sW ?_) | (apply gI; refine sI ?_) | (apply gE; refine sE ?_) | (apply gP; refine sP ?_) | (apply gC; refine sC ?_) | (apply gD; refine sD ?_) | fail)
  refine C_draw (n := 99) [rd (eSX eAK) (.slice (some ⟨g, 0, none⟩) 2 2) zs, rd (eSX eI) (.slice (some ⟨g2, 0, none⟩) 3 3) ts] [(0, 1), (1, 1), (2, 1), (3, 1), (4, 1), (5, 1), (6, 1), (7, 1), (8, 1), (9, 0), (10, 1), (11, 1), (12, 1), (13, 1), (14, 1)] (by kernel_rfl) (by kernel_rfl) Sb ?_
  repeat' (first | refine go ?_ | intro _ | (apply cG; first | refine cT ?_ | refine cF ?_ | refine cS (fun _ => ?_) fun _ => ?_) | (apply gW; refine sW ?_) | (apply gI; refine sI ?_) | (apply gE; refine sE ?_) | (apply gP; refine sP ?_) | (apply gC; refine sC ?_) | (apply gD; refine sD ?_) | fail)
  refine D_op rfl ?_; refine X_d (dy_call ArgsI.pf (by first | exact rfl | trivial | (intro a b; rfl)) (rValue_ct (l := z.b) (t := t) (p := tz.b) (by repeat (first | exact .head _ | refine .tail _ ?_)) (by repeat (first | exact .head _ | refine .tail _ ?_)) (by repeat (first | exact .head _ | refine .tail _ ?_)) (by omega))) ?_; rintro _ _ ⟨_, ⟨rfl, hLL⟩, rfl⟩; replace hLL := hLL.symm; subst hLL; refine ⟨(by first | exact .inl rfl | exact .inr Sb), D_n ?_⟩
  rw [hpf]
  dsimp only
  repeat' (first | refine go ?_ | intro _ | (apply cG; first | refine cT ?_ | refine cF ?_ | refine cS (fun _ => ?_) fun _ => ?_) | (apply gW; refine sW ?_) | (apply gI; refine sI ?_) | (apply gE; refine sE ?_) | (apply gP; refine sP ?_) | (apply gC; refine sC ?_) | (apply gD; refine sD ?_) | fail)
  exact E_round (k + 1) hk2 (by omega) ⟨rfl, trivial⟩ Sb
theorem LabelValue_any {v vm : Value} {li lm : List Int} {n at_ how by_ : Int} {w : World} (s : St w w [rd eI v li, rd eI vm lm]) (hl : li.length ≤ 9223372036854775807) (hr : ∀ n ∈ li, I64 n) (hl2 : lm.length ≤ 9223372036854775807) (hr2 : ∀ n ∈ lm, I64 n) (hn : I64 n) (ha : I64 at_) (hh : I64 how) (hb : I64 by_) :
    Calls Try.prog 5 #[v, vm, .int .i64 n, .int .i64 at_, .int .i64 how, .int .i64 by_] w fun e w' => e = .returned (.bool true) ∧ Below w.heap.size w w' :=
  ((LabelValue_ct (W0 := w) (.head _) hl hr (.tail _ (.head _)) hl2 hr2 hn ha hh hb).run w s).mono fun e w' h => by
    obtain ⟨v, L', rfl, ⟨rfl, rfl⟩, s⟩ := h
    exact ⟨rfl, s.below⟩
end
end Go.Proofs.Yteeapkfakehocaa
