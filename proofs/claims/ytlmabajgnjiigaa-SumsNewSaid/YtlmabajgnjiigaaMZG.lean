/-
  The law SumsExact.
-/
import Derived.Test.YtlmabajgnjiigaaMZF
namespace Go.Proofs.Ytlmabajgnjiigaa
open Go Go.RowKit
set_option linter.unusedVariables false
set_option linter.unusedSimpArgs false
set_option maxRecDepth 20000
set_option synthInstance.maxSize 100000
set_option synthInstance.maxHeartbeats 400000
def allL (n : Nat) : List Int := (List.range n).map fun (i : Nat) => (i : Int)
theorem allL_succ {n : Nat} : allL (n + 1) = allL n ++ [(n : Int)] := by
  unfold allL
  rw [List.range_succ, List.map_append]
  rfl
theorem allL_asc {n : Nat} : (allL n).Pairwise (· < ·) := by
  unfold allL
  refine List.pairwise_map.2 (List.pairwise_lt_range.imp fun h => ?_)
  omega
theorem allL_mem {n : Nat} {x : Int} : x ∈ allL n ↔ 0 ≤ x ∧ x < (n : Int) := by
  unfold allL
  rw [List.mem_map]
  constructor
  · rintro ⟨i, hi, rfl⟩
    have := List.mem_range.1 hi
    omega
  · intro h
    exact ⟨x.toNat, List.mem_range.2 (by omega), by omega⟩
theorem sumAt_all {U : List Int} : ∀ n : Nat, n ≤ U.length → sumAt U (allL n) = sumL (U.take n)
  | 0, _ => rfl
  | n + 1, h => by
    obtain ⟨y, hy⟩ : ∃ y, U[n]? = some y := ⟨_, List.getElem?_eq_getElem (by omega)⟩
    rw [allL_succ, sumAt_app hy, sumAt_all n (by omega), sumL_take hy]
theorem sumAt_allU {U : List Int} {n : Nat} (h : U.length = n) : sumAt U (allL n) = sumL U := by
  subst h
  rw [sumAt_all _ (Nat.le_refl _), List.take_length]
/-- the atoms of groups below k, among the first n -/
def atm (F R : List Int) (k : Int) (n : Nat) : List Int := ((List.range n).filter fun i => decide (R.getD (F.getD i 0).toNat 0 < k)).map fun (i : Nat) => (i : Int)
theorem fm_succ {p : Nat → Bool} {n : Nat} : ((List.range (n + 1)).filter p).map (fun (i : Nat) => (i : Int)) = ((List.range n).filter p).map (fun (i : Nat) => (i : Int)) ++ (if p n = true then [(n : Int)] else []) := by
  rw [List.range_succ, List.filter_append, List.map_append]
  congr 1
  cases h : p n
  · rw [List.filter_cons_of_neg (by rw [h]; decide)]
    rfl
  · rw [List.filter_cons_of_pos h]
    rfl
theorem atm_step {U F R : List Int} {k : Int} : ∀ n : Nat, n ≤ U.length → sumAt U (atm F R (k + 1) n) = sumAt U (atm F R k n) + sumAt U (memN F R k n)
  | 0, _ => rfl
  | n + 1, h => by
    obtain ⟨y, hy⟩ : ∃ y, U[n]? = some y := ⟨_, List.getElem?_eq_getElem (by omega)⟩
    have ih := atm_step (U := U) (F := F) (R := R) (k := k) n (by omega)
    unfold atm memN at ih ⊢
    rw [fm_succ, fm_succ, fm_succ]
    simp only [decide_eq_true_eq]
    obtain ⟨g, hg⟩ : ∃ g, R.getD (F.getD n 0).toNat 0 = g := ⟨_, rfl⟩
    rw [hg]
    by_cases h1 : g < k
    · rw [if_pos (by omega), if_pos h1, if_neg (by omega), List.append_nil, sumAt_app hy, sumAt_app hy, ih]
      omega
    · by_cases h2 : g = k
      · rw [if_pos (by omega), if_neg h1, if_pos h2, List.append_nil, sumAt_app hy, sumAt_app hy, ih]
        omega
      · rw [if_neg (by omega), if_neg h1, if_neg h2, List.append_nil, List.append_nil, List.append_nil, ih]
theorem atm_in {F R : List Int} {k : Int} {n : Nat} : ∀ x ∈ atm F R k n, 0 ≤ x ∧ x < (n : Int) := by
  intro x hx
  unfold atm at hx
  obtain ⟨i, hi, rfl⟩ := List.mem_map.1 hx
  have := List.mem_range.1 (List.mem_filter.1 hi).1
  omega
theorem atm_len {F R : List Int} {k : Int} {n : Nat} : (atm F R k n).length ≤ n := by
  unfold atm
  rw [List.length_map]
  exact Nat.le_trans (List.length_filter_le _ _) (by simp)
theorem atm_all {F R : List Int} {k : Int} {n : Nat} (h : ∀ i, i < n → R.getD (F.getD i 0).toNat 0 < k) : atm F R k n = allL n := by
  unfold atm allL
  rw [List.filter_eq_self.2 fun i hi => decide_eq_true (h i (List.mem_range.1 hi))]
theorem atm_none {F R : List Int} {k : Int} {n : Nat} (h : ∀ i, i < n → ¬ R.getD (F.getD i 0).toNat 0 < k) : atm F R k n = [] := by
  unfold atm
  rw [List.filter_eq_nil_iff.2 fun i hi => by simpa using h i (List.mem_range.1 hi)]
  rfl
theorem asc_incF : ∀ {l : List Int}, l.Pairwise (· < ·) → incF l = true
  | [], _ => rfl
  | [x], _ => rfl
  | x :: y :: r, h => by
    obtain ⟨h1, h2⟩ := List.pairwise_cons.1 h
    show (decide (x < y) && incF (y :: r)) = true
    rw [decide_eq_true (h1 y (.head _)), asc_incF h2]
    rfl
theorem covE_ok {n : Nat} {l : List Int} (h1 : ∀ x ∈ l, 0 ≤ x ∧ x < (n : Int)) (h2 : l.Pairwise (· < ·)) : covE n l = 0 := by
  have hall : l.all (inB n) = true := List.all_eq_true.2 fun x hx => decide_eq_true (h1 x hx)
  unfold covE
  rw [if_pos hall, if_pos (asc_incF h2)]
theorem lstF_asc {k : Int} {n : Nat} : (lstF k n).Pairwise (· < ·) := by
  unfold lstF
  refine List.pairwise_map.2 ((List.pairwise_lt_range.filter _).imp fun h => ?_)
  omega
/-- the others -/
theorem rest_sum {U la : List Int} {n : Nat} (h1 : ∀ x ∈ la, 0 ≤ x ∧ x < (n : Int)) (h2 : la.Pairwise (· < ·)) (hU : U.length = n) : sumAt U la + sumAt U ((allL n).filter fun x => !memB la x) = sumL U := by
  have e : (allL n).filter (memB la) = la := asc_eq (allL_asc.filter _) h2 fun x => by
    rw [List.mem_filter, allL_mem]
    unfold memB
    simp only [decide_eq_true_eq]
    exact ⟨fun h => h.2, fun h => ⟨h1 x h, h⟩⟩
  rw [← sumAt_allU hU, sumAt_split (p := memB la) (l := allL n), e]
section
variable {U F : List Int} {G : List (List Int)}
theorem ChkT.grp (hc : ChkT U F G) {s : Nat} {R : List Int} (hR : G[s]? = Option.some R) {m : Nat} (hm : numF R 0 = Option.some m) {i : Nat} (hi : i < F.length) : 0 ≤ R.getD (F.getD i 0).toNat 0 ∧ R.getD (F.getD i 0).toNat 0 < (m : Int) := by
  obtain ⟨f, hf⟩ : ∃ f, F[i]? = Option.some f := ⟨_, List.getElem?_eq_getElem hi⟩
  obtain ⟨h1, h2⟩ := hc.inR hR f (List.mem_of_getElem? hf)
  obtain ⟨r, hr⟩ : ∃ r, R[f.toNat]? = Option.some r := ⟨_, List.getElem?_eq_getElem (by omega)⟩
  have := (numF_mem hm).2 r (List.mem_of_getElem? hr)
  rw [List.getD_eq_getElem?_getD, List.getD_eq_getElem?_getD, hf, Option.getD_some, hr, Option.getD_some]
  omega
theorem TOk.grp {t : TT} (ht : TOk t U F G) {a b : Int} (h : mbrF F G a b ≠ []) : grpF t a b = .tuple #[.int .i64 (sumAt U (mbrF F G a b)), .int .i64 0] := by
  have h1 := ht.mm a b
  have h2 := ht.sl a b
  unfold optL at h1 h2
  rw [if_neg h] at h1 h2
  obtain ⟨e, he, _⟩ := Option.map_eq_some_iff.1 h1
  unfold grpF
  rw [he, h2]
  rfl
end
section
variable {W0 : World} {L : List HP}
set_option maxHeartbeats 2000000 in
theorem SumsExact_ct {v : Value} {li : List Int} {n : Int} (hv : rd eI v li ∈ L) (hl : li.length ≤ 9223372036854775807) (hr : ∀ n ∈ li, I64 n) (hn : I64 n) :
    CT Try.prog 7 #[v, .int .i64 n] W0 L fun r L' => r = .bool true ∧ L' = L := by
  obtain ⟨hn1, hn2⟩ := hn
  refine CT_fact (fun w s => ((Src.sl (.inl hv) s).form)) ?_
  rintro ⟨A0, c0, rfl, hc0⟩
  refine CT.sub ?_ (sub_dup hv)
  refine CT_enter Try.func7 rfl ?_; (simp only [Try.ntmps7, List.size_toArray, List.length_cons, List.length_nil, Nat.reduceAdd, Nat.reduceSub, Array.replicate_succ, Array.replicate_zero, List.push_toArray, List.append_toArray, List.nil_append, List.cons_append])
  repeat' (first | refine go ?_ | intro _ | (apply cG; first | refine cT ?_ | refine cF ?_ | refine cS (fun _ => ?_) fun _ => ?_) | (apply gW; refine sW ?_) | (apply gI; refine sI ?_) | (apply gE; refine sE ?_) | (apply gP; refine sP ?_) | (apply gC; refine sC ?_) | (apply gD; refine sD ?_) | fail)
  refine O_d (dy_call ArgsI.pf (by first | exact rfl | trivial | (intro a b; rfl)) (rSome_ct (l := li) (.head _) hr hl)) ?_; rintro _ _ ⟨_, ⟨t, G, rfl, ⟨hc, hxs, hU9, hG3, hu49⟩, rfl⟩, rfl⟩; refine O_n ?_
  obtain ⟨p, A1, B1, C1, ca, cb, cc, U, F, xs⟩ := t
  dsimp only at hc hxs hU9 hu49 ⊢
  have hs49 := sumL_49 hu49
  have hFl := hc.len
  have hxl : xs.length = G.length := by rw [← hxs, List.length_map]
  repeat' (first | refine go ?_ | intro _ | (apply cG; first | refine cT ?_ | refine cF ?_ | refine cS (fun _ => ?_) fun _ => ?_) | (apply gW; refine sW ?_) | (apply gI; refine sI ?_) | (apply gE; refine sE ?_) | (apply gP; refine sP ?_) | (apply gC; refine sC ?_) | (apply gD; refine sD ?_) | fail)
  refine O_d (dy_call ArgsI.pf (by first | exact rfl | trivial | (intro a b; rfl)) (made_ok (t := ⟨p, A1, B1, C1, ca, cb, cc, U, F, xs⟩) ⟨.head _, .tail _ (.head _), .tail _ (.tail _ (.head _)), .tail _ (.tail _ (.tail _ (.head _)))⟩ hxs (by dsimp only; omega) (by omega) hc (by dsimp only; omega))) ?_; rintro _ _ ⟨_, ⟨T, hT, rfl, rfl⟩, rfl⟩; refine O_n ?_
  dsimp only at hT
  repeat' (first | refine go ?_ | intro _ | (apply cG; first | refine cT ?_ | refine cF ?_ | refine cS (fun _ => ?_) fun _ => ?_) | (apply gW; refine sW ?_) | (apply gI; refine sI ?_) | (apply gE; refine sE ?_) | (apply gP; refine sP ?_) | (apply gC; refine sC ?_) | (apply gD; refine sD ?_) | fail)
  refine C_loopS (κ := Nat) [false, false, false, false, true, false, false, false, true, true, true, true, true, true, true, false, false, false, false, false, false, false, false, false, false, false, false, false, false, false, false, false, false, false, false, false, false, true, true, true, true, true, true, true, true, true, true, true, true, true, true, true, true, true, true, true, true, true, true, true, true, true, true, true, true, true, true, true, true, true, true, true, true, true, true, true, true, true, true, true, true, true, true, true, true, true, true, true, true, true, true, true, false, false, false, false, false, false, false, false, false, false, false, false, false, false, false, false, false, false, false, false, false, false, false, false, false, false, false, false, false, false, false, false, false, false, false, false, false, false, false, false, false, false, false, false, false, false, false, false, false, false, false] (fun k => [(8, .int .i64 (k : Int))]) (fun k => []) (fun k => k ≤ xs.length) (fun k => xs.length - k) 0 (Nat.zero_le _) ⟨rfl, trivial⟩ ?_
  rintro s u hs
  ((try dsimp only); refine C_n ?_; (try simp only [Nat.reduceAdd, Nat.zero_add]))
  by_cases hsl : s < xs.length
  · obtain ⟨x, hx⟩ : ∃ x, xs[s]? = some x := ⟨_, List.getElem?_eq_getElem (by omega)⟩
    have hax : At xs s x := ⟨hx⟩
    have hgx := getX hxs hx
    obtain ⟨m, hm, hmF, _⟩ := hc.cnt hgx
    have hxlen := (hc.g s _ hgx).1
    have hmany := hc.many
    have hfm := facF_num hm
    refine C_sub (sub_peekX (.tail _ (.tail _ (.tail _ (.tail _ (.head _))))) hx) ?_
    refine C_form (.head _) fun Ax cx hxv => ?_
    have hec : EncC (eSX eI) x [.slice Ax x.b.length cx] := ⟨fun m cs h => by rw [h.1, hxv]⟩
    rw [hxv]
    repeat' (first | refine go ?_ | intro _ | (apply cG; first | refine cT ?_ | refine cF ?_ | refine cS (fun _ => ?_) fun _ => ?_) | (apply gW; refine sW ?_) | (apply gI; refine sI ?_) | (apply gE; refine sE ?_) | (apply gP; refine sP ?_) | (apply gC; refine sC ?_) | (apply gD; refine sD ?_) | fail)
    refine C_loopS (κ := Nat) [false, false, false, false, false, false, false, false, false, false, true, true, false, false, false, false, false, false, false, false, false, false, false, false, false, false, false, false, false, false, false, false, false, false, false, false, false, false, false, false, false, false, false, false, false, false, true, true, true, true, true, true, true, true, true, true, true, true, true, true, true, true, true, true, true, true, true, true, true, true, true, false, false, false, false, false, false, false, false, false, false, false, false, false, false, false, false, false, false, false, false, false, false, false, false, false, false, false, false, false, false, false, false, false, false, false, false, false, false, false, false, false, false, false, false, false, false, false, false, false, false, false, false, false, false, false, false, false, false, false, false, false, false, false, false, false, false, false, false, false, false, false, false] (fun k => [(10, .int .i64 (facF (x.b.take k))), (11, .int .i64 (k : Int))]) (fun k => []) (fun k => k ≤ x.b.length) (fun k => x.b.length - k) 0 (Nat.zero_le _) ⟨rfl, rfl, trivial⟩ ?_
    rintro f u2 hf
    ((try dsimp only); refine C_n ?_; (try simp only [Nat.reduceAdd, Nat.zero_add]))
    by_cases hfl : f < x.b.length
    · obtain ⟨z, hz⟩ : ∃ z, x.b[f]? = some z := ⟨_, List.getElem?_eq_getElem (by omega)⟩
      have haz : At x.b f z := ⟨hz⟩
      have hzb := (numF_mem hm).2 z (List.mem_of_getElem? hz)
      have hfb := facF_le (fun y hy => by have := (numF_mem hm).2 y hy; omega) f
      have hft := facF_take hz
      obtain ⟨w, hw⟩ : ∃ w, facF (x.b.take f) = w := ⟨_, rfl⟩
      rw [hw] at hft hfb ⊢
      repeat' (first | refine go ?_ | intro _ | (apply cG; first | refine cT ?_ | refine cF ?_ | refine cS (fun _ => ?_) fun _ => ?_) | (apply gI; refine sI ?_) | (apply gE; refine sE ?_) | (apply gP; refine sP ?_) | (apply gC; refine sC ?_) | (apply gD; refine sD ?_) | fail)
      apply gW; refine sW ?_
      repeat' (first | refine go ?_ | intro _ | (apply cG; first | refine cT ?_ | refine cF ?_ | refine cS (fun _ => ?_) fun _ => ?_) | (apply gI; refine sI ?_) | (apply gE; refine sE ?_) | (apply gP; refine sP ?_) | (apply gC; refine sC ?_) | (apply gD; refine sD ?_) | fail)
      apply gW; refine sW (r := facF (x.b.take (f + 1))) ?_ (by rw [hft]; split <;> omega)
      repeat' (first | refine go ?_ | intro _ | (apply cG; first | refine cT ?_ | refine cF ?_ | refine cS (fun _ => ?_) fun _ => ?_) | (apply gW; refine sW ?_) | (apply gI; refine sI ?_) | (apply gE; refine sE ?_) | (apply gP; refine sP ?_) | (apply gC; refine sC ?_) | (apply gD; refine sD ?_) | fail)
      exact E_round (f + 1) hfl (by omega) ⟨rfl, rfl, trivial⟩ Sb
    obtain rfl : f = x.b.length := by omega
    rw [List.take_length, hfm]
    repeat' (first | refine go ?_ | intro _ | (apply cG; first | refine cT ?_ | refine cF ?_ | refine cS (fun _ => ?_) fun _ => ?_) | (apply gW; refine sW ?_) | (apply gI; refine sI ?_) | (apply gE; refine sE ?_) | (apply gP; refine sP ?_) | (apply gC; refine sC ?_) | (apply gD; refine sD ?_) | fail)
    have hg0 : sumAt U (atm F x.b ((0 : Nat) : Int) F.length) = 0 := by
      rw [atm_none fun i hi => by have := (hc.grp hgx hm hi).1; omega]
      rfl
    refine C_loopS (κ := Nat) [false, false, false, false, true, false, false, false, false, true, false, false, true, true, true, false, false, false, false, false, false, false, false, false, false, false, false, false, false, false, false, false, false, false, false, false, false, false, false, false, false, false, false, false, false, false, false, false, false, false, false, false, false, false, false, false, false, false, false, false, false, false, false, false, false, false, false, false, false, false, false, true, true, true, true, true, true, true, true, true, true, true, true, true, true, true, true, true, false, false, false, false, false, false, false, false, false, false, false, false, false, false, false, false, false, false, false, false, false, false, false, false, false, false, false, false, false, false, false, false, false, false, false, false, false, false, false, false, false, false, false, false, false, false, false, false, false, false, false, false, false, false, false] (fun k => [(9, .int .i64 (sumAt U (atm F x.b (k : Int) F.length))), (12, .int .i64 (k : Int))]) (fun k => []) (fun k => k ≤ m) (fun k => m - k) 0 (Nat.zero_le _) ⟨by rw [hg0]; rfl, rfl, trivial⟩ ?_
    rintro g u3 hg
    ((try dsimp only); refine C_n ?_; (try simp only [Nat.reduceAdd, Nat.zero_add]))
    have hab := sumAt_bd hc.u (atm_in (F := F) (R := x.b) (k := (g : Int)) (n := F.length)) (by omega) (by have := atm_len (F := F) (R := x.b) (k := (g : Int)) (n := F.length); omega)
    by_cases hgm : g < m
    · have hne := hc.some hgx hm hgm
      have hst := atm_step (U := U) (F := F) (R := x.b) (k := (g : Int)) F.length (by omega)
      have hmb := sumAt_bd hc.u (mbrN_in (F := F) (G := G) (a := (s : Int)) (b := (g : Int)) (n := F.length)) (by omega) (by have := mbrN_len (F := F) (G := G) (a := (s : Int)) (b := (g : Int)) (n := F.length); omega)
      rw [← mbrF_at hgx] at hst
      have hmm : mbrN F G (s : Int) (g : Int) F.length = mbrF F G (s : Int) (g : Int) := rfl
      rw [hmm] at hmb
      obtain ⟨w1, hw1⟩ : ∃ w, sumAt U (mbrF F G (s : Int) (g : Int)) = w := ⟨_, rfl⟩
      obtain ⟨w2, hw2⟩ : ∃ w, sumAt U (atm F x.b (g : Int) F.length) = w := ⟨_, rfl⟩
      have hgp := hT.grp hne
      rw [hw1] at hst hmb hgp
      rw [hw2] at hst hab ⊢
      repeat' (first | refine go ?_ | intro _ | (apply cG; first | refine cT ?_ | refine cF ?_ | refine cS (fun _ => ?_) fun _ => ?_) | (apply gW; refine sW ?_) | (apply gI; refine sI ?_) | (apply gE; refine sE ?_) | (apply gP; refine sP ?_) | (apply gC; refine sC ?_) | (apply gD; refine sD ?_) | fail)
      refine O_d (dy_call ArgsI.pf (by first | exact rfl | trivial | (intro a b; rfl)) (CT.pull (i := 1) (by rfl) (Group_ct (t := T) (s := (s : Int)) (g := (g : Int))))) ?_; rintro _ _ ⟨_, ⟨rfl, rfl⟩, rfl⟩; refine O_n ?_
      rw [hgp]
      repeat' (first | refine go ?_ | intro _ | (apply cG; first | refine cT ?_ | refine cF ?_ | refine cS (fun _ => ?_) fun _ => ?_) | (apply gW; refine sW ?_) | (apply gI; refine sI ?_) | (apply gE; refine sE ?_) | (apply gP; refine sP ?_) | (apply gC; refine sC ?_) | (apply gD; refine sD ?_) | fail)
      exact E_round (g + 1) hgm (by omega) ⟨by rw [show ((g + 1 : Nat) : Int) = (g : Int) + 1 from rfl, hst]; rfl, rfl, trivial⟩ Sb
    obtain rfl : g = m := by omega
    rw [atm_all fun i hi => (hc.grp hgx hm hi).2, sumAt_allU hFl] at hab ⊢
    repeat' (first | refine go ?_ | intro _ | (apply cG; first | refine cT ?_ | refine cF ?_ | refine cS (fun _ => ?_) fun _ => ?_) | (apply gW; refine sW ?_) | (apply gI; refine sI ?_) | (apply gE; refine sE ?_) | (apply gP; refine sP ?_) | (apply gC; refine sC ?_) | (apply gD; refine sD ?_) | fail)
    refine O_d (dy_call ArgsI.pf (by first | exact rfl | trivial | (intro a b; rfl)) (CT.pull (i := 1) (by rfl) (Total_ct (t := T)))) ?_; rintro _ _ ⟨_, ⟨rfl, rfl⟩, rfl⟩; refine O_n ?_
    rw [hT.tot]
    repeat' (first | refine go ?_ | intro _ | (apply cG; first | refine cT ?_ | refine cF ?_ | refine cS (fun _ => ?_) fun _ => ?_) | (apply gW; refine sW ?_) | (apply gI; refine sI ?_) | (apply gE; refine sE ?_) | (apply gP; refine sP ?_) | (apply gC; refine sC ?_) | (apply gD; refine sD ?_) | fail)
    exact E_round (s + 1) hsl (by omega) ⟨rfl, trivial⟩ Sb
  repeat' (first | refine go ?_ | intro _ | (apply cG; first | refine cT ?_ | refine cF ?_ | refine cS (fun _ => ?_) fun _ => ?_) | (apply gW; refine sW ?_) | (apply gI; refine sI ?_) | (apply gE; refine sE ?_) | (apply gP; refine sP ?_) | (apply gC; refine sC ?_) | (apply gD; refine sD ?_) | fail)
  have hLl := lstF_len (k := around n 1048576) U.length
  have hLi := fun x hx => lstF_in (k := around n 1048576) (n := U.length) (x := x) hx
  have hLa := lstF_asc (k := around n 1048576) (n := U.length)
  refine O_d (dy_call ArgsI.pf (by first | exact rfl | trivial | (intro a b; rfl)) (rList_ct (t := ⟨p, A1, B1, C1, ca, cb, cc, U, F, xs⟩) ⟨.tail _ (.head _), .tail _ (.tail _ (.head _)), .tail _ (.tail _ (.tail _ (.head _))), .tail _ (.tail _ (.tail _ (.tail _ (.head _))))⟩ (by dsimp only; omega) ⟨hn1, hn2⟩)) ?_; rintro _ _ ⟨_, ⟨A2, c2, rfl, rfl⟩, rfl⟩; refine O_n ?_
  dsimp only
  obtain ⟨la, hla⟩ : ∃ la, lstF (around n 1048576) U.length = la := ⟨_, rfl⟩
  rw [hla] at hLl hLi hLa ⊢
  refine O_frz 0 ?_
  repeat' (first | refine go ?_ | intro _ | (apply cG; first | refine cT ?_ | refine cF ?_ | refine cS (fun _ => ?_) fun _ => ?_) | (apply gW; refine sW ?_) | (apply gI; refine sI ?_) | (apply gE; refine sE ?_) | (apply gP; refine sP ?_) | (apply gC; refine sC ?_) | (apply gD; refine sD ?_) | fail)
  refine C_ownnil 3 eI ?_
  refine C_loopS (κ := Nat × Option Addr × Nat × List Int) [false, false, false, false, false, false, false, false, false, false, false, false, false, false, false, false, true, true, false, false, false, false, false, false, false, false, false, false, false, false, false, false, false, false, false, false, false, false, false, false, false, false, false, false, false, false, false, false, false, false, false, false, false, false, false, false, false, false, false, false, false, false, false, false, false, false, false, false, false, false, false, false, false, false, false, false, false, false, false, false, false, false, false, false, false, false, false, false, false, false, false, false, false, false, false, true, true, true, true, true, true, true, true, true, true, true, true, true, true, true, true, true, false, false, false, false, false, false, false, false, false, false, false, false, false, false, false, false, false, false, false, false, false, false, false, false, false, false, false, false, false, false, false] (fun k => [(16, .slice k.2.1 k.2.2.2.length k.2.2.1), (17, .int .i64 (k.1 : Int))]) (fun k => [(0, own 3 eI (.slice k.2.1 k.2.2.2.length k.2.2.1) k.2.2.2)]) (fun k => k.1 ≤ U.length ∧ k.2.2.2 = (allL k.1).filter fun x => !memB la x) (fun k => U.length - k.1) (0, none, 0, []) ⟨Nat.zero_le _, rfl⟩ ⟨rfl, rfl, trivial⟩ ?_
  rintro ⟨i, A3, c3, rs⟩ u4 ⟨hi, hrs⟩
  dsimp only at hi hrs
  dsimp only
  ((try dsimp only); refine C_n ?_; (try simp only [Nat.reduceAdd, Nat.zero_add]))
  have hrl : rs.length ≤ i := by
    rw [hrs]
    have := List.length_filter_le (fun x => !memB la x) (allL i)
    unfold allL at this
    simp only [List.length_map, List.length_range] at this
    exact this
  by_cases hil : i < U.length
  · repeat' (first | refine go ?_ | intro _ | (apply cG; first | refine cT ?_ | refine cF ?_ | refine cS (fun _ => ?_) fun _ => ?_) | (apply gW; refine sW ?_) | (apply gI; refine sI ?_) | (apply gE; refine sE ?_) | (apply gP; refine sP ?_) | (apply gC; refine sC ?_) | (apply gD; refine sD ?_) | fail)
    refine O_d (dy_call ArgsI.pf (by first | exact rfl | trivial | (intro a b; rfl)) (Has_ct (l := la) (n := (i : Int)) (.inl (.tail _ (.head _))) (by omega))) ?_; rintro _ _ ⟨_, ⟨rfl, hLL⟩, rfl⟩; replace hLL := hLL.symm; subst hLL; refine O_n ?_
    cases hm : memB la (i : Int)
    · have hfs : (allL (i + 1)).filter (fun x => !memB la x) = rs ++ [(i : Int)] := by
        rw [allL_succ, List.filter_append, ← hrs, List.filter_cons_of_pos (by rw [hm]; rfl)]
        rfl
      repeat' (first | refine go ?_ | intro _ | (apply cG; first | refine cT ?_ | refine cF ?_ | refine cS (fun _ => ?_) fun _ => ?_) | (apply gW; refine sW ?_) | (apply gI; refine sI ?_) | (apply gE; refine sE ?_) | (apply gP; refine sP ?_) | (apply gC; refine sC ?_) | (apply gD; refine sD ?_) | fail)
      refine O_d (dy_lit1 (R := eI) (i : Int) (hcs := by rfl) (hel := fun _ _ _ => by rfl)) ?_; rintro _ _ ⟨_, rfl, rfl⟩; refine O_n ?_
      repeat' (first | refine go ?_ | intro _ | (apply cG; first | refine cT ?_ | refine cF ?_ | refine cS (fun _ => ?_) fun _ => ?_) | (apply gW; refine sW ?_) | (apply gI; refine sI ?_) | (apply gE; refine sE ?_) | (apply gP; refine sP ?_) | (apply gC; refine sC ?_) | (apply gD; refine sD ?_) | fail)
      rename_i A4 c4
      exact E_round (i + 1, A4, c4, rs ++ [(i : Int)]) ⟨hil, hfs.symm⟩ (by dsimp only; omega) ⟨by dsimp only; rw [List.length_append]; rfl, rfl, trivial⟩ (by dsimp only; rw [List.length_append]; exact Sb)
    · have hfs : (allL (i + 1)).filter (fun x => !memB la x) = rs := by
        rw [allL_succ, List.filter_append, ← hrs, List.filter_cons_of_neg (by rw [hm]; decide)]
        exact List.append_nil _
      repeat' (first | refine go ?_ | intro _ | (apply cG; first | refine cT ?_ | refine cF ?_ | refine cS (fun _ => ?_) fun _ => ?_) | (apply gW; refine sW ?_) | (apply gI; refine sI ?_) | (apply gE; refine sE ?_) | (apply gP; refine sP ?_) | (apply gC; refine sC ?_) | (apply gD; refine sD ?_) | fail)
      exact E_round (i + 1, A3, c3, rs) ⟨hil, hfs.symm⟩ (by dsimp only; omega) ⟨rfl, rfl, trivial⟩ Sb
  obtain rfl : i = U.length := by omega
  refine C_frz 0 ?_
  have hrsum := rest_sum (U := U) hLi hLa rfl
  rw [← hrs] at hrsum
  have hri : ∀ x ∈ rs, 0 ≤ x ∧ x < (U.length : Int) := fun x hx => by
    rw [hrs] at hx
    exact allL_mem.1 (List.mem_filter.1 hx).1
  have hra : rs.Pairwise (· < ·) := by
    rw [hrs]
    exact allL_asc.filter _
  have hca := covE_ok hLi hLa
  have hcr := covE_ok hri hra
  have hb1 := sumAt_bd hc.u hLi (Nat.le_refl _) (by omega)
  have hb2 := sumAt_bd hc.u hri (Nat.le_refl _) (by omega)
  repeat' (first | refine go ?_ | intro _ | (apply cG; first | refine cT ?_ | refine cF ?_ | refine cS (fun _ => ?_) fun _ => ?_) | (apply gW; refine sW ?_) | (apply gI; refine sI ?_) | (apply gE; refine sE ?_) | (apply gP; refine sP ?_) | (apply gC; refine sC ?_) | (apply gD; refine sD ?_) | fail)
  refine O_d (dy_call ArgsI.pf (by first | exact rfl | trivial | (intro a b; rfl)) (CT.pull (i := 2) (by rfl) (Atoms_ct (l := la) hT hc (by omega) (.tail _ (.head _)) (by omega) (by omega)))) ?_; rintro _ _ ⟨_, ⟨rfl, rfl⟩, rfl⟩; refine O_n ?_
  rw [hca, if_pos rfl]
  repeat' (first | refine go ?_ | intro _ | (apply cG; first | refine cT ?_ | refine cF ?_ | refine cS (fun _ => ?_) fun _ => ?_) | (apply gW; refine sW ?_) | (apply gI; refine sI ?_) | (apply gE; refine sE ?_) | (apply gP; refine sP ?_) | (apply gC; refine sC ?_) | (apply gD; refine sD ?_) | fail)
  refine O_d (dy_call ArgsI.pf (by first | exact rfl | trivial | (intro a b; rfl)) (Atoms_ct (l := rs) hT hc (by omega) (.head _) (by omega) (by omega))) ?_; rintro _ _ ⟨_, ⟨rfl, rfl⟩, rfl⟩; refine O_n ?_
  rw [hcr, if_pos rfl]
  repeat' (first | refine go ?_ | intro _ | (apply cG; first | refine cT ?_ | refine cF ?_ | refine cS (fun _ => ?_) fun _ => ?_) | (apply gW; refine sW ?_) | (apply gI; refine sI ?_) | (apply gE; refine sE ?_) | (apply gP; refine sP ?_) | (apply gC; refine sC ?_) | (apply gD; refine sD ?_) | fail)
  refine O_d (dy_call ArgsI.pf (by first | exact rfl | trivial | (intro a b; rfl)) (Total_ct (t := T))) ?_; rintro _ _ ⟨_, ⟨rfl, rfl⟩, rfl⟩; refine O_n ?_
  rw [hT.tot]
  repeat' (first | refine go ?_ | intro _ | (apply cG; first | refine cT ?_ | refine cF ?_ | refine cS (fun _ => ?_) fun _ => ?_) | (apply gW; refine sW ?_) | (apply gI; refine sI ?_) | (apply gE; refine sE ?_) | (apply gP; refine sP ?_) | (apply gC; refine sC ?_) | (apply gD; refine sD ?_) | fail)
  refine O_d (dy_call ArgsI.pf (by first | exact rfl | trivial | (intro a b; rfl)) (lives_ct)) ?_; rintro _ _ ⟨_, ⟨rfl, hLL⟩, rfl⟩; replace hLL := hLL.symm; subst hLL; refine O_n ?_
  repeat' (first | refine go ?_ | intro _ | (apply cG; first | refine cT ?_ | refine cF ?_ | refine cS (fun _ => ?_) fun _ => ?_) | (apply gW; refine sW ?_) | (apply gI; refine sI ?_) | (apply gE; refine sE ?_) | (apply gP; refine sP ?_) | (apply gC; refine sC ?_) | (apply gD; refine sD ?_) | fail)
  refine E_res1 (by rfl) (by rfl) ⟨rfl, rfl⟩ Sb
end
theorem SumsExact_any {v : Value} {li : List Int} {n : Int} {w : World} (s : St w w [rd eI v li]) (hl : li.length ≤ 9223372036854775807) (hr : ∀ n ∈ li, I64 n) (hn : I64 n) :
    Calls Try.prog 7 #[v, .int .i64 n] w fun e w' => e = .returned (.bool true) ∧ Below w.heap.size w w' :=
  ((SumsExact_ct (W0 := w) (.head _) hl hr hn).run w s).mono fun e w' h => by
    obtain ⟨v, L', rfl, ⟨rfl, rfl⟩, s⟩ := h
    exact ⟨rfl, s.below⟩
end Go.Proofs.Ytlmabajgnjiigaa
