/-
  The law SumsAnew.
-/
import Derived.Test.YtlmabajgnjiigaaMZG
namespace Go.Proofs.Ytlmabajgnjiigaa
open Go Go.RowKit
set_option linter.unusedVariables false
set_option linter.unusedSimpArgs false
set_option maxRecDepth 20000
set_option synthInstance.maxSize 100000
set_option synthInstance.maxHeartbeats 400000
theorem tdiv_bd {n d : Int} (hd : 1 ≤ d) (h1 : -9223372036854775808 ≤ n) (h2 : n ≤ 9223372036854775807) : -9223372036854775808 ≤ n.tdiv d ∧ n.tdiv d ≤ 9223372036854775807 := by
  by_cases h : 0 ≤ n
  · have h3 := Int.tdiv_nonneg (b := d) h (by omega)
    have h4 : n.tdiv d ≤ n := by rw [Int.tdiv_eq_ediv_of_nonneg h]; exact Int.ediv_le_self d h
    omega
  · have e : n.tdiv d = -((-n).tdiv d) := by rw [Int.neg_tdiv, Int.neg_neg]
    have h3 := Int.tdiv_nonneg (a := -n) (b := d) (by omega) (by omega)
    have h4 : (-n).tdiv d ≤ -n := by rw [Int.tdiv_eq_ediv_of_nonneg (by omega)]; exact Int.ediv_le_self d (by omega)
    omega
theorem sumL_70 : ∀ {U : List Int}, (∀ x ∈ U, x ≤ 70) → sumL U ≤ 70 * (U.length : Int)
  | [], _ => by simp [sumL]
  | a :: r, h => by
    have h1 := sumL_70 (U := r) fun x hx => h x (.tail _ hx)
    have h2 := h a (.head _)
    rw [sumL_cons, List.length_cons]
    omega
section
variable {W0 : World} {L : List HP}
theorem New_okN {n : Nat} {UA FA CA : Option Addr} {uc fc cc : Nat} {U F : List Int} {xs : List (SX Int)} {G : List (List Int)} (hn : U.length = n) (hU : rd eI (.slice UA n uc) U ∈ L) (hF : rd eI (.slice FA F.length fc) F ∈ L) (hX : rd (eSX eI) (.slice CA xs.length cc) xs ∈ L) (hxs : xs.map SX.b = G) (hUl : U.length ≤ 1000) (hFl : F.length ≤ 1000) (hGl : G.length ≤ 1000) (hGr : ∀ x ∈ G, x.length ≤ 1000) (hc : ChkT U F G) (hs : sumL U ≤ 1099511627776) :
    CT Try.prog 29 #[.slice UA n uc, .slice FA F.length fc, .agg #[.slice CA xs.length cc]] W0 L fun r L' => ∃ t : TT, TOk t U F G ∧ r = .tuple #[.pointer (some ⟨t.q, 0, none⟩), .int .i64 0] ∧ L' = tbl t :: L := by
  subst hn
  exact New_ok hU hF hX hxs hUl hFl hGl hGr hc hs
set_option maxHeartbeats 2000000 in
theorem SumsAnew_ct {v vo : Value} {li lo : List Int} {n : Int} (hv : rd eI v li ∈ L) (hl : li.length ≤ 9223372036854775807) (hr : ∀ n ∈ li, I64 n) (hvo : rd eI vo lo ∈ L) (hlo : lo.length ≤ 9223372036854775807) (hro : ∀ n ∈ lo, I64 n) (hn : I64 n) :
    CT Try.prog 8 #[v, vo, .int .i64 n] W0 L fun r L' => r = .bool true ∧ L' = L := by
  obtain ⟨hn1, hn2⟩ := hn
  refine CT_fact (fun w s => ((Src.sl (.inl hv) s).form)) ?_
  rintro ⟨A0, c0, rfl, hc0⟩
  refine CT_fact (fun w s => ((Src.sl (.inl hvo) s).form)) ?_
  rintro ⟨B0, d0, rfl, hd0⟩
  refine CT.sub ?_ (sub_dup hv)
  refine CT.sub ?_ (sub_dup (.tail _ hvo))
  refine CT_enter Try.func8 rfl ?_; (simp only [Try.ntmps8, List.size_toArray, List.length_cons, List.length_nil, Nat.reduceAdd, Nat.reduceSub, Array.replicate_succ, Array.replicate_zero, List.push_toArray, List.append_toArray, List.nil_append, List.cons_append])
  repeat' (first | refine go ?_ | intro _ | (apply cG; first | refine cT ?_ | refine cF ?_ | refine cS (fun _ => ?_) fun _ => ?_) | (apply gW; refine sW ?_) | (apply gI; refine sI ?_) | (apply gE; refine sE ?_) | (apply gP; refine sP ?_) | (apply gC; refine sC ?_) | (apply gD; refine sD ?_) | fail)
  refine O_d (dy_call ArgsI.pf (by first | exact rfl | trivial | (intro a b; rfl)) (rSome_ct (l := li) (.tail _ (.head _)) hr hl)) ?_; rintro _ _ ⟨_, ⟨t, G, rfl, ⟨hc, hxs, hU9, hG3, hu49⟩, rfl⟩, rfl⟩; refine O_n ?_
  obtain ⟨p, A1, B1, C1, ca, cb, cc, U, F, xs⟩ := t
  dsimp only at hc hxs hU9 hu49 ⊢
  have hs49 := sumL_49 hu49
  have hFl := hc.len
  have hxl : xs.length = G.length := by rw [← hxs, List.length_map]
  repeat' (first | refine go ?_ | intro _ | (apply cG; first | refine cT ?_ | refine cF ?_ | refine cS (fun _ => ?_) fun _ => ?_) | (apply gW; refine sW ?_) | (apply gI; refine sI ?_) | (apply gE; refine sE ?_) | (apply gP; refine sP ?_) | (apply gC; refine sC ?_) | (apply gD; refine sD ?_) | fail)
  refine O_d (dy_call ArgsI.pf (by first | exact rfl | trivial | (intro a b; rfl)) (made_ok (t := ⟨p, A1, B1, C1, ca, cb, cc, U, F, xs⟩) ⟨.head _, .tail _ (.head _), .tail _ (.tail _ (.head _)), .tail _ (.tail _ (.tail _ (.head _)))⟩ hxs (by dsimp only; omega) (by omega) hc (by dsimp only; omega))) ?_; rintro _ _ ⟨_, ⟨T, hT, rfl, rfl⟩, rfl⟩; refine O_n ?_
  dsimp only at hT
  repeat' (first | refine go ?_ | intro _ | (apply cG; first | refine cT ?_ | refine cF ?_ | refine cS (fun _ => ?_) fun _ => ?_) | (apply gW; refine sW ?_) | (apply gI; refine sI ?_) | (apply gE; refine sE ?_) | (apply gP; refine sP ?_) | (apply gC; refine sC ?_) | (apply gD; refine sD ?_) | fail)
  refine O_d (dy_lit0 eI rfl) ?_; rintro _ _ ⟨_, rfl, rfl⟩; refine O_n ?_
  repeat' (first | ((fail_if_success apply AtE); refine go ?_) | intro _ | (apply cG; first | refine cT ?_ | refine cF ?_ | refine cS (fun _ => ?_) fun _ => ?_) | (apply gW; refine sW ?_) | (apply gI; refine sI ?_) | (apply gE; refine sE ?_) | (apply gP; refine sP ?_) | (apply gC; refine sC ?_) | (apply gD; refine sD ?_) | fail)
  rename_i w1 A2 c2
  refine E_sub (S := own 3 eI (.slice A2 U.length c2) U :: tbl T :: cel p [.slice A1 U.length ca, .slice B1 F.length cb, .slice C1 xs.length cc] 32 :: rd eI (.slice A1 U.length ca) U :: rd eI (.slice B1 F.length cb) F :: rd (eSX eI) (.slice C1 xs.length cc) xs :: rd eI (.slice B0 lo.length d0) lo :: L) Sb ?_
  refine go ?_
  refine go ?_
  refine C_join (κ := TT × List Int) [false, false, false, false, false, false, true, false, false, false, false, true, true, true, true, true, false, false, false, false, false, false, false, false, false, false, false, false, false, false, false, false, false, false, false, false, false, false, false, false, false, false, false, false, false, false, false, false, false, true, true, true, true, true, true, true, true, true, true, true, true, true, true, true, true, true, true, true, true, true, true, true, true, true, true, true, true, true, true, true, true, true, true, true, true, true, true, true, true, true, true, true, true, true, true, true, true, true, true, true, true, true, true, true, true, true, true, true, true, true, true, true, true, true, true, true, true, true, true, true, false, false, false, false, false, false, false, false, false, false, false, false, false, false, false, false, false, false, false, false, false, false, false, false, false, false, false, false, false, false, false, false, false, false, false, false, false, false, false, false, false, false, false, false, false, false, false, false, false, false, false, false, false, false, false, false, false, false, false, false, false, false, false, false, false, false, false, false, false, false, false, false, false, false, false, false, false, false, false, false, false, false, false, false, false, false, false, false, false, false, false, false, false, false, false, false, false, false, false, false, false, false, false, false, false, false, false, false, false, false, false, false, false, false, false, false, false, false, false, false, false, false, false, false, false, false, false, false] (fun k => []) (fun k => [(0, own 3 eI (.slice A2 U.length c2) k.2), (1, tbl k.1)]) (fun k => k.1.q = T.q ∧ TOk k.1 k.2 F G ∧ ChkT k.2 F G ∧ (∀ x ∈ k.2, x ≤ 70) ∧ k.2.length = U.length) ?_ ?_
  · repeat' (first | refine go ?_ | intro _ | (apply cG; first | refine cT ?_ | refine cF ?_ | refine cS (fun _ => ?_) fun _ => ?_) | (apply gW; refine sW ?_) | (apply gI; refine sI ?_) | (apply gE; refine sE ?_) | (apply gP; refine sP ?_) | (apply gC; refine sC ?_) | (apply gD; refine sD ?_) | fail)
    refine C_loopS (κ := Nat × TT × List Int) [false, false, false, false, false, false, true, false, false, false, false, true, true, true, true, true, false, false, false, false, false, false, false, false, false, false, false, false, false, false, false, false, false, false, false, false, false, false, false, false, false, false, false, false, false, false, false, false, false, true, true, true, true, true, true, true, true, true, true, true, true, true, true, true, true, true, true, true, true, true, true, true, true, true, true, true, true, true, true, true, true, true, true, true, true, true, true, true, true, true, true, true, true, true, true, true, true, true, true, true, true, true, true, true, true, true, true, true, true, true, true, true, true, true, true, true, true, true, true, true, false, false, false, false, false, false, false, false, false, false, false, false, false, false, false, false, false, false, false, false, false, false, false, false, false, false, false, false, false, false, false, false, false, false, false, false, false, false, false, false, false, false, false, false, false, false, false, false, false, false, false, false, false, false, false, false, false, false, false, false, false, false, false, false, false, false, false, false, false, false, false, false, false, false, false, false, false, false, false, false, false, false, false, false, false, false, false, false, false, false, false, false, false, false, false, false, false, false, false, false, false, false, false, false, false, false, false, false, false, false, false, false, false, false, false, false, false, false, false, false, false, false, false, false, false, false, false, false] (fun k => [(11, .int .i64 (k.1 : Int))]) (fun k => [(0, own 3 eI (.slice A2 U.length c2) k.2.2), (1, tbl k.2.1)]) (fun k => k.1 ≤ 10 ∧ k.2.1.q = T.q ∧ TOk k.2.1 k.2.2 F G ∧ ChkT k.2.2 F G ∧ (∀ x ∈ k.2.2, x ≤ 70) ∧ k.2.2.length = U.length) (fun k => 10 - k.1) (0, T, U) ⟨Nat.zero_le _, rfl, hT, hc, fun x hx => by have := hu49 x hx; omega, rfl⟩ ⟨rfl, trivial⟩ ?_
    rintro ⟨i, T2, V⟩ u ⟨hi, hq, hT2, hc2, hV70, hVl⟩
    dsimp only at hi hq hT2 hc2 hV70 hVl
    dsimp only
    ((try dsimp only); refine C_n ?_; (try simp only [Nat.reduceAdd, Nat.zero_add]))
    by_cases h1 : (i : Int) < lo.length
    rotate_left
    · repeat' (first | refine go ?_ | intro _ | (apply cG; first | refine cT ?_ | refine cF ?_ | refine cS (fun _ => ?_) fun _ => ?_) | (apply gW; refine sW ?_) | (apply gI; refine sI ?_) | (apply gE; refine sE ?_) | (apply gP; refine sP ?_) | (apply gC; refine sC ?_) | (apply gD; refine sD ?_) | fail)
      exact E_join (T2, V) ⟨hq, hT2, hc2, hV70, hVl⟩ trivial Sb
    by_cases h2 : i < 10
    rotate_left
    · repeat' (first | refine go ?_ | intro _ | (apply cG; first | refine cT ?_ | refine cF ?_ | refine cS (fun _ => ?_) fun _ => ?_) | (apply gW; refine sW ?_) | (apply gI; refine sI ?_) | (apply gE; refine sE ?_) | (apply gP; refine sP ?_) | (apply gC; refine sC ?_) | (apply gD; refine sD ?_) | fail)
      exact E_join (T2, V) ⟨hq, hT2, hc2, hV70, hVl⟩ trivial Sb
    by_cases h3 : 0 < U.length
    rotate_left
    · repeat' (first | refine go ?_ | intro _ | (apply cG; first | refine cT ?_ | refine cF ?_ | refine cS (fun _ => ?_) fun _ => ?_) | (apply gW; refine sW ?_) | (apply gI; refine sI ?_) | (apply gE; refine sE ?_) | (apply gP; refine sP ?_) | (apply gC; refine sC ?_) | (apply gD; refine sD ?_) | fail)
      exact E_join (T2, V) ⟨hq, hT2, hc2, hV70, hVl⟩ trivial Sb
    rw [← hq]
    obtain ⟨z, hz⟩ : ∃ z, lo[i]? = some z := ⟨_, List.getElem?_eq_getElem (by omega)⟩
    have haz : At lo i z := ⟨hz⟩
    obtain ⟨hz1, hz2⟩ := hro z (List.mem_of_getElem? hz)
    obtain ⟨hq1, hq2⟩ := tdiv_bd (d := 16) (by decide) hz1 hz2
    have hqw : IntKind.i64.wrap (z.tdiv 16) = z.tdiv 16 := wr_i64 hq1 hq2
    repeat' (first | refine go ?_ | intro _ | (apply cG; first | refine cT ?_ | refine cF ?_ | refine cS (fun _ => ?_) fun _ => ?_) | (apply gW; refine sW ?_) | (apply gI; refine sI ?_) | (apply gE; refine sE ?_) | (apply gP; refine sP ?_) | (apply gC; refine sC ?_) | (apply gD; refine sD ?_) | fail)
    refine O_d (dy_call ArgsI.pf (by first | exact rfl | trivial | (intro a b; rfl)) (Around_ct (n := z) (most := (U.length : Int)) hz1 hz2 (by omega) (by omega))) ?_; rintro _ _ ⟨_, ⟨rfl, hLL⟩, rfl⟩; replace hLL := hLL.symm; subst hLL; refine O_n ?_
    obtain ⟨ha0, ha1⟩ := around_in (n := z) (most := (U.length : Int)) (by omega)
    obtain ⟨ar, har⟩ : ∃ ar, around z (U.length : Int) = ar := ⟨_, rfl⟩
    rw [har] at ha0 ha1 ⊢
    obtain ⟨k, rfl⟩ : ∃ k : Nat, ar = (k : Int) := ⟨ar.toNat, by omega⟩
    repeat' (first | refine go ?_ | intro _ | (apply cG; first | refine cT ?_ | refine cF ?_ | refine cS (fun _ => ?_) fun _ => ?_) | (apply gI; refine sI ?_) | (apply gE; refine sE ?_) | (apply gP; refine sP ?_) | (apply gC; refine sC ?_) | (apply gD; refine sD ?_) | fail)
    apply gW; refine sW (r := z.tdiv 16) ?_ ⟨by decide, hqw⟩
    repeat' (first | refine go ?_ | intro _ | (apply cG; first | refine cT ?_ | refine cF ?_ | refine cS (fun _ => ?_) fun _ => ?_) | (apply gW; refine sW ?_) | (apply gI; refine sI ?_) | (apply gE; refine sE ?_) | (apply gP; refine sP ?_) | (apply gC; refine sC ?_) | (apply gD; refine sD ?_) | fail)
    refine O_d (dy_call ArgsI.pf (by first | exact rfl | trivial | (intro a b; rfl)) (Around_ct (n := z.tdiv 16) (most := 70) hq1 hq2 (by decide) (by decide))) ?_; rintro _ _ ⟨_, ⟨rfl, hLL⟩, rfl⟩; replace hLL := hLL.symm; subst hLL; refine O_n ?_
    obtain ⟨hu0, hu1⟩ := around_in (n := z.tdiv 16) (most := 70) (by decide)
    obtain ⟨un, hun⟩ : ∃ un, around (z.tdiv 16) 70 = un := ⟨_, rfl⟩
    rw [hun] at hu0 hu1 ⊢
    obtain ⟨x, hx⟩ : ∃ x, V[k]? = some x := ⟨_, List.getElem?_eq_getElem (by omega)⟩
    have hax : At V k x := ⟨hx⟩
    have hxd : V.getD (k : Int).toNat 0 = x := by rw [Int.toNat_natCast, List.getD_eq_getElem?_getD, hx, Option.getD_some]
    have hxb := hc2.u x (List.mem_of_getElem? hx)
    have hs70 := sumL_70 hV70
    have hE : chgE V (k : Int) un = 0 := by
      unfold chgE
      rw [if_neg (by omega), if_neg (by omega), if_neg (by rw [hxd]; omega)]
    have hcu : chgU V (k : Int) un = V.set k un := by unfold chgU; rw [if_pos hE, Int.toNat_natCast]
    have hc3 := hc2.chg (a := (k : Int)) (u := un)
    repeat' (first | refine go ?_ | intro _ | (apply cG; first | refine cT ?_ | refine cF ?_ | refine cS (fun _ => ?_) fun _ => ?_) | (apply gW; refine sW ?_) | (apply gI; refine sI ?_) | (apply gE; refine sE ?_) | (apply gP; refine sP ?_) | (apply gC; refine sC ?_) | (apply gD; refine sD ?_) | fail)
    refine O_d (dy_call ArgsI.pf (by first | exact rfl | trivial | (intro a b; rfl)) (CT.pull (i := 1) (by rfl) (Change_ct (t := T2) (a := (k : Int)) (u := un) hT2 hc2 (by omega) (by omega) (by omega) (by omega)))) ?_; rintro _ _ ⟨_, ⟨T3, hq3, hT3, rfl, rfl⟩, rfl⟩; refine O_n ?_
    rw [hE]
    rw [hcu] at hT3 hc3
    have hV3 : ∀ x ∈ V.set k un, x ≤ 70 := fun x hx => by
      rcases List.mem_or_eq_of_mem_set hx with h | rfl
      · exact hV70 x h
      · omega
    have hl3 : (V.set k un).length = U.length := by rw [List.length_set]; exact hVl
    by_cases hux : un = x
    · have hN : chgN V G.length (k : Int) un = 0 := by
        unfold chgN
        rw [if_neg fun h => h.2 (by rw [hxd, hux])]
      rw [hN]
      repeat' (first | refine go ?_ | intro _ | (apply cG; first | refine cT ?_ | refine cF ?_ | refine cS (fun _ => ?_) fun _ => ?_) | (apply gW; refine sW ?_) | (apply gI; refine sI ?_) | (apply gE; refine sE ?_) | (apply gP; refine sP ?_) | (apply gC; refine sC ?_) | (apply gD; refine sD ?_) | fail)
      refine O_d (dy_storeE (f := Value.int .i64) (hf := fun _ => rfl) (n := U.length) (c := c2) un (hy := by rfl) (hj := by omega)) ?_; rintro _ _ ⟨rfl, rfl⟩; refine O_n ?_
      try simp only [List.set_cons_succ, List.set_cons_zero]
      repeat' (first | refine go ?_ | intro _ | (apply cG; first | refine cT ?_ | refine cF ?_ | refine cS (fun _ => ?_) fun _ => ?_) | (apply gW; refine sW ?_) | (apply gI; refine sI ?_) | (apply gE; refine sE ?_) | (apply gP; refine sP ?_) | (apply gC; refine sC ?_) | (apply gD; refine sD ?_) | fail)
      exact E_round (i + 1, T3, V.set k un) ⟨by omega, hq3, hT3, hc3, hV3, hl3⟩ (by dsimp only; omega) ⟨rfl, trivial⟩ Sb
    · have hN : chgN V G.length (k : Int) un = 1 + (G.length : Int) := by
        unfold chgN
        rw [if_pos ⟨hE, by rw [hxd]; exact fun e => hux e.symm⟩]
      rw [hN]
      repeat' (first | refine go ?_ | intro _ | (apply cG; first | refine cT ?_ | refine cF ?_ | refine cS (fun _ => ?_) fun _ => ?_) | (apply gW; refine sW ?_) | (apply gI; refine sI ?_) | (apply gE; refine sE ?_) | (apply gP; refine sP ?_) | (apply gC; refine sC ?_) | (apply gD; refine sD ?_) | fail)
      refine O_d (dy_storeE (f := Value.int .i64) (hf := fun _ => rfl) (n := U.length) (c := c2) un (hy := by rfl) (hj := by omega)) ?_; rintro _ _ ⟨rfl, rfl⟩; refine O_n ?_
      try simp only [List.set_cons_succ, List.set_cons_zero]
      repeat' (first | refine go ?_ | intro _ | (apply cG; first | refine cT ?_ | refine cF ?_ | refine cS (fun _ => ?_) fun _ => ?_) | (apply gW; refine sW ?_) | (apply gI; refine sI ?_) | (apply gE; refine sE ?_) | (apply gP; refine sP ?_) | (apply gC; refine sC ?_) | (apply gD; refine sD ?_) | fail)
      exact E_round (i + 1, T3, V.set k un) ⟨by omega, hq3, hT3, hc3, hV3, hl3⟩ (by dsimp only; omega) ⟨rfl, trivial⟩ Sb
  rintro ⟨T2, V⟩ u ⟨hq, hT2, hc2, hV70, hVl⟩
  dsimp only at hq hT2 hc2 hV70 hVl
  dsimp only
  ((try dsimp only); refine C_n ?_; (try simp only [Nat.reduceAdd, Nat.zero_add]))
  rw [← hq]
  refine C_frz 0 ?_
  have hs70 := sumL_70 hV70
  repeat' (first | refine go ?_ | intro _ | (apply cG; first | refine cT ?_ | refine cF ?_ | refine cS (fun _ => ?_) fun _ => ?_) | (apply gW; refine sW ?_) | (apply gI; refine sI ?_) | (apply gE; refine sE ?_) | (apply gP; refine sP ?_) | (apply gC; refine sC ?_) | (apply gD; refine sD ?_) | fail)
  refine C_draw (n := 99) [cel p [.slice A1 U.length ca, .slice B1 F.length cb, .slice C1 xs.length cc] 32] [(0, 1), (1, 1), (2, 1), (3, 1), (4, 1), (5, 1), (6, 1), (7, 1), (8, 1), (9, 1), (10, 0), (11, 1), (12, 1), (13, 1), (14, 1), (15, 1)] (by kernel_rfl) (by kernel_rfl) Sb ?_
  repeat' (first | refine go ?_ | intro _ | (apply cG; first | refine cT ?_ | refine cF ?_ | refine cS (fun _ => ?_) fun _ => ?_) | (apply gW; refine sW ?_) | (apply gI; refine sI ?_) | (apply gE; refine sE ?_) | (apply gP; refine sP ?_) | (apply gC; refine sC ?_) | (apply gD; refine sD ?_) | fail)
  have hGr : ∀ x ∈ G, x.length ≤ 1000 := fun x hx => by
    obtain ⟨s, hs⟩ := List.getElem?_of_mem hx
    have := (hc.g s x hs).1
    have := hc.many
    omega
  refine D_op rfl ?_; refine X_d (dy_call ArgsI.pf (by first | exact rfl | trivial | (intro a b; rfl)) (New_okN (U := V) (F := F) (xs := xs) hVl (.head _) (.tail _ (.tail _ (.tail _ (.tail _ (.head _))))) (.tail _ (.tail _ (.tail _ (.tail _ (.tail _ (.head _)))))) hxs (by omega) (by omega) (by omega) hGr hc2 (by omega))) ?_; rintro _ _ ⟨_, ⟨T4, hT4, rfl, rfl⟩, rfl⟩; refine ⟨(by first | exact .inl rfl | exact .inr Sb), D_n ?_⟩
  repeat' (first | refine go ?_ | intro _ | (apply cG; first | refine cT ?_ | refine cF ?_ | refine cS (fun _ => ?_) fun _ => ?_) | (apply gW; refine sW ?_) | (apply gI; refine sI ?_) | (apply gE; refine sE ?_) | (apply gP; refine sP ?_) | (apply gC; refine sC ?_) | (apply gD; refine sD ?_) | fail)
  refine O_d (dy_call ArgsI.pf (by first | exact rfl | trivial | (intro a b; rfl)) (Total_ct (t := T4))) ?_; rintro _ _ ⟨_, ⟨rfl, rfl⟩, rfl⟩; refine O_n ?_
  rw [hT4.tot]
  repeat' (first | refine go ?_ | intro _ | (apply cG; first | refine cT ?_ | refine cF ?_ | refine cS (fun _ => ?_) fun _ => ?_) | (apply gW; refine sW ?_) | (apply gI; refine sI ?_) | (apply gE; refine sE ?_) | (apply gP; refine sP ?_) | (apply gC; refine sC ?_) | (apply gD; refine sD ?_) | fail)
  refine O_d (dy_call ArgsI.pf (by first | exact rfl | trivial | (intro a b; rfl)) (CT.pull (i := 2) (by rfl) (Total_ct (t := T2)))) ?_; rintro _ _ ⟨_, ⟨rfl, rfl⟩, rfl⟩; refine O_n ?_
  rw [hT2.tot]
  repeat' (first | refine go ?_ | intro _ | (apply cG; first | refine cT ?_ | refine cF ?_ | refine cS (fun _ => ?_) fun _ => ?_) | (apply gW; refine sW ?_) | (apply gI; refine sI ?_) | (apply gE; refine sE ?_) | (apply gP; refine sP ?_) | (apply gC; refine sC ?_) | (apply gD; refine sD ?_) | fail)
  refine C_sub (S := tbl T2 :: tbl T4 :: cel p [.slice A1 U.length ca, .slice B1 F.length cb, .slice C1 xs.length cc] 32 :: rd eI (.slice A1 U.length ca) U :: rd eI (.slice B1 F.length cb) F :: rd (eSX eI) (.slice C1 xs.length cc) xs :: L) Sb ?_
  refine C_loopS (κ := Nat) [false, false, false, false, false, false, true, false, false, false, false, false, false, false, false, false, false, false, true, true, true, true, true, true, false, false, false, false, false, false, false, false, false, false, false, false, false, false, false, false, false, false, false, false, false, false, false, false, false, false, false, false, false, false, false, false, false, false, false, false, false, false, false, false, false, false, false, false, false, false, false, false, false, false, false, false, false, false, false, false, false, false, false, false, false, false, false, false, false, false, false, false, false, false, false, false, false, false, false, false, false, false, false, false, false, false, false, false, false, false, false, false, false, false, false, false, false, false, false, false, false, false, false, false, false, false, false, false, false, false, false, false, false, false, false, false, false, false, false, false, false, false, false, false, false, false, false, true, true, true, true, true, true, true, true, true, true, true, true, true, true, true, true, true, true, true, true, true, true, true, true, true, true, true, true, true, true, true, true, true, true, true, true, true, true, true, true, true, true, true, true, true, true, true, true, true, true, true, true, true, true, true, true, true, true, true, true, true, true, true, true, false, false, false, false, false, false, false, false, false, false, false, false, false, false, false, false, false, false, false, false, false, false, false, false, false, false, false, false, false, false, false, false, false, false, false, false, false] (fun k => [(18, .int .i64 (k : Int))]) (fun k => []) (fun k => k ≤ xs.length) (fun k => xs.length - k) 0 (Nat.zero_le _) ⟨rfl, trivial⟩ ?_
  rintro s u5 hs
  ((try dsimp only); refine C_n ?_; (try simp only [Nat.reduceAdd, Nat.zero_add]))
  by_cases hsl : s < xs.length
  · obtain ⟨x, hx⟩ : ∃ x, xs[s]? = some x := ⟨_, List.getElem?_eq_getElem (by omega)⟩
    have hax : At xs s x := ⟨hx⟩
    have hgx := getX hxs hx
    obtain ⟨m, hm, hmF, _⟩ := hc.cnt hgx
    have hxr := hGr _ (List.mem_of_getElem? hgx)
    refine C_sub (sub_peekX (.tail _ (.tail _ (.tail _ (.tail _ (.tail _ (.head _)))))) hx) ?_
    refine C_form (.head _) fun Ax cx hxv => ?_
    have hec : EncC (eSX eI) x [.slice Ax x.b.length cx] := ⟨fun m cs h => by rw [h.1, hxv]⟩
    rw [hxv]
    repeat' (first | refine go ?_ | intro _ | (apply cG; first | refine cT ?_ | refine cF ?_ | refine cS (fun _ => ?_) fun _ => ?_) | (apply gW; refine sW ?_) | (apply gI; refine sI ?_) | (apply gE; refine sE ?_) | (apply gP; refine sP ?_) | (apply gC; refine sC ?_) | (apply gD; refine sD ?_) | fail)
    refine C_loopS (κ := Nat) [false, false, false, false, false, false, true, false, false, false, false, false, false, false, false, false, false, false, false, true, true, true, true, true, false, false, false, false, false, false, false, false, false, false, false, false, false, false, false, false, false, false, false, false, false, false, false, false, false, false, false, false, false, false, false, false, false, false, false, false, false, false, false, false, false, false, false, false, false, false, false, false, false, false, false, false, false, false, false, false, false, false, false, false, false, false, false, false, false, false, false, false, false, false, false, false, false, false, false, false, false, false, false, false, false, false, false, false, false, false, false, false, false, false, false, false, false, false, false, false, false, false, false, false, false, false, false, false, false, false, false, false, false, false, false, false, false, false, false, false, false, false, false, false, false, false, false, false, false, false, false, false, false, false, false, false, true, true, true, true, true, true, true, true, true, true, true, true, true, true, true, true, true, true, true, true, true, true, true, true, true, true, true, true, true, true, true, true, true, true, true, true, true, true, true, true, true, true, true, true, true, true, true, true, true, true, true, true, true, true, true, false, false, false, false, false, false, false, false, false, false, false, false, false, false, false, false, false, false, false, false, false, false, false, false, false, false, false, false, false, false, false, false, false, false, false, false, false] (fun k => [(19, .int .i64 (k : Int))]) (fun k => []) (fun k => k ≤ x.b.length) (fun k => x.b.length - k) 0 (Nat.zero_le _) ⟨rfl, trivial⟩ ?_
    rintro f u6 hf
    ((try dsimp only); refine C_n ?_; (try simp only [Nat.reduceAdd, Nat.zero_add]))
    by_cases hfl : f < x.b.length
    · obtain ⟨z, hz⟩ : ∃ z, x.b[f]? = some z := ⟨_, List.getElem?_eq_getElem (by omega)⟩
      have haz : At x.b f z := ⟨hz⟩
      obtain ⟨hz0, hz1⟩ := (numF_mem hm).2 z (List.mem_of_getElem? hz)
      obtain ⟨g, rfl⟩ : ∃ g : Nat, z = (g : Int) := ⟨z.toNat, by omega⟩
      have hne := hc.some hgx hm (show g < m by omega)
      repeat' (first | refine go ?_ | intro _ | (apply cG; first | refine cT ?_ | refine cF ?_ | refine cS (fun _ => ?_) fun _ => ?_) | (apply gW; refine sW ?_) | (apply gI; refine sI ?_) | (apply gE; refine sE ?_) | (apply gP; refine sP ?_) | (apply gC; refine sC ?_) | (apply gD; refine sD ?_) | fail)
      refine O_d (dy_call ArgsI.pf (by first | exact rfl | trivial | (intro a b; rfl)) (CT.pull (i := 1) (by rfl) (Group_ct (t := T2) (s := (s : Int)) (g := (g : Int))))) ?_; rintro _ _ ⟨_, ⟨rfl, rfl⟩, rfl⟩; refine O_n ?_
      rw [hT2.grp hne]
      repeat' (first | refine go ?_ | intro _ | (apply cG; first | refine cT ?_ | refine cF ?_ | refine cS (fun _ => ?_) fun _ => ?_) | (apply gW; refine sW ?_) | (apply gI; refine sI ?_) | (apply gE; refine sE ?_) | (apply gP; refine sP ?_) | (apply gC; refine sC ?_) | (apply gD; refine sD ?_) | fail)
      refine O_d (dy_call ArgsI.pf (by first | exact rfl | trivial | (intro a b; rfl)) (CT.pull (i := 2) (by rfl) (Group_ct (t := T4) (s := (s : Int)) (g := (g : Int))))) ?_; rintro _ _ ⟨_, ⟨rfl, rfl⟩, rfl⟩; refine O_n ?_
      rw [hT4.grp hne]
      repeat' (first | refine go ?_ | intro _ | (apply cG; first | refine cT ?_ | refine cF ?_ | refine cS (fun _ => ?_) fun _ => ?_) | (apply gW; refine sW ?_) | (apply gI; refine sI ?_) | (apply gE; refine sE ?_) | (apply gP; refine sP ?_) | (apply gC; refine sC ?_) | (apply gD; refine sD ?_) | fail)
      exact E_round (f + 1) hfl (by omega) ⟨rfl, trivial⟩ Sb
    repeat' (first | refine go ?_ | intro _ | (apply cG; first | refine cT ?_ | refine cF ?_ | refine cS (fun _ => ?_) fun _ => ?_) | (apply gW; refine sW ?_) | (apply gI; refine sI ?_) | (apply gE; refine sE ?_) | (apply gP; refine sP ?_) | (apply gC; refine sC ?_) | (apply gD; refine sD ?_) | fail)
    exact E_round (s + 1) hsl (by omega) ⟨rfl, trivial⟩ Sb
  repeat' (first | refine go ?_ | intro _ | (apply cG; first | refine cT ?_ | refine cF ?_ | refine cS (fun _ => ?_) fun _ => ?_) | (apply gW; refine sW ?_) | (apply gI; refine sI ?_) | (apply gE; refine sE ?_) | (apply gP; refine sP ?_) | (apply gC; refine sC ?_) | (apply gD; refine sD ?_) | fail)
  have hLl := lstF_len (k := around n 1048576) U.length
  have hLi := fun x hx => lstF_in (k := around n 1048576) (n := U.length) (x := x) hx
  have hLa := lstF_asc (k := around n 1048576) (n := U.length)
  refine O_d (dy_call ArgsI.pf (by first | exact rfl | trivial | (intro a b; rfl)) (rList_ct (t := ⟨p, A1, B1, C1, ca, cb, cc, U, F, xs⟩) ⟨.tail _ (.tail _ (.head _)), .tail _ (.tail _ (.tail _ (.head _))), .tail _ (.tail _ (.tail _ (.tail _ (.head _)))), .tail _ (.tail _ (.tail _ (.tail _ (.tail _ (.head _)))))⟩ (by dsimp only; omega) ⟨hn1, hn2⟩)) ?_; rintro _ _ ⟨_, ⟨A5, c5, rfl, rfl⟩, rfl⟩; refine O_n ?_
  dsimp only
  obtain ⟨la, hla⟩ : ∃ la, lstF (around n 1048576) U.length = la := ⟨_, rfl⟩
  rw [hla] at hLl hLi hLa ⊢
  refine O_frz 0 ?_
  have hca : covE V.length la = 0 := covE_ok (by rw [hVl]; exact hLi) hLa
  repeat' (first | refine go ?_ | intro _ | (apply cG; first | refine cT ?_ | refine cF ?_ | refine cS (fun _ => ?_) fun _ => ?_) | (apply gW; refine sW ?_) | (apply gI; refine sI ?_) | (apply gE; refine sE ?_) | (apply gP; refine sP ?_) | (apply gC; refine sC ?_) | (apply gD; refine sD ?_) | fail)
  refine O_d (dy_call ArgsI.pf (by first | exact rfl | trivial | (intro a b; rfl)) (CT.pull (i := 1) (by rfl) (Atoms_ct (l := la) hT2 hc2 (by omega) (.head _) (by omega) (by omega)))) ?_; rintro _ _ ⟨_, ⟨rfl, rfl⟩, rfl⟩; refine O_n ?_
  rw [hca, if_pos rfl]
  repeat' (first | refine go ?_ | intro _ | (apply cG; first | refine cT ?_ | refine cF ?_ | refine cS (fun _ => ?_) fun _ => ?_) | (apply gW; refine sW ?_) | (apply gI; refine sI ?_) | (apply gE; refine sE ?_) | (apply gP; refine sP ?_) | (apply gC; refine sC ?_) | (apply gD; refine sD ?_) | fail)
  refine O_d (dy_call ArgsI.pf (by first | exact rfl | trivial | (intro a b; rfl)) (rList_ct (t := ⟨p, A1, B1, C1, ca, cb, cc, U, F, xs⟩) ⟨.tail _ (.tail _ (.tail _ (.head _))), .tail _ (.tail _ (.tail _ (.tail _ (.head _)))), .tail _ (.tail _ (.tail _ (.tail _ (.tail _ (.head _))))), .tail _ (.tail _ (.tail _ (.tail _ (.tail _ (.tail _ (.head _))))))⟩ (by dsimp only; omega) ⟨hn1, hn2⟩)) ?_; rintro _ _ ⟨_, ⟨A6, c6, rfl, rfl⟩, rfl⟩; refine O_n ?_
  dsimp only
  rw [hla]
  refine O_frz 0 ?_
  repeat' (first | refine go ?_ | intro _ | (apply cG; first | refine cT ?_ | refine cF ?_ | refine cS (fun _ => ?_) fun _ => ?_) | (apply gW; refine sW ?_) | (apply gI; refine sI ?_) | (apply gE; refine sE ?_) | (apply gP; refine sP ?_) | (apply gC; refine sC ?_) | (apply gD; refine sD ?_) | fail)
  refine O_d (dy_call ArgsI.pf (by first | exact rfl | trivial | (intro a b; rfl)) (CT.pull (i := 3) (by rfl) (Atoms_ct (l := la) hT4 hc2 (by omega) (.head _) (by omega) (by omega)))) ?_; rintro _ _ ⟨_, ⟨rfl, rfl⟩, rfl⟩; refine O_n ?_
  rw [hca, if_pos rfl]
  repeat' (first | refine go ?_ | intro _ | (apply cG; first | refine cT ?_ | refine cF ?_ | refine cS (fun _ => ?_) fun _ => ?_) | (apply gW; refine sW ?_) | (apply gI; refine sI ?_) | (apply gE; refine sE ?_) | (apply gP; refine sP ?_) | (apply gC; refine sC ?_) | (apply gD; refine sD ?_) | fail)
  refine O_d (dy_call ArgsI.pf (by first | exact rfl | trivial | (intro a b; rfl)) (lives_ct)) ?_; rintro _ _ ⟨_, ⟨rfl, hLL⟩, rfl⟩; replace hLL := hLL.symm; subst hLL; refine O_n ?_
  repeat' (first | refine go ?_ | intro _ | (apply cG; first | refine cT ?_ | refine cF ?_ | refine cS (fun _ => ?_) fun _ => ?_) | (apply gW; refine sW ?_) | (apply gI; refine sI ?_) | (apply gE; refine sE ?_) | (apply gP; refine sP ?_) | (apply gC; refine sC ?_) | (apply gD; refine sD ?_) | fail)
  refine E_res1 (by rfl) (by rfl) ⟨rfl, rfl⟩ Sb
end
theorem SumsAnew_any {v vo : Value} {li lo : List Int} {n : Int} {w : World} (s : St w w [rd eI v li, rd eI vo lo]) (hl : li.length ≤ 9223372036854775807) (hr : ∀ n ∈ li, I64 n) (hlo : lo.length ≤ 9223372036854775807) (hro : ∀ n ∈ lo, I64 n) (hn : I64 n) :
    Calls Try.prog 8 #[v, vo, .int .i64 n] w fun e w' => e = .returned (.bool true) ∧ Below w.heap.size w w' :=
  ((SumsAnew_ct (W0 := w) (.head _) hl hr (.tail _ (.head _)) hlo hro hn).run w s).mono fun e w' h => by
    obtain ⟨v, L', rfl, ⟨rfl, rfl⟩, s⟩ := h
    exact ⟨rfl, s.below⟩
end Go.Proofs.Ytlmabajgnjiigaa
