/-
  The law SumsAnew.
-/
import Derived.Test.YtlmabajgnjiigaaMZG
namespace Go.Proofs.Ytlmabajgnjiigaa
open Go Go.RowKit
set_option linter.unusedVariables false
set_option linter.unusedSimpArgs false
set_option maxRecDepth 20000
set_option synthInstance.maxSize 100000
set_option synthInstance.maxHeartbeats 400000
theorem tdiv_bd {n d : Int} (hd : 1 ≤ d) (h1 : -9223372036854775808 ≤ n) (h2 : n ≤ 9223372036854775807) : -9223372036854775808 ≤ n.tdiv d ∧ n.tdiv d ≤ 9223372036854775807 := by
  by_cases h : 0 ≤ n
  · have h3 := Int.tdiv_nonneg (b := d) h (by omega)
    have h4 : n.tdiv d ≤ n := by rw [Int.tdiv_eq_ediv_of_nonneg h]; exact Int.ediv_le_self d h
    omega
  · have e : n.tdiv d = -((-n).tdiv d) := by rw [Int.neg_tdiv, Int.neg_neg]
    have h3 := Int.tdiv_nonneg (a := -n) (b := d) (by omega) (by omega)
    have h4 : (-n).tdiv d ≤ -n := by rw [Int.tdiv_eq_ediv_of_nonneg (by omega)]; exact Int.ediv_le_self d (by omega)
    omega
theorem sumL_70 : ∀ {U : List Int}, (∀ x ∈ U, x ≤ 70) → sumL U ≤ 70 * (U.length : Int)
  | [], _ => by simp [sumL]
  | a :: r, h => by
    have h1 := sumL_70 (U := r) fun x hx => h x (.tail _ hx)
    have h2 := h a (.head _)
    rw [sumL_cons, List.length_cons]
    omega
section
variable {W0 : World} {L : List HP}
theorem New_okN {n : Nat} {UA FA CA : Option Addr} {uc fc cc : Nat} {U F : List Int} {xs : List (SX Int)} {G : List (List Int)} (hn : U.length = n) (hU : rd eI (.slice UA n uc) U ∈ L) (hF : rd eI (.slice FA F.length fc) F ∈ L) (hX : rd (eSX eI) (.slice CA xs.length cc) xs ∈ L) (hxs : xs.map SX.b = G) (hUl : U.length ≤ 1000) (hFl : F.length ≤ 1000) (hGl : G.length ≤ 1000) (hGr : ∀ x ∈ G, x.length ≤ 1000) (hc : ChkT U F G) (hs : sumL U ≤ 1099511627776) :
    CT Try.prog 29 #[.slice UA n uc, .slice FA F.length fc, .agg #[.slice CA xs.length cc]] W0 L fun r L' => ∃ t : TT, TOk t U F G ∧ r = .tuple #[.pointer (some ⟨t.q, 0, none⟩), .int .i64 0] ∧ L' = tbl t :: L := by
  subst hn
  exact New_ok hU hF hX hxs hUl hFl hGl hGr hc hs
set_option maxHeartbeats 2000000 in
theorem SumsAnew_ct {v vo : Value} {li lo : List Int} {n : Int} (hv : rd eI v li ∈ L) (hl : li.length ≤ 9223372036854775807) (hr : ∀ n ∈ li, I64 n) (hvo : rd eI vo lo ∈ L) (hlo : lo.length ≤ 9223372036854775807) (hro : ∀ n ∈ lo, I64 n) (hn : I64 n) :
    CT Try.prog 8 #[v, vo, .int .i64 n] W0 L fun r L' => r = .bool true ∧ L' = L := by
  obtain ⟨hn1, hn2⟩ := hn
  refine CT_fact (fun w s => ((Src.sl (.inl hv) s).form)) ?_
  rintro ⟨A0, c0, rfl, hc0⟩
  refine CT_fact (fun w s => ((Src.sl (.inl hvo) s).form)) ?_
  rintro ⟨B0, d0, rfl, hd0⟩
  refine CT.sub ?_ (sub_dup hv)
  refine CT.sub ?_ (sub_dup (.tail _ hvo))
  refine CT_enter Try.func8 rfl ?_; (simp only [Try.ntmps8, List.size_toArray, List.length_cons, List.length_nil, Nat.reduceAdd, Nat.reduceSub, Array.replicate_succ, Array.replicate_zero, List.push_toArray, List.append_toArray, List.nil_append, List.cons_append])
  repeat' (first | refine go ?_ | intro _ | (apply cG; first | refine cT ?_ | refine cF ?_ | refine cS (fun _ => ?_) fun _ => ?_) | (apply gW; refine sW ?_) | (apply gI; refine sI ?_) | (apply gE; refine sE ?_) | (apply gP; refine sP ?_) | (apply gC; refine sC ?_) | (apply gD; refine sD ?_) | fail)
  refine O_d (dy_call ArgsI.pf (by first | exact rfl | trivial | (intro a b; rfl)) (rSome_ct (l := li) (.tail _ (.head _)) hr hl)) ?_; rintro _ _ ⟨_, ⟨t, G, rfl, ⟨hc, hxs, hU9, hG3, hu49⟩, rfl⟩, rfl⟩; refine O_n ?_
  obtain ⟨p, A1, B1, C1, ca, cb, cc, U, F, xs⟩ := t
  dsimp only at hc hxs hU9 hu49 ⊢
  have hs49 := sumL_49 hu49
  have hFl := hc.len
  have hxl : xs.length = G.length := by rw [← hxs, List.length_map]
  repeat' (first | refine go ?_ | intro _ | (apply cG; first | refine cT ?_ | refine cF ?_ | refine cS (fun _ => ?_) fun _ => ?_) | (apply gW; refine sW ?_) | (apply gI; refine sI ?_) | (apply gE; refine sE ?_) | (apply gP; refine sP ?_) | (apply gC; refine sC ?_) | (apply gD; refine sD ?_) | fail)
  refine O_d (dy_call ArgsI.pf (by first | exact rfl | trivial | (intro a b; rfl)) (made_ok (t := ⟨p, A1, B1, C1, ca, cb, cc, U, F, xs⟩) ⟨.head _, .tail _ (.head _), .tail _ (.tail _ (.head _)), .tail _ (.tail _ (.tail _ (.head _)))⟩ hxs (by dsimp only; omega) (by omega) hc (by dsimp only; omega))) ?_; rintro _ _ ⟨_, ⟨T, hT, rfl, rfl⟩, rfl⟩; refine O_n ?_
  dsimp only at hT
  repeat' (first | refine go ?_ | intro _ | (apply cG; first | refine cT ?_ | refine cF ?_ | refine cS (fun _ => ?_) fun _ => ?_) | (apply gW; refine sW ?_) | (apply gI; refine sI ?_) | (apply gE; refine sE ?_) | (apply gP; refine sP ?_) | (apply gC; refine sC ?_) | (apply gD; refine sD ?_) | fail)
  refine O_d (dy_lit0 eI rfl) ?_; rintro _ _ ⟨_, rfl, rfl⟩; refine O_n ?_
  repeat' (first | ((fail_if_success apply AtE); refine go ?_) | intro _ | (apply cG; first | refine cT ?_ | refine cF ?_ | refine cS (fun _ => ?_) fun _ => ?_) | (apply gW; refine sW ?_) | (apply gI; refine sI ?_) | (apply gE; refine sE ?_) | (apply gP; refine sP ?_) | (apply gC; refine sC ?_) | (apply gD; refine sD ?_) | fail)
  rename_i w1 A2 c2
  refine E_sub (S := own 3 eI (.slice A2 U.length c2) U :: tbl T :: cel p [.slice A1 U.length ca, .slice B1 F.length cb, .slice C1 xs.length cc] 32 :: rd eI (.slice A1 U.length ca) U :: rd eI (.slice B1 F.length cb) F :: rd (eSX eI) (.slice C1 xs.length cc) xs :: rd eI (.slice B0 lo.length d0) lo :: L) Sb ?_
  refine go ?_
  refine go ?_
  refine C_join (κ := TT × List Int) [false, false, false, false, false, false, true, false, false, false, false, true, true, true, true, true, false, false, false, false, false, false, false, false, false, false, false, false, false, false, false, false, false, false, false, false, false, false, false, false, false, false, false, false, false, false, false, false, false, true, true, true, true, true, true, true, true, true, true, true, true, true, true, true, true, true, true, true, true, true, true, true, true, true, true, true, true, true, true, true, true, true, true, true, true, true, true, true, true, true, true, true, true, true, true, true, true, true, true, true, true, true, true, true, true, true, true, true, true, true, true, true, true, true, true, true, true, true, true, true, false, false, false, false, false, false, false, false, false, false, false, false, false, false, false, false, false, false, false, false, false, false, false, false, false, false, false, false, false, false, false, false, false, false, false, false, false, false, false, false, false, false, false, false, false, false, false, false, false, false, false, false, false, false, false, false, false, false, false, false, false, false, false, false, false, false, false, false, false, false, false, false, false, false, false, false, false, false, false, false, false, false, false, false, false, false, false, false, false, false, false, false, false, false, false, false, false, false, false, false, false, false, false, false, false, false, false, false, false, false, false, false, false, false, false, false, false, false, false, false, false, false, false, false, false, false, false, false] (fun k => []) (fun k => [(0, own 3 eI (.slice A2 U.length c2) k.2), (1, tbl k.1)]) (fun k => k.1.q = T.q ∧ TOk k.1 k.2 F G ∧ ChkT k.2 F G ∧ (∀ x ∈ k.2, x ≤ 70) ∧ k.2.length = U.length) ?_ ?_
  · repeat' (first | refine go ?_ | intro _ | (apply cG; first | refine cT ?_ | refine cF ?_ | refine cS (fun _ => ?_) fun _ => ?_) | (apply gW; refine sW ?_) | (apply gI; refine sI ?_) | (apply gE; refine sE ?_) | (apply gP; refine sP ?_) | (apply gC; refine sC ?_) | (apply gD; refine sD ?_) | fail)
    refine C_loopS (κ := Nat × TT × List Int) [false, false, false, false, false, false, true, false, false, false, false, true, true, true, true, true, false, false, false, false, false, false, false, false, false, false, false, false, false, false, false, false, false, false, false, false, false, false, false, false, false, false, false, false, false, false, false, false, false, true, true, true, true, true, true, true, true, true, true, true, true, true, true, true, true, true, true, true, true, true, true, true, true, true, true, true, true, true, true, true, true, true, true, true, true, true, true, true, true, true, true, true, true, true, true, true, true, true, true, true, true, true, true, true, true, true, true, true, true, true, true, true, true, true, true, true, true, true, true, true, false, false, false, false, false, false, false, false, false, false, false, false, false, false, false, false, false, false, false, false, false, false, false, false, false, false, false, false, false, false, false, false, false, false, false, false, false, false, false, false, false, false, false, false, false, false, false, false, false, false, false, false, false, false, false, false, false, false, false, false, false, false, false, false, false, false, false, false, false, false, false, false, false, false, false, false, false, false, false, false, false, false, false, false, false, false, false, false, false, false, false, false, false, false, false, false, false, false, false, false, false, false, false, false, false, false, false, false, false, false, false, false, false, false, false, false, false, false, false, false, false, false, false, false, false, false, false, false] (fun k => [(11, .int .i64 (k.1 : Int))]) (fun k => [(0, own 3 eI (.slice A2 U.length c2) k.2.2), (1, tbl k.2.1)]) (fun k => k.1 ≤ 10 ∧ k.2.1.q = T.q ∧ TOk k.2.1 k.2.2 F G ∧ ChkT k.2.2 F G ∧ (∀ x ∈ k.2.2, x ≤ 70) ∧ k.2.2.length = U.length) (fun k => 10 - k.1) (0, T, U) ⟨Nat.zero_le _, rfl, hT, hc, fun x hx => by have := hu49 x hx; omega, rfl⟩ ⟨rfl, trivial⟩ ?_
    rintro ⟨i, T2, V⟩ u ⟨hi, hq, hT2, hc2, hV70, hVl⟩
    dsimp only at hi hq hT2 hc2 hV70 hVl
    dsimp only
    ((try dsimp only); refine C_n ?_; (try simp only [Nat.reduceAdd, Nat.zero_add]))
    by_cases h1 : (i : Int) < lo.length
    rotate_left
    · repeat' (first | refine go ?_ | intro _ | (apply cG; first | refine cT ?_ | refine cF ?_ | refine cS (fun _ => ?_) fun _ => ?_) | (apply gW; refine sW ?_) | (apply gI; refine sI ?_) | (apply gE; refine sE ?_) | (apply gP; refine sP ?_) | (apply gC; refine sC ?_) | (apply gD; refine sD ?_) | fail)
      exact E_join (T2, V) ⟨hq, hT2, hc2, hV70, hVl⟩ trivial Sb
    by_cases h2 : i < 10
    rotate_left
    · repeat' (first | refine go ?_ | intro _ | (apply cG; first | refine cT ?_ | refine cF ?_ | refine cS (fun _ => ?_) fun _ => ?_) | (apply gW; refine sW ?_) | (apply gI; refine sI ?_) | (apply gE; refine sE ?_) | (apply gP; refine sP ?_) | (apply gC; refine sC ?_) | (apply gD; refine sD ?_) | fail)
      exact E_join (T2, V) ⟨hq, hT2, hc2, hV70, hVl⟩ trivial Sb
    by_cases h3 : 0 < U.length
    rotate_left
    · repeat' (first | refine go ?_ | intro _ | (apply cG; first | refine cT ?_ | refine cF ?_ | refine cS (fun _ => ?_) fun _ => ?_) | (apply gW; refine sW ?_) | (apply gI; refine sI ?_) | (apply gE; refine sE ?_) | (apply gP; refine sP ?_) | (apply gC; refine sC ?_) | (apply gD; refine sD ?_) | fail)
      exact E_join (T2, V) ⟨hq, hT2, hc2, hV70, hVl⟩ trivial Sb
    rw [← hq]
    obtain ⟨z, hz⟩ : ∃ z, lo[i]? = some z := ⟨_, List.getElem?_eq_getElem (by omega)⟩
    have haz : At lo i z := ⟨hz⟩
    obtain ⟨hz1, hz2⟩ := hro z (List.mem_of_getElem? hz)
    obtain ⟨hq1, hq2⟩ := tdiv_bd (d := 16) (by decide) hz1 hz2
    have hqw : IntKind.i64.wrap (z.tdiv 16) = z.tdiv 16 := wr_i64 hq1 hq2
    repeat' (first | refine go ?_ | intro _ | (apply cG; first | refine cT ?_ | refine cF ?_ | refine cS (fun _ => ?_) fun _ => ?_) | (apply gW; refine sW ?_) | (apply gI; refine sI ?_) | (apply gE; refine sE ?_) | (apply gP; refine sP ?_) | (apply gC; refine sC ?_) | (apply gD; refine sD ?_) | fail)
    refine O_d (dy_call ArgsI.pf (by first | exact rfl | trivial | (intro a b; rfl)) (Around_ct (n := z) (most := (U.length : Int)) hz1 hz2 (by omega) (by omega))) ?_; rintro _ _ ⟨_, ⟨rfl, hLL⟩, rfl⟩; replace hLL := hLL.symm; subst hLL; refine O_n ?_
    obtain ⟨ha0, ha1⟩ := around_in (n := z) (most := (U.length : Int)) (by omega)
    obtain ⟨ar, har⟩ : ∃ ar, around z (U.length : Int) = ar := ⟨_, rfl⟩
    rw [har] at ha0 ha1 ⊢
    obtain ⟨k, rfl⟩ : ∃ k : Nat, ar = (k : Int) := ⟨ar.toNat, by omega⟩
    repeat' (first | refine go ?_ | intro _ | (apply cG; first | refine cT ?_ | refine cF ?_ | refine cS (fun _ => ?_) fun _ => ?_) | (apply gI; refine sI ?_) | (apply gE; refine sE ?_) | (apply gP; refine sP ?_) | (apply gC; refine sC ?_) | (apply gD; refine sD ?_) | fail)
    apply gW; refine sW (r := z.tdiv 16) ?_ ⟨by decide, hqw⟩
    repeat' (first | refine go ?_ | intro _ | (apply cG; first | refine cT ?_ | refine cF ?_ | refine cS (fun _ => ?_) fun _ => ?_) | (apply gW; refine sW ?_) | (apply gI; refine sI ?_) | (apply gE; refine sE ?_) | (apply gP; refine sP ?_) | (apply gC; refine sC ?_) | (apply gD; refine sD ?_) | fail)
    refine O_d (dy_call ArgsI.pf (by first | exact rfl | trivial | (intro a b; rfl)) (Around_ct (n := z.tdiv 16) (most := 70) hq1 hq2 (by decide) (by decide))) ?_; rintro _ _ ⟨_, ⟨rfl, hLL⟩, rfl⟩; replace hLL := hLL.symm; subst hLL; refine O_n ?_
    obtain ⟨hu0, hu1⟩ := around_in (n := z.tdiv 16) (most := 70) (by decide)
    obtain ⟨un, hun⟩ : ∃ un, around (z.tdiv 16) 70 = un := ⟨_, rfl⟩
    rw [hun] at hu0 hu1 ⊢
    obtain ⟨x, hx⟩ : ∃ x, V[k]? = some x := ⟨_, List.getElem?_eq_getElem (by omega)⟩
    have hax : At V k x := ⟨hx⟩
    have hxd : V.getD (k : Int).toNat 0 = x := by rw [Int.toNat_natCast, List.getD_eq_getElem?_getD, hx, Option.getD_some]
    have hxb := hc2.u x (List.mem_of_getElem? hx)
    have hs70 := sumL_70 hV70
    have hE : chgE V (k : Int) un = 0 := by
      unfold chgE
      rw [if_neg (by omega), if_neg (by omega), if_neg (by rw [hxd]; omega)]
    have hcu : chgU V (k : Int) un = V.set k un := by unfold chgU; rw [if_pos hE, Int.toNat_natCast]
    have hc3 := hc2.chg (a := (k : Int)) (u := un)
    repeat' (first | refine go ?_ | intro _ | (apply cG; first | refine cT ?_ | refine cF ?_ | refine cS (fun _ => ?_) fun _ => ?_) | (apply gW; refine sW ?_) | (apply gI; refine sI ?_) | (apply gE; refine sE ?_) | (apply gP; refine sP ?_) | (apply gC; refine sC ?_) | (apply gD; refine sD ?_) | fail)
    refine O_d (dy_call ArgsI.pf (by first | exact rfl | trivial | (intro a b; rfl)) (CT.pull (i := 1) (by rfl) (Change_ct (t := T2) (a := (k : Int)) (u := un) hT2 hc2 (by omega) (by omega) (by omega) (by omega)))) ?_; rintro _ _ ⟨_, ⟨T3, hq3, hT3, rfl, rfl⟩, rfl⟩; refine O_n ?_
    rw [hE]
    rw [hcu] at hT3 hc3
    have hV3 : ∀ x ∈ V.set k un, x ≤ 70 := fun x hx => by
      rcases List.mem_or_eq_of_mem_set hx with h | rfl
      · exact hV70 x h
      · omega
    have hl3 : (V.set k un).length = U.length := by rw [List.length_set]; exact hVl
    by_cases hux : un = x
    · have hN : chgN V G.length (k : Int) un = 0 := by
        unfold chgN
        rw [if_neg fun h => h.2 (by rw [hxd, hux])]
      rw [hN]
      repeat' (first | refine go ?_ | intro _ | (apply cG; first | refine cT ?_ | refine cF ?_ | refine cS (fun _ => ?_) fun _ => ?_) | (apply gW; refine sW ?_) | (apply gI; refine sI ?_) | (apply gE; refine sE ?_) | (apply gP; refine sP ?_) | (apply gC; refine sC ?_) | (apply gD; refine sD ?_) | fail)
      refine O_d (dy_storeE (f := Value.int .i64) (hf := fun _ => rfl) (n := U.length) (c := c2) un (hy := by rfl) (hj := by omega)) ?_; rintro _ _ ⟨rfl, rfl⟩; refine O_n ?_
      try simp only [List.set_cons_succ, List.set_cons_zero]
      repeat' (first | refine go ?_ | intro _ | (apply cG; first | refine cT ?_ | refine cF ?_ | refine cS (fun _ => ?_) fun _ => ?_) | (apply gW; refine sW ?_) | (apply gI; refine sI ?_) | (apply gE; refine sE ?_) | (apply gP; refine sP ?_) | (apply gC; refine sC ?_) | (apply gD; refine sD ?_) | fail)
      exact E_round (i + 1, T3, V.set k un) ⟨by omega, hq3, hT3, hc3, hV3, hl3⟩ (by dsimp only; omega) ⟨rfl, trivial⟩ Sb
    · have hN : chgN V G.length (k : Int) un = 1 + (G.length : Int) := by
        unfold chgN
        rw [if_pos ⟨hE, by rw [hxd]; exact fun e => hux e.symm⟩]
      rw [hN]
      repeat' (first | refine go ?_ | intro _ | (apply cG; first | refine cT ?_ | refine cF ?_ | refine cS (fun _ => ?_) fun _ => ?_) | (apply gW; refine sW ?_) | (apply gI; refine sI ?_) | (apply gE; refine sE ?_) | (apply gP; refine sP ?_) | (apply gC; refine sC ?_) | (apply gD; refine sD ?_) | fail)
      refine O_d (dy_storeE (f := Value.int .i64) (hf := fun _ => rfl) (n := U.length) (c := c2) un (hy := by rfl) (hj := by omega)) ?_; rintro _ _ ⟨rfl, rfl⟩; refine O_n ?_
      try simp only [List.set_cons_succ, List.set_cons_zero]
      repeat' (first | refine go ?_ | intro _ | (apply cG; first | refine cT ?_ | refine cF ?_ | refine cS (fun _ => ?_) fun _ => ?_) | (apply gW; refine sW ?_) | (apply gI; refine sI ?_) | (apply gE; refine sE ?_) | (apply gP; refine sP ?_) | (apply gC; refine sC ?_) | (apply gD; refine sD ?_) | fail)
      exact E_round (i + 1, T3, V.set k un) ⟨by omega, hq3, hT3, hc3, hV3, hl3⟩ (by dsimp only; omega) ⟨rfl, trivial⟩ Sb
  rintro ⟨T2, V⟩ u ⟨hq, hT2, hc2, hV70, hVl⟩
  dsimp only at hq hT2 hc2 hV70 hVl
  dsimp only
  ((try dsimp only); refine C_n ?_; (try simp only [Nat.reduceAdd, Nat.zero_add]))
  rw [← hq]
  refine C_frz 0 ?_
  have hs70 := sumL_70 hV70
  repeat' (first | refine go ?_ | intro _ | (apply cG; first | refine cT ?_ | refine cF ?_ | refine cS (fun _ => ?_) fun _ => ?_) | (apply gW; refine sW ?_) | (apply gI; refine sI ?_) | (apply gE; refine sE ?_) | (apply gP; refine sP ?_) | (apply gC; refine sC ?_) | (apply gD; refine sD ?_) | fail)
  refine C_draw (n := 99) [cel p [.slice A1 U.length ca, .slice B1 F.length cb, .slice C1 xs.length cc] 32] [(0, 1), (1, 1), (2, 1), (3, 1), (4, 1), (5, 1), (6, 1), (7, 1), (8, 1), (9, 1), (10, 0), (11, 1), (12, 1), (13, 1), (14, 1), (15, 1)] (by kernel_rfl) (by kernel_rfl) Sb ?_
  repeat' (first | refine go ?_ | intro _ | (apply cG; first | refine cT ?_ | refine cF ?_ | refine cS (fun _ => ?_) fun _ => ?_) | (apply gW; refine sW ?_) | (apply gI; refine sI ?_) | (apply gE; refine sE ?_) | (apply gP; refine sP ?_) | (apply gC; refine sC ?_) | (apply gD; refine sD ?_) | fail)
  have hGr : ∀ x ∈ G, x.length ≤ 1000 := fun x hx => by
    obtain ⟨s, hs⟩ := List.getElem?_of_mem hx
    have := (hc.g s x hs).1
    have := hc.many
    omega
  refine D_op rfl ?_; refine X_d (dy_call ArgsI.pf (by first | exact rfl | trivial | (intro a b; rfl)) (New_okN (U := V) (F := F) (xs := xs) hVl (.head _) (.tail _ (.tail _ (.tail _ (.tail _ (.head _))))) (.tail _ (.tail _ (.tail _ (.tail _ (.tail _ (.head _)))))) hxs (by omega) (by omega) (by omega) hGr hc2 (by omega))) ?_; rintro _ _ ⟨_, ⟨T4, hT4, rfl, rfl⟩, rfl⟩; refine ⟨(by first | exact .inl rfl | exact .inr Sb), D_n ?_⟩
  repeat' (first | refine go ?_ | intro _ | (apply cG; first | refine cT ?_ | refine cF ?_ | refine cS (fun _ => ?_) fun _ => ?_) | (apply gW; refine sW ?_) | (apply gI; refine sI ?_) | (apply gE; refine sE ?_) | (apply gP; refine sP ?_) | (apply gC; refine sC ?_) | (apply gD; refine sD ?_) | fail)
  refine O_d (dy_call ArgsI.pf (by first | exact rfl | trivial | (intro a b; rfl)) (Total_ct (t := T4))) ?_; rintro _ _ ⟨_, ⟨rfl, rfl⟩, rfl⟩; refine O_n ?_
  rw [hT4.tot]
  repeat' (first | refine go ?_ | intro _ | (apply cG; first | refine cT ?_ | refine cF ?_ | refine cS (fun _ => ?_) fun _ => ?_) | (apply gW; refine sW ?_) | (apply gI; refine sI ?_) | (apply gE; refine sE ?_) | (apply gP; refine sP ?_) | (apply gC; refine sC ?_) | (apply gD; refine sD ?_) | fail)
  refine O_d (dy_call ArgsI.pf (by first | exact rfl | trivial | (intro a b; rfl)) (CT.pull (i := 2) (by rfl) (Total_ct (t := T2)))) ?_; rintro _ _ ⟨_, ⟨rfl, rfl⟩, rfl⟩; refine O_n ?_
  rw [hT2.tot]
  repeat' (first | refine go ?_ | intro _ | (apply cG; first | refine cT ?_ | refine cF ?_ | refine cS (fun _ => ?_) fun _ => ?_) | (apply gW; refine sW ?_) | (apply gI; refine sI ?_) | (apply gE; refine sE ?_) | (apply gP; refine sP ?_) | (apply gC; refine sC ?_) | (apply gD; refine sD ?_) | fail)
  refine C_sub (S := tbl T2 :: tbl T4 :: cel p [.slice A1 U.length ca, .slice B1 F.length cb, .slice C1 xs.length cc] 32 :: rd eI (.slice A1 U.length ca) U :: rd eI (.slice B1 F.length cb) F :: rd (eSX eI) (.slice C1 xs.length cc) xs :: L) Sb ?_
  refine C_loopS (κ := Nat) [false, false, false, false, false, false, true, false, false, false, false, false, false, false, false, false, false, false, true, true, true, true, true, true, false, false, false, false, false, false, false, false, false, false, false, false, false, false, false, false, false, false, false, false, false, false, false, false, false, false, false, false, false, false, false, false, false, false, false, false, false, false, false, false, false, false, false, false, false, false, false, false, false, false, false, false, false, false, false, false, false, false, false, false, false, false, false, false, false, false, false, false, false, false, false, false, false, false, false, false, false, false, false, false, false, false, false, false, false, false, false, false, false, false, false, false, false, false, false, false, false, false, false, false, false, false, false, false, false, false, false, false, false, false, false, false, false, false, false, false, false, false, false, false, false, false, false, true, true, true, true, true, true, true, true, true, true, true, true, true, true, true, true, true, true, true, true, true, true, true, true, true, true, true, true, true, true, true, true, true, true, true, true, true, true, true, true, true, true, true, true, true, true, true, true, true, true, true, true, true, true, true, true, true, true, true, true, true, true, true, true, false, false, false, false, false, false, false, false, false, false, false, false, false, false, false, false, false, false, false, false, false, false, false, false, false, false, false, false, false, false, false, false, false, false, false, false, false] (fun k => [(18, .int .i64 (k : Int))]) (fun k => []) (fun k => k ≤ xs.length) (fun k => xs.length - k) 0 (Nat.zero_le _) ⟨rfl, trivial⟩ ?_
  rintro s u5 hs
  ((try dsimp only); refine C_n ?_; (try simp only [Nat.reduceAdd, Nat.zero_add]))
  by_cases hsl : s < xs.length
  · obtain ⟨x, hx⟩ : ∃ x, xs[s]? = some x := ⟨_, List.getElem?_eq_getElem (by omega)⟩
    have hax : At xs s x := ⟨hx⟩
    have hgx := getX hxs hx
    obtain ⟨m, hm, hmF, _⟩ := hc.cnt hgx
    have hxr := hGr _ (List.mem_of_getElem? hgx)
    refine C_sub (sub_peekX (.tail _ (.tail _ (.tail _ (.tail _ (.tail _ (.head _)))))) hx) ?_
    refine C_form (.head _) fun Ax cx hxv => ?_
    have hec : EncC (eSX eI) x [.slice Ax x.b.length cx] := ⟨fun m cs h => by rw [h.1, hxv]⟩
    rw [hxv]
    repeat' (first | refine go ?_ | intro _ | (apply cG; first | refine cT ?_ | refine cF ?_ | refine cS (fun _ => ?_) fun _ => ?_) | (apply gW; refine sW ?_) | (apply gI; refine sI ?_) | (apply gE; refine sE ?_) | (apply gP; refine sP ?_) | (apply gC; refine sC ?_) | (apply gD; refine sD ?_) | fail)
    refine C_loopS (κ := Nat) [false, false, false, false, false, false, true, false, false, false, false, false, false, false, false, false, false, false, false, true, true, true, true, true, false, false, false, false, false, false, false, false, false, false, false, false, false, false, false, false, false, false, false, false, false, false, false, false, false, false, false, false, false, false, false, false, false, false, false, false, false, false, false, false, false, false, false, false, false, false, false, false, false, false, false, false, false, false, false, false, false, false, false, false, false, false, false, false, false, false, false, false, false, false, false, false, false, false, false, false, false, false, false, false, false, false, false, false, false, false, false, false, false, false, false, false, false, false, false, false, false, false, false, false, false, false, false, false, false, false, false, false, false, false, false, false, false, false, false, false, false, false, false, false, false, false, false, false, false, false, false, false, false, false, false, false, true, true, true, true, true, true, true, true, true, true, true, true, true, true, true, true, true, true, true, true, true, true, true, true, true, true, true, true, true, true, true, true, true, true, true, true, true, true, true, true, true, true, true, true, true, true, true, true, true, true, true, true, true, true, true, false, false, false, false, false, false, false, false, false, false, false, false, false, false, false, false, false, false, false, false, false, false, false, false, false, false, false, false, false, false, false, false, false, false, false, false, false] (fun k => [(19, .int .i64 (k : Int))]) (fun k => []) (fun k => k ≤ x.b.length) (fun k => x.b.length - k) 0 (Nat.zero_le _) ⟨rfl, trivial⟩ ?_
    rintro f u6 hf
    ((try dsimp only); refine C_n ?_; (try simp only [Nat.reduceAdd, Nat.zero_add]))
    by_cases hfl : f < x.b.length
    · obtain ⟨z, hz⟩ : ∃ z, x.b[f]? = some z := ⟨_, List.getElem?_eq_getElem (by omega)⟩
      have haz : At x.b f z := ⟨hz⟩
      obtain ⟨hz0, hz1⟩ := (numF_mem hm).2 z (List.mem_of_getElem? hz)
      obtain ⟨g, rfl⟩ : ∃ g : Nat, z = (g : Int) := ⟨z.toNat, by omega⟩
      have hne := hc.some hgx hm (show g < m by omega)
      repeat' (first | refine go ?_ | intro _ | (apply cG; first | refine cT ?_ | refine cF ?_ | refine cS (fun _ => ?_) fun _ => ?_) | (apply gW; refine sW ?_) | (apply gI; refine sI ?_) | (apply gE; refine sE ?_) | (apply gP; refine sP ?_) | (apply gC; refine sC ?_) | (apply gD; refine sD ?_) | fail)
      refine O_d (dy_call ArgsI.pf (by first | exact rfl | trivial | (intro a b; rfl)) (CT.pull (i := 1) (by rfl) (Group_ct (t := T2) (s := (s : Int)) (g := (g : Int))))) ?_; rintro _ _ ⟨_, ⟨rfl, rfl⟩, rfl⟩; refine O_n ?_
      rw [hT2.grp hne]
      repeat' (first | refine go ?_ | intro _ | (apply cG; first | refine cT ?_ | refine cF ?_ | refine cS (fun _ => ?_) fun _ => ?_) | (apply gW; refine sW ?_) | (apply gI; refine sI ?_) | (apply gE; refine sE ?_) | (apply gP; refine sP ?_) | (apply gC; refine sC ?_) | (apply gD; refine sD ?_) | fail)
      refine O_d (dy_call ArgsI.pf (by first | exact rfl | trivial | (intro a b; rfl)) (CT.pull (i := 2) (by rfl) (Group_ct (t := T4) (s := (s : Int)) (g := (g : Int))))) ?_; rintro _ _ ⟨_, ⟨rfl, rfl⟩, rfl⟩; refine O_n ?_
      rw [hT4.grp hne]
      repeat' (first | refine go ?_ | intro _ | (apply cG; first | refine cT ?_ | refine cF ?_ | refine cS (fun _ => ?_) fun _ => ?_) | (apply gW; refine sW ?_) | (apply gI; refine sI ?_) | (apply gE; refine sE ?_) | (apply gP; refine sP ?_) | (apply gC; refine sC ?_) | (apply gD; refine sD ?_) | fail)
      exact E_round (f + 1) hfl (by omega) ⟨rfl, trivial⟩ Sb
    repeat' (first | refine go ?_ | intro _ | (apply cG; first | refine cT ?_ | refine cF ?_ | refine cS (fun _ => ?_) fun _ => ?_) | (apply gW; refine sW ?_) | (apply gI; refine sI ?_) | (apply gE; refine sE ?_) | (apply gP; refine sP ?_) | (apply gC; refine sC ?_) | (apply gD; refine sD ?_) | fail)
    exact E_round (s + 1) hsl (by omega) ⟨rfl, trivial⟩ Sb
  repeat' (first | refine go ?_ | intro _ | (apply cG; first | refine cT ?_ | refine cF ?_ | refine cS (fun _ => ?_) fun _ => ?_) | (apply gW; refine sW ?_) | (apply gI; refine sI ?_) | (apply gE; refine sE ?_) | (apply gP; refine sP ?_) | (apply gC; refine sC ?_) | (apply gD; refine sD ?_) | fail)
  have hLl := lstF_len (k := around n 1048576) U.length
  have hLi := fun x hx => lstF_in (k := around n 1048576) (n := U.length) (x := x) hx
  have hLa := lstF_asc (k := around n 1048576) (n := U.length)
  refine O_d (dy_call ArgsI.pf (by first | exact rfl | trivial | (intro a b; rfl)) (rList_ct (t := ⟨p, A1, B1, C1, ca, cb, cc, U, F, xs⟩) ⟨.tail _ (.tail _ (.head _)), .tail _ (.tail _ (.tail _ (.head _))), .tail _ (.tail _ (.tail _ (.tail _ (.head _)))), .tail _ (.tail _ (.tail _ (.tail _ (.tail _ (.head _)))))⟩ (by dsimp only; omega) ⟨hn1, hn2⟩)) ?_; rintro _ _ ⟨_, ⟨A5, c5, rfl, rfl⟩, rfl⟩; refine O_n ?_
  dsimp only
  obtain ⟨la, hla⟩ : ∃ la, lstF (around n 1048576) U.length = la := ⟨_, rfl⟩
  rw [hla] at hLl hLi hLa ⊢
  refine O_frz 0 ?_
  have hca : covE V.length la = 0 := covE_ok (by rw [hVl]; exact hLi) hLa
  repeat' (first | refine go ?_ | intro _ | (apply cG; first | refine cT ?_ | refine cF ?_ | refine cS (fun _ => ?_) fun _ => ?_) | (apply gW; refine sW ?_) | (apply gI; refine sI ?_) | (apply gE; refine sE ?_) | (apply gP; refine sP ?_) | (apply gC; refine sC ?_) | (apply gD; refine sD ?_) | fail)
  refine O_d (dy_call ArgsI.pf (by first | exact rfl | trivial | (intro a b; rfl)) (CT.pull (i := 1) (by rfl) (Atoms_ct (l := la) hT2 hc2 (by omega) (.head _) (by omega) (by omega)))) ?_; rintro _ _ ⟨_, ⟨rfl, rfl⟩, rfl⟩; refine O_n ?_
  rw [hca, if_pos rfl]
  repeat' (first | refine go ?_ | intro _ | (apply cG; first | refine cT ?_ | refine cF ?_ | refine cS (fun _ => ?_) fun _ => ?_) | (apply gW; refine sW ?_) | (apply gI; refine sI ?_) | (apply gE; refine sE ?_) | (apply gP; refine sP ?_) | (apply gC; refine sC ?_) | (apply gD; refine sD ?_) | fail)
  refine O_d (dy_call ArgsI.pf (by first | exact rfl | trivial | (intro a b; rfl)) (rList_ct (t := ⟨p, A1, B1, C1, ca, cb, cc, U, F, xs⟩) ⟨.tail _ (.tail _ (.tail _ (.head _))), .tail _ (.tail _ (.tail _ (.tail _ (.head _)))), .tail _ (.tail _ (.tail _ (.tail _ (.tail _ (.head _))))), .tail _ (.tail _ (.tail _ (.tail _ (.tail _ (.tail _ (.head _))))))⟩ (by dsimp only; omega) ⟨hn1, hn2⟩)) ?_; rintro _ _ ⟨_, ⟨A6, c6, rfl, rfl⟩, rfl⟩; refine O_n ?_
  dsimp only
  rw [hla]
  refine O_frz 0 ?_
  repeat' (first | refine go ?_ | intro _ | (apply cG; first | refine cT ?_ | refine cF ?_ | refine cS (fun _ => ?_) fun _ => ?_) | (apply gW; refine sW ?_) | (apply gI; refine sI ?_) | (apply gE; refine sE ?_) | (apply gP; refine sP ?_) | (apply gC; refine sC ?_) | (apply gD; refine sD ?_) | fail)
  refine O_d (dy_call ArgsI.pf (by first | exact rfl | trivial | (intro a b; rfl)) (CT.pull (i := 3) (by rfl) (Atoms_ct (l := la) hT4 hc2 (by omega) (.head _) (by omega) (by omega)))) ?_; rintro _ _ ⟨_, ⟨rfl, rfl⟩, rfl⟩; refine O_n ?_
  rw [hca, if_pos rfl]
  repeat' (first | refine go ?_ | intro _ | (apply cG; first | refine cT ?_ | refine cF ?_ | refine cS (fun _ => ?_) fun _ => ?_) | (apply gW; refine sW ?_) | (apply gI; refine sI ?_) | (apply gE; refine sE ?_) | (apply gP; refine sP ?_) | (apply gC; refine sC ?_) | (apply gD; refine sD ?_) | fail)
  refine O_d (dy_call ArgsI.pf (by first | exact rfl | trivial | (intro a b; rfl)) (lives_ct)) ?_; rintro _ _ ⟨_, ⟨rfl, hLL⟩, rfl⟩; replace hLL := hLL.symm; subst hLL; refine O_n ?_
  repeat' (first | refine go ?_ | intro _ | (apply cG; first | refine cT ?_ | refine cF ?_ | refine cS (fun _ => ?_) fun _ => ?_) | (apply gW; refine sW ?_) | (apply gI; refine sI ?_) | (apply gE; refine sE ?_) | (apply gP; refine sP ?_) | (apply gC; refine sC ?_) | (apply gD; refine sD ?_) | fail)
  refine E_res1 (by rfl) (by rfl) ⟨rfl, rfl⟩ Sb
end
theorem SumsAnew_any {v vo : Value} {li lo : List Int} {n : Int} {w : World} (s : St w w [rd eI v li, rd eI vo lo]) (hl : li.length ≤ 9223372036854775807) (hr : ∀ n ∈ li, I64 n) (hlo : lo.length ≤ 9223372036854775807) (hro : ∀ n ∈ lo, I64 n) (hn : I64 n) :
    Calls Try.prog 8 #[v, vo, .int .i64 n] w fun e w' => e = .returned (.bool true) ∧ Below w.heap.size w w' :=
  ((SumsAnew_ct (W0 := w) (.head _) hl hr (.tail _ (.head _)) hlo hro hn).run w s).mono fun e w' h => by
    obtain ⟨v, L', rfl, ⟨rfl, rfl⟩, s⟩ := h
    exact ⟨rfl, s.below⟩
end Go.Proofs.Ytlmabajgnjiigaa
namespace Go.Proofs.Ytlmabajgnjiigaa
open Go Go.RowKit
set_option linter.unusedVariables false
set_option linter.unusedSimpArgs false
section
variable {P : Program} {W0 : World} {S : List HP} {a : Act} {d : Option Tmp} {ty t et : TypeId} {pos : String} {aft : Array Edge} {gd : Option (Nat × Bool)} {by_ : Nat} {x y : Operand} {k : IntKind}
theorem sv_idxE2 {s j n c i : Nat} {A : Option Addr} {α : Type} {R : Enc α} {l : List α} {el : α} (hi : i < 2) [hk : UL P t (.array 2 et)] [ti : TI P et (.int .i64 0) 1 by_] [h : Ev a x (elp A j s 0)] [h2 : ScA A S n c R l] [h3 : At l j el] (hy : a.eval y = .int k (i : Int)) : SV P W0 S ⟨d, .indexAddr t x y, ty, pos, aft, gd⟩ a (elp A j s i) := ⟨fun w hS => by
  obtain ⟨b, o1, cs, T, fr, cc, hA, hb, hc, hcell⟩ := ((h2.pf).all w hS).at_ h3.pf
  subst hA
  have hx : a.eval x = .pointer (some ⟨b, o1 + j * s, none⟩) := by rw [h.pf]; simp [elp, add0]
  have := (sv_idxA (P := P) (W0 := W0) (S := S) (d := d) (ty := ty) (pos := pos) (aft := aft) (gd := gd) (b := b) (off := o1 + j * s) (o2 := o1 + j * s + i) hk.pf (fun w => sizeOf_run w) hx hy (by omega) (by omega) (by rw [Int.toNat_natCast, Nat.mul_one])).run w hS
  rw [this]
  simp [elp, add0]⟩
instance svc_idxE0 {s j n c : Nat} {A : Option Addr} {α : Type} {R : Enc α} {l : List α} {el : α} [hk : UL P t (.array 2 et)] [ti : TI P et (.int .i64 0) 1 by_] [h : Ev a x (elp A j s 0)] [h2 : ScA A S n c R l] [h3 : At l j el] [hi : Ev a y (.int k 0)] : SVc P W0 S ⟨d, .indexAddr t x y, ty, pos, aft, gd⟩ a (elp A j s 0) :=
  ⟨sv_idxE2 (i := 0) (by decide) (et := et) (by_ := by_) (l := l) (n := n) (c := c) (R := R) (el := el) hi.pf⟩
instance svc_idxE1 {s j n c : Nat} {A : Option Addr} {α : Type} {R : Enc α} {l : List α} {el : α} [hk : UL P t (.array 2 et)] [ti : TI P et (.int .i64 0) 1 by_] [h : Ev a x (elp A j s 0)] [h2 : ScA A S n c R l] [h3 : At l j el] [hi : Ev a y (.int k 1)] : SVc P W0 S ⟨d, .indexAddr t x y, ty, pos, aft, gd⟩ a (elp A j s 1) :=
  ⟨sv_idxE2 (i := 1) (by decide) (et := et) (by_ := by_) (l := l) (n := n) (c := c) (R := R) (el := el) hi.pf⟩
end
/-- the atoms of an element -/
def atsF (F : List Int) (G : List (List Int)) (y : Int × Int) : List Int := if 0 ≤ y.1 then mbrF F G y.1 y.2 else [y.2]
def flatF (F : List Int) (G : List (List Int)) (c : List (Int × Int)) : List Int := c.flatMap (atsF F G)
theorem flatF_app {F : List Int} {G : List (List Int)} {a b : List (Int × Int)} : flatF F G (a ++ b) = flatF F G a ++ flatF F G b := List.flatMap_append
theorem flatF_one {F : List Int} {G : List (List Int)} {y : Int × Int} : flatF F G [y] = atsF F G y := by
  unfold flatF
  simp
theorem flatF_single {F : List Int} {G : List (List Int)} : ∀ {l : List Int}, flatF F G (l.map fun a => (-1, a)) = l
  | [] => rfl
  | a :: r => by
    rw [List.map_cons]
    show flatF F G ([(-1, a)] ++ _) = _
    rw [flatF_app, flatF_one, flatF_single]
    rfl
theorem cnt_split {i : Int} {p : Int → Bool} : ∀ {l : List Int}, l.count i = (l.filter p).count i + (l.filter fun x => !p x).count i
  | [] => rfl
  | a :: r => by
    have ih := cnt_split (i := i) (p := p) (l := r)
    cases hp : p a
    · rw [List.filter_cons_of_neg (by rw [hp]; decide), List.filter_cons_of_pos (by rw [hp]; rfl), List.count_cons, List.count_cons, ih]
      omega
    · rw [List.filter_cons_of_pos hp, List.filter_cons_of_neg (by rw [hp]; decide), List.count_cons, List.count_cons, ih]
      omega
theorem cov_cnt {i : Int} {left ms : List Int} (h1 : left.Pairwise (· < ·)) (h2 : ms.Pairwise (· < ·)) (h3 : ms.all (memB left) = true) : left.count i = ms.count i + (wthF left ms).count i := by
  have e : left.filter (memB ms) = ms := asc_eq (h1.filter _) h2 fun x => by
    rw [List.mem_filter]
    unfold memB
    simp only [decide_eq_true_eq]
    exact ⟨fun h => h.2, fun h => ⟨of_decide_eq_true (List.all_eq_true.1 h3 x h), h⟩⟩
  rw [cnt_split (p := memB ms), e]
  rfl
theorem covK_cnt {i : Int} {F : List Int} {G : List (List Int)} : ∀ {ks : List (Int × Int)} {c : CS}, c.2.Pairwise (· < ·) → (∀ y ∈ ks, 0 ≤ y.1) → (flatF F G (covK F G ks c).1).count i + (covK F G ks c).2.count i = (flatF F G c.1).count i + c.2.count i
  | [], c, _, _ => rfl
  | y :: r, c, h, hk => by
    have h2 : (covSt F G y.1 y.2 c).2.Pairwise (· < ·) := by
      unfold covSt
      split
      · exact h.filter _
      · exact h
    show (flatF F G (covK F G r (covSt F G y.1 y.2 c)).1).count i + (covK F G r (covSt F G y.1 y.2 c)).2.count i = _
    rw [covK_cnt h2 fun z hz => hk z (.tail _ hz)]
    unfold covSt
    split
    · rename_i hs
      dsimp only
      have : atsF F G (y.1, y.2) = mbrF F G y.1 y.2 := by
        unfold atsF
        rw [if_pos (hk y (.head _))]
      rw [flatF_app, flatF_one, this, List.count_append, cov_cnt (i := i) h mbrF_asc hs.2]
      omega
    · rfl
theorem count_asc {i : Int} : ∀ {l : List Int}, l.Pairwise (· < ·) → l.count i = if i ∈ l then 1 else 0
  | [], _ => rfl
  | a :: r, h => by
    obtain ⟨h1, h2⟩ := List.pairwise_cons.1 h
    rw [List.count_cons, count_asc h2]
    by_cases e : a = i
    · subst e
      have h3 : ¬ a ∈ r := fun h => by
        have := h1 _ h
        omega
      simp [h3]
    · have h3 : (a == i) = false := by simpa using e
      have h4 : (i ∈ a :: r) ↔ i ∈ r := by
        rw [List.mem_cons]
        exact ⟨fun h => h.elim (fun h => absurd h.symm e) id, .inr⟩
      simp only [h3, h4, Bool.false_eq_true, if_false, Nat.add_zero]
theorem covK_id {F : List Int} {G : List (List Int)} : ∀ {ks : List (Int × Int)} {c : CS}, (∀ y ∈ ks, covSt F G y.1 y.2 c = c) → covK F G ks c = c
  | [], c, _ => rfl
  | y :: r, c, h => by
    show covK F G r (covSt F G y.1 y.2 c) = c
    rw [h y (.head _)]
    exact covK_id fun z hz => h z (.tail _ hz)
section
variable {U F : List Int} {G : List (List Int)}
theorem covF_cnt (hc : ChkT U F G) {l : List Int} (h : l.Pairwise (· < ·)) (i : Int) : (flatF F G (covF F G l)).count i = if i ∈ l then 1 else 0 := by
  rw [covF_eq hc, flatF_app, flatF_single, List.count_append, covK_cnt h fun y hy => ?_, ← count_asc h]
  · show (flatF F G []).count i + l.count i = _
    show 0 + _ = _
    omega
  · obtain ⟨s, g, m, R, rfl, _⟩ := keyS_mem hc _ (Nat.le_refl _) y hy
    dsimp only
    omega
theorem key_ne (hc : ChkT U F G) {y : Int × Int} (hy : y ∈ keyS (gsF G G.length) G.length) : 0 < (mbrF F G y.1 y.2).length := by
  obtain ⟨s, g, m, R, rfl, hs, hR, hm, hg⟩ := keyS_mem hc _ (Nat.le_refl _) y hy
  have h0 := hc.some hR hm hg
  cases hl : mbrF F G (s : Int) (g : Int) with
  | nil => exact absurd hl h0
  | cons a r => exact Nat.succ_pos _
/-- a whole group of the last scale is one element -/
theorem covF_whole (hc : ChkT U F G) {s m g : Nat} {R : List Int} (hs : s + 1 = G.length) (hR : G[s]? = Option.some R) (hm : numF R 0 = Option.some m) (hg : g < m) : covF F G (mbrF F G (s : Int) (g : Int)) = [((s : Int), (g : Int))] := by
  obtain ⟨m2, hm2, _, hgd⟩ := hc.cnt hR
  rw [hm] at hm2
  injection hm2 with hm2
  subst hm2
  obtain ⟨post, hpost⟩ := keyG_split (s := (s : Int)) hg
  have hks : keyS (gsF G G.length) G.length = keyG (s : Int) g ++ ((s : Int), (g : Int)) :: (post ++ keyS (gsF G G.length) s) := by
    have h1 : keyS (gsF G G.length) (s + 1) = keyG (s : Int) ((gsF G G.length).getD s 0).toNat ++ keyS (gsF G G.length) s := rfl
    rw [hgd, Int.toNat_natCast, hpost] at h1
    rw [← hs] at h1 ⊢
    rw [h1]
    simp
  have hall : ∀ y ∈ keyS (gsF G G.length) G.length, 0 < (mbrF F G y.1 y.2).length := fun y hy => key_ne hc hy
  obtain ⟨ms, hms⟩ : ∃ ms, mbrF F G (s : Int) (g : Int) = ms := ⟨_, rfl⟩
  have hms0 : 0 < ms.length := by
    rw [← hms]
    exact hall ((s : Int), (g : Int)) (by rw [hks]; simp)
  have h1 : covK F G (keyG (s : Int) g) ([], ms) = ([], ms) := covK_id fun y hy => by
    unfold keyG at hy
    obtain ⟨g2, hg2, rfl⟩ := List.mem_map.1 hy
    have hg3 := List.mem_range.1 hg2
    unfold covSt
    rw [if_neg]
    rintro ⟨h2, h3⟩
    dsimp only at h2 h3
    obtain ⟨x, hx⟩ : ∃ x, x ∈ mbrF F G (s : Int) (g2 : Int) := ⟨_, List.getElem_mem h2⟩
    have hx2 : x ∈ ms := of_decide_eq_true (List.all_eq_true.1 h3 x hx)
    rw [← hms, mbrF_at hR] at hx2
    rw [mbrF_at hR] at hx
    obtain ⟨i, k, e1, _, hf1, hr1⟩ := memN_of hx (Nat.le_refl _) (hc.inR hR)
    obtain ⟨i2, k2, e2, _, hf2, hr2⟩ := memN_of hx2 (Nat.le_refl _) (hc.inR hR)
    obtain rfl : i = i2 := by omega
    rw [hf1] at hf2
    injection hf2 with hf2
    obtain rfl : k = k2 := by omega
    rw [hr1] at hr2
    injection hr2 with hr2
    omega
  have h2 : covSt F G (s : Int) (g : Int) ([], ms) = ([((s : Int), (g : Int))], wthF ms ms) := by
    unfold covSt
    rw [hms, if_pos ⟨hms0, List.all_eq_true.2 fun x hx => decide_eq_true hx⟩]
    rfl
  have h3 : wthF ms ms = [] := by
    unfold wthF memB
    refine List.filter_eq_nil_iff.2 fun x hx => ?_
    simp [hx]
  rw [covF_eq hc, hks, covK_app, hms, h1]
  show (covK F G (post ++ keyS (gsF G G.length) s) (covSt F G (s : Int) (g : Int) ([], ms))).1 ++ (covK F G (post ++ keyS (gsF G G.length) s) (covSt F G (s : Int) (g : Int) ([], ms))).2.map _ = _
  rw [h2, h3, covK_id fun y hy => ?_]
  · rfl
  · have := hall y (by rw [hks]; exact List.mem_append.2 (.inr (.tail _ hy)))
    unfold covSt
    rw [if_neg]
    rintro ⟨h5, h6⟩
    obtain ⟨x, hx⟩ : ∃ x, x ∈ mbrF F G y.1 y.2 := ⟨_, List.getElem_mem h5⟩
    have := of_decide_eq_true (List.all_eq_true.1 h6 x hx)
    cases this
theorem ats_in (hc : ChkT U F G) {l : List Int} (hl : ∀ x ∈ l, 0 ≤ x ∧ x < (U.length : Int)) {y : Int × Int} (hy : y ∈ covF F G l) : ∀ x ∈ atsF F G y, 0 ≤ x ∧ x < (U.length : Int) := by
  intro x hx
  have hfl := hc.len
  rcases covF_mem hc hy with h | ⟨h1, h2⟩
  · obtain ⟨s, g, m, R, rfl, _⟩ := keyS_mem hc _ (Nat.le_refl _) y h
    unfold atsF at hx
    rw [if_pos (by dsimp only; omega)] at hx
    have := mbrN_in (F := F) (G := G) (n := F.length) x hx
    omega
  · unfold atsF at hx
    rw [if_neg (by omega)] at hx
    rw [List.mem_singleton.1 hx]
    exact hl _ h2
end
/-- how often each atom has come -/
def tmL (n : Nat) (fl : List Int) : List Int := (List.range n).map fun (i : Nat) => ((fl.count (i : Int) : Nat) : Int)
theorem tmL_len {n : Nat} {fl : List Int} : (tmL n fl).length = n := by
  unfold tmL
  simp
theorem tmL_get {n i : Nat} {fl : List Int} (h : i < n) : (tmL n fl)[i]? = some ((fl.count (i : Int) : Nat) : Int) := by
  unfold tmL
  rw [List.getElem?_map, List.getElem?_range h]
  rfl
theorem tmL_nil {n : Nat} : tmL n [] = List.replicate n 0 := by
  refine List.ext_getElem? fun i => ?_
  by_cases h : i < n
  · rw [tmL_get h, List.getElem?_replicate, if_pos h]
    rfl
  · rw [List.getElem?_eq_none (by rw [tmL_len]; omega), List.getElem?_eq_none (by rw [List.length_replicate]; omega)]
theorem tmL_step {n k : Nat} {fl : List Int} (h : k < n) : (tmL n fl).set k (((fl.count (k : Int) : Nat) : Int) + 1) = tmL n (fl ++ [(k : Int)]) := by
  refine List.ext_getElem? fun i => ?_
  by_cases hi : i < n
  · rw [List.getElem?_set, tmL_get hi, tmL_get hi, List.count_append, tmL_len]
    by_cases e : k = i
    · subst e
      rw [if_pos rfl, if_pos h]
      simp
    · rw [if_neg e]
      have : (List.count (i : Int) [(k : Int)]) = 0 := by
        rw [List.count_cons, List.count_nil]
        have : ((k : Int) == (i : Int)) = false := by simp; omega
        rw [this]
        rfl
      rw [this, Nat.add_zero]
  · rw [List.getElem?_eq_none (by rw [List.length_set, tmL_len]; omega), List.getElem?_eq_none (by rw [tmL_len]; omega)]
end Go.Proofs.Ytlmabajgnjiigaa
