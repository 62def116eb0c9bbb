/-
  The law's made and lives.
-/
import Derived.Test.YtlmabajgnjiigaaMZB
import Derived.Test.YtlmabajgnjiigaaMZD
import Derived.Test.YtlmabajgnjiigaaMC
namespace Go.Proofs.Ytlmabajgnjiigaa
open Go Go.RowKit
set_option linter.unusedVariables false
set_option linter.unusedSimpArgs false
set_option maxRecDepth 20000
set_option synthInstance.maxSize 100000
set_option synthInstance.maxHeartbeats 400000
theorem chk_ok {U : List Int} (h : sumL U ≤ 1099511627776) : chkE29 U true = 0 := by
  unfold chkE29
  rw [if_pos rfl, if_neg (by omega)]
section
variable {W0 : World} {L : List HP}
theorem New_ok {UA FA CA : Option Addr} {uc fc cc : Nat} {U F : List Int} {xs : List (SX Int)} {G : List (List Int)} (hU : rd eI (.slice UA U.length uc) U ∈ L) (hF : rd eI (.slice FA F.length fc) F ∈ L) (hX : rd (eSX eI) (.slice CA xs.length cc) xs ∈ L) (hxs : xs.map SX.b = G) (hUl : U.length ≤ 1000) (hFl : F.length ≤ 1000) (hGl : G.length ≤ 1000) (hGr : ∀ x ∈ G, x.length ≤ 1000) (hc : ChkT U F G) (hs : sumL U ≤ 1099511627776) :
    CT Try.prog 29 #[.slice UA U.length uc, .slice FA F.length fc, .agg #[.slice CA xs.length cc]] W0 L fun r L' => ∃ t : TT, TOk t U F G ∧ r = .tuple #[.pointer (some ⟨t.q, 0, none⟩), .int .i64 0] ∧ L' = tbl t :: L :=
  (New_ct (q := true) hU hF hX hxs hUl hFl hGl hGr ⟨fun _ => hc, fun _ => rfl⟩).mono fun v L' h => by
    rcases h with ⟨_, h⟩ | ⟨h, _⟩
    · exact h
    · exact absurd (chk_ok hs) h
theorem made_ok {t : RT} {G : List (List Int)} (ht : RTin t L) (hxs : t.xs.map SX.b = G) (hUl : t.U.length ≤ 1000) (hGl : G.length ≤ 1000) (hc : ChkT t.U t.F G) (hs : sumL t.U ≤ 1099511627776) :
    CT Try.prog 10 #[.pointer (some ⟨t.p, 0, none⟩)] W0 L fun r L' => ∃ T : TT, TOk T t.U t.F G ∧ r = .tuple #[.pointer (some ⟨T.q, 0, none⟩), .int .i64 0] ∧ L' = tbl T :: L := by
  obtain ⟨p, A1, B1, C1, ca, cb, cc, U, F, xs⟩ := t
  obtain ⟨h1, h2, h3, h4⟩ := ht
  dsimp only at h1 h2 h3 h4 hxs hUl hc hs ⊢
  have hFl := hc.len
  have hGr : ∀ x ∈ G, x.length ≤ 1000 := fun x hx => by
    obtain ⟨s, hs⟩ := List.getElem?_of_mem hx
    have := (hc.g s x hs).1
    have := hc.many
    omega
  have hip : InC p L _ _ := ⟨h1⟩
  have hS : Sub L [cel p [.slice A1 U.length ca, .slice B1 F.length cb, .slice C1 xs.length cc] 32] := sub_mem1 h1
  refine CT_enter Try.func10 rfl ?_; (simp only [Try.ntmps10, List.size_toArray, List.length_cons, List.length_nil, Nat.reduceAdd, Nat.reduceSub, Array.replicate_succ, Array.replicate_zero, List.push_toArray, List.append_toArray, List.nil_append, List.cons_append])
  repeat' (first | refine go ?_ | intro _ | (apply cG; first | refine cT ?_ | refine cF ?_ | refine cS (fun _ => ?_) fun _ => ?_) | (apply gW; refine sW ?_) | (apply gI; refine sI ?_) | (apply gE; refine sE ?_) | (apply gP; refine sP ?_) | (apply gC; refine sC ?_) | (apply gD; refine sD ?_) | fail)
  refine C_draw (n := 99) [cel p [.slice A1 U.length ca, .slice B1 F.length cb, .slice C1 xs.length cc] 32] [(0, 1), (1, 1), (2, 1), (3, 1), (4, 1), (5, 1), (6, 1), (7, 1), (8, 1), (9, 1), (10, 1), (11, 1), (12, 1), (13, 0), (14, 1), (15, 1), (16, 1), (17, 1)] (by kernel_rfl) (by kernel_rfl) hS ?_
  repeat' (first | refine go ?_ | intro _ | (apply cG; first | refine cT ?_ | refine cF ?_ | refine cS (fun _ => ?_) fun _ => ?_) | (apply gW; refine sW ?_) | (apply gI; refine sI ?_) | (apply gE; refine sE ?_) | (apply gP; refine sP ?_) | (apply gC; refine sC ?_) | (apply gD; refine sD ?_) | fail)
  refine D_op rfl ?_; refine X_d (dy_call ArgsI.pf (by first | exact rfl | trivial | (intro a b; rfl)) (New_ok (U := U) (F := F) (xs := xs) h2 h3 h4 hxs hUl (by omega) hGl hGr hc hs)) ?_; rintro _ _ ⟨_, ⟨T, hT, rfl, rfl⟩, rfl⟩; refine ⟨.inr (sub_drop hS), D_n ?_⟩
  repeat' (first | refine go ?_ | intro _ | (apply cG; first | refine cT ?_ | refine cF ?_ | refine cS (fun _ => ?_) fun _ => ?_) | (apply gW; refine sW ?_) | (apply gI; refine sI ?_) | (apply gE; refine sE ?_) | (apply gP; refine sP ?_) | (apply gC; refine sC ?_) | (apply gD; refine sD ?_) | fail)
  refine E_res2 (by rfl) (by rfl) ⟨T, hT, rfl, rfl⟩ Sb
theorem chk_live : ChkT [5, 7, 1] [0, 1, 1] [[0, 0]] := by
  refine ⟨rfl, by decide, by decide, by decide, fun n hn => ?_, fun s x h => ?_, fun s x y h h' => ?_⟩
  · have : facF [0, 1, 1] = 2 := by decide
    rw [this] at hn
    have : n = 0 ∨ n = 1 := by omega
    rcases this with rfl | rfl <;> decide
  · cases s with
    | zero =>
      injection h with h
      subst h
      decide
    | succ s => cases h
  · cases h'
theorem lives_ct : CT Try.prog 17 #[] W0 L fun r L' => r = .bool true ∧ L' = L := by
  have e1 : covO [0, 1, 1] [[0, 0]] 3 [0, 1, 2] = [(0, 0)] := by decide +kernel
  have e2 : covO [0, 1, 1] [[0, 0]] 3 [1, 2] = [(-1, 1), (-1, 2)] := by decide +kernel
  have e3 : covE 3 [0, 1, 2] = 0 := by decide +kernel
  have e4 : covE 3 [1, 2] = 0 := by decide +kernel
  have e5 : chgN [5, 7, 1] 1 2 4 = 2 := by decide +kernel
  have e6 : chgE [5, 7, 1] 2 4 = 0 := by decide +kernel
  refine CT_enter Try.func17 rfl ?_; (simp only [Try.ntmps17, List.size_toArray, List.length_cons, List.length_nil, Nat.reduceAdd, Nat.reduceSub, Array.replicate_succ, Array.replicate_zero, List.push_toArray, List.append_toArray, List.nil_append, List.cons_append])
  repeat' (first | refine go ?_ | intro _ | (apply cG; first | refine cT ?_ | refine cF ?_ | refine cS (fun _ => ?_) fun _ => ?_) | (apply gW; refine sW ?_) | (apply gI; refine sI ?_) | (apply gE; refine sE ?_) | (apply gP; refine sP ?_) | (apply gC; refine sC ?_) | (apply gD; refine sD ?_) | fail)
  refine O_d (dy_litP (f := iv) (hf := fun _ => rfl) [(5 : Int), 7, 1] (by rfl)) ?_; rintro _ LI' ⟨_, rfl, hLL⟩; replace hLL : LI' = own _ eI _ _ :: _ := hLL; subst hLL; refine O_n ?_
  refine O_frz 0 ?_
  refine O_d (dy_litP (f := iv) (hf := fun _ => rfl) [(0 : Int), 1, 1] (by rfl)) ?_; rintro _ LI' ⟨_, rfl, hLL⟩; replace hLL : LI' = own _ eI _ _ :: _ := hLL; subst hLL; refine O_n ?_
  refine O_frz 0 ?_
  refine O_d (dy_litP (f := iv) (hf := fun _ => rfl) [(0 : Int), 0] (by rfl)) ?_; rintro _ LI' ⟨_, rfl, hLL⟩; replace hLL : LI' = own _ eI _ _ :: _ := hLL; subst hLL; refine O_n ?_
  refine O_frz 0 ?_
  rename_i g1 g2 g3
  refine O_d (dy_lit1 (R := eSX eI) (⟨.slice (some ⟨g3, 0, none⟩) 2 2, [0, 0]⟩ : SX Int) (hcs := by rfl) (hel := fun m h hs => ⟨rfl, rd_mem hs (by repeat (first | exact .head _ | refine .tail _ ?_))⟩)) ?_; rintro _ _ ⟨_, rfl, rfl⟩; refine O_n ?_
  refine O_frz 0 ?_
  repeat' (first | refine go ?_ | intro _ | (apply cG; first | refine cT ?_ | refine cF ?_ | refine cS (fun _ => ?_) fun _ => ?_) | (apply gW; refine sW ?_) | (apply gI; refine sI ?_) | (apply gE; refine sE ?_) | (apply gP; refine sP ?_) | (apply gC; refine sC ?_) | (apply gD; refine sD ?_) | fail)
  refine O_d (dy_call ArgsI.pf (by first | exact rfl | trivial | (intro a b; rfl)) (New_ok (U := [5, 7, 1]) (F := [0, 1, 1]) (xs := [⟨.slice (some ⟨g3, 0, none⟩) 2 2, [0, 0]⟩]) (G := [[0, 0]]) (.tail _ (.tail _ (.tail _ (.head _)))) (.tail _ (.tail _ (.head _))) (.head _) rfl (by decide) (by decide) (by decide) (by decide) chk_live (by decide))) ?_; rintro _ _ ⟨_, ⟨t, ht, rfl, rfl⟩, rfl⟩; refine O_n ?_
  repeat' (first | refine go ?_ | intro _ | (apply cG; first | refine cT ?_ | refine cF ?_ | refine cS (fun _ => ?_) fun _ => ?_) | (apply gW; refine sW ?_) | (apply gI; refine sI ?_) | (apply gE; refine sE ?_) | (apply gP; refine sP ?_) | (apply gC; refine sC ?_) | (apply gD; refine sD ?_) | fail)
  refine O_d (dy_litP (f := iv) (hf := fun _ => rfl) [(0 : Int), 1, 2] (by rfl)) ?_; rintro _ LI' ⟨_, rfl, hLL⟩; replace hLL : LI' = own _ eI _ _ :: _ := hLL; subst hLL; refine O_n ?_
  refine O_frz 0 ?_
  refine O_sub (S := tbl t :: rd eI _ [(0 : Int), 1, 2] :: L) Sb ?_
  have e0 : ([5, 7, 1] : List Int).length = 3 := rfl
  refine O_d (dy_call ArgsI.pf (by first | exact rfl | trivial | (intro a b; rfl)) (Cover_ct (l := [0, 1, 2]) ht chk_live (by decide) (.head _) (by decide) (by decide))) ?_; rintro _ _ ⟨_, ⟨A2, c2, rfl, rfl⟩, rfl⟩; refine O_n ?_
  rw [e0, e1, e3]
  refine O_frz 0 ?_
  repeat' (first | refine go ?_ | intro _ | (apply cG; first | refine cT ?_ | refine cF ?_ | refine cS (fun _ => ?_) fun _ => ?_) | (apply gW; refine sW ?_) | (apply gI; refine sI ?_) | (apply gE; refine sE ?_) | (apply gP; refine sP ?_) | (apply gC; refine sC ?_) | (apply gD; refine sD ?_) | fail)
  refine O_d (dy_litP (f := iv) (hf := fun _ => rfl) [(1 : Int), 2] (by rfl)) ?_; rintro _ LI' ⟨_, rfl, hLL⟩; replace hLL : LI' = own _ eI _ _ :: _ := hLL; subst hLL; refine O_n ?_
  refine O_frz 0 ?_
  refine O_sub (S := tbl t :: rd eI _ [(1 : Int), 2] :: rd ePr (.slice A2 ([((0 : Int), (0 : Int))]).length c2) [(0, 0)] :: L) Sb ?_
  refine O_d (dy_call ArgsI.pf (by first | exact rfl | trivial | (intro a b; rfl)) (Cover_ct (l := [1, 2]) ht chk_live (by decide) (.head _) (by decide) (by decide))) ?_; rintro _ _ ⟨_, ⟨A3, c3, rfl, rfl⟩, rfl⟩; refine O_n ?_
  rw [e0, e2, e4]
  refine O_frz 0 ?_
  repeat' (first | refine go ?_ | intro _ | (apply cG; first | refine cT ?_ | refine cF ?_ | refine cS (fun _ => ?_) fun _ => ?_) | (apply gW; refine sW ?_) | (apply gI; refine sI ?_) | (apply gE; refine sE ?_) | (apply gP; refine sP ?_) | (apply gC; refine sC ?_) | (apply gD; refine sD ?_) | fail)
  refine O_sub (S := tbl t :: rd ePr (.slice A3 ([(-1, 1), (-1, 2)] : List (Int × Int)).length c3) [(-1, 1), (-1, 2)] :: rd ePr (.slice A2 ([((0 : Int), (0 : Int))]).length c2) [(0, 0)] :: L) Sb ?_
  refine O_d (dy_call ArgsI.pf (by first | exact rfl | trivial | (intro a b; rfl)) (Total_ct (t := t))) ?_; rintro _ _ ⟨_, ⟨rfl, hLL⟩, rfl⟩; replace hLL := hLL.symm; subst hLL; refine O_n ?_
  have etot : t.tot = 13 := by rw [ht.tot]; decide
  rw [etot]
  repeat' (first | refine go ?_ | intro _ | (apply cG; first | refine cT ?_ | refine cF ?_ | refine cS (fun _ => ?_) fun _ => ?_) | (apply gW; refine sW ?_) | (apply gI; refine sI ?_) | (apply gE; refine sE ?_) | (apply gP; refine sP ?_) | (apply gC; refine sC ?_) | (apply gD; refine sD ?_) | fail)
  refine O_d (dy_call ArgsI.pf (by first | exact rfl | trivial | (intro a b; rfl)) (Change_ct (a := 2) (u := 4) ht chk_live (by decide) (by decide) (by decide) (by decide))) ?_; rintro _ _ ⟨_, ⟨t', hq, ht', rfl, rfl⟩, rfl⟩; refine O_n ?_
  rw [show ([[0, 0]] : List (List Int)).length = 1 from rfl, e5, e6]
  repeat' (first | refine go ?_ | intro _ | (apply cG; first | refine cT ?_ | refine cF ?_ | refine cS (fun _ => ?_) fun _ => ?_) | (apply gW; refine sW ?_) | (apply gI; refine sI ?_) | (apply gE; refine sE ?_) | (apply gP; refine sP ?_) | (apply gC; refine sC ?_) | (apply gD; refine sD ?_) | fail)
  refine O_d (dy_lit1 (R := ePr) ((0, 0) : Int × Int) (hcs := by rfl) (hel := fun _ _ _ => by rfl)) ?_; rintro _ _ ⟨_, rfl, rfl⟩; refine O_n ?_
  refine O_frz 0 ?_
  rename_i g8
  refine O_d (dy_call ArgsI.pf (by first | exact rfl | trivial | (intro a b; rfl)) (samePairs_ct (a := [(0, 0)]) (.tail _ (.tail _ (.tail _ (.head _)))) (.head _) (by decide))) ?_; rintro _ _ ⟨_, ⟨rfl, hLL⟩, rfl⟩; replace hLL := hLL.symm; subst hLL; refine O_n ?_
  repeat' (first | refine go ?_ | intro _ | (apply cG; first | refine cT ?_ | refine cF ?_ | refine cS (fun _ => ?_) fun _ => ?_) | (apply gW; refine sW ?_) | (apply gI; refine sI ?_) | (apply gE; refine sE ?_) | (apply gP; refine sP ?_) | (apply gC; refine sC ?_) | (apply gD; refine sD ?_) | fail)
  refine O_d (dy_litA (R := ePr) ([(-1, 1), (-1, 2)] : List (Int × Int)) [[.int .i64 (-1), .int .i64 1], [.int .i64 (-1), .int .i64 2]] (by rfl) (fun m h hs => ⟨rfl, rfl, trivial⟩)) ?_; rintro _ _ ⟨_, rfl, rfl⟩; refine O_n ?_
  refine O_frz 0 ?_
  refine O_d (dy_call ArgsI.pf (by first | exact rfl | trivial | (intro a b; rfl)) (samePairs_ct (a := [(-1, 1), (-1, 2)]) (.tail _ (.tail _ (.tail _ (.head _)))) (.head _) (by decide))) ?_; rintro _ _ ⟨_, ⟨rfl, hLL⟩, rfl⟩; replace hLL := hLL.symm; subst hLL; refine O_n ?_
  repeat' (first | refine go ?_ | intro _ | (apply cG; first | refine cT ?_ | refine cF ?_ | refine cS (fun _ => ?_) fun _ => ?_) | (apply gW; refine sW ?_) | (apply gI; refine sI ?_) | (apply gE; refine sE ?_) | (apply gP; refine sP ?_) | (apply gC; refine sC ?_) | (apply gD; refine sD ?_) | fail)
  refine E_res1 (by rfl) (by rfl) ⟨rfl, rfl⟩ Sb
end
end Go.Proofs.Ytlmabajgnjiigaa
namespace Go.Proofs.Ytlmabajgnjiigaa
open Go Go.RowKit
set_option linter.unusedVariables false
set_option linter.unusedSimpArgs false
set_option maxRecDepth 20000
set_option synthInstance.maxSize 100000
set_option synthInstance.maxHeartbeats 400000
abbrev I64 (n : Int) : Prop := -9223372036854775808 ≤ n ∧ n ≤ 9223372036854775807
theorem sumL_49 : ∀ {U : List Int}, (∀ x ∈ U, x ≤ 49) → sumL U ≤ 49 * (U.length : Int)
  | [], _ => by simp [sumL]
  | a :: r, h => by
    have h1 := sumL_49 (U := r) fun x hx => h x (.tail _ hx)
    have h2 := h a (.head _)
    rw [sumL_cons, List.length_cons]
    omega
theorem sumL_chg {U : List Int} {a u : Int} (h : sumL U ≤ 1099511627776) : sumL (chgU U a u) ≤ 1099511627776 := by
  unfold chgU
  split
  · rename_i he
    unfold chgE at he
    split at he
    · cases he
    · rename_i h1
      split at he
      · cases he
      · split at he
        · cases he
        · rename_i h3
          rw [sumL_set (by omega)]
          omega
  · exact h
section
variable {W0 : World} {L : List HP}
set_option maxHeartbeats 2000000 in
theorem SumsChanges_ct {v vo vu : Value} {li lo lu : List Int} (hv : rd eI v li ∈ L) (hl : li.length ≤ 9223372036854775807) (hr : ∀ n ∈ li, I64 n) (hvo : rd eI vo lo ∈ L) (hlo : lo.length ≤ 9223372036854775807) (hro : ∀ n ∈ lo, I64 n) (hvu : rd eI vu lu ∈ L) (hlu : lu.length ≤ 9223372036854775807) (hru : ∀ n ∈ lu, I64 n) :
    CT Try.prog 3 #[v, vo, vu] W0 L fun r L' => r = .bool true ∧ L' = L := by
  refine CT_fact (fun w s => ((Src.sl (.inl hv) s).form)) ?_
  rintro ⟨A0, c0, rfl, hc0⟩
  refine CT_fact (fun w s => ((Src.sl (.inl hvo) s).form)) ?_
  rintro ⟨B0, d0, rfl, hd0⟩
  refine CT_fact (fun w s => ((Src.sl (.inl hvu) s).form)) ?_
  rintro ⟨C0, e0, rfl, he0⟩
  refine CT.sub ?_ (sub_dup hv)
  refine CT.sub ?_ (sub_dup (.tail _ hvo))
  refine CT.sub ?_ (sub_dup (.tail _ (.tail _ hvu)))
  refine CT_enter Try.func3 rfl ?_; (simp only [Try.ntmps3, List.size_toArray, List.length_cons, List.length_nil, Nat.reduceAdd, Nat.reduceSub, Array.replicate_succ, Array.replicate_zero, List.push_toArray, List.append_toArray, List.nil_append, List.cons_append])
  repeat' (first | refine go ?_ | intro _ | (apply cG; first | refine cT ?_ | refine cF ?_ | refine cS (fun _ => ?_) fun _ => ?_) | (apply gW; refine sW ?_) | (apply gI; refine sI ?_) | (apply gE; refine sE ?_) | (apply gP; refine sP ?_) | (apply gC; refine sC ?_) | (apply gD; refine sD ?_) | fail)
  refine O_d (dy_call ArgsI.pf (by first | exact rfl | trivial | (intro a b; rfl)) (rSome_ct (l := li) (.tail _ (.tail _ (.head _))) hr hl)) ?_; rintro _ _ ⟨_, ⟨t, G, rfl, ⟨hc, hxs, hU9, hG3, hu49⟩, rfl⟩, rfl⟩; refine O_n ?_
  obtain ⟨p, A1, B1, C1, ca, cb, cc, U, F, xs⟩ := t
  dsimp only at hc hxs hU9 hu49 ⊢
  have hs49 := sumL_49 hu49
  have hFl := hc.len
  have hxl : xs.length = G.length := by rw [← hxs, List.length_map]
  repeat' (first | refine go ?_ | intro _ | (apply cG; first | refine cT ?_ | refine cF ?_ | refine cS (fun _ => ?_) fun _ => ?_) | (apply gW; refine sW ?_) | (apply gI; refine sI ?_) | (apply gE; refine sE ?_) | (apply gP; refine sP ?_) | (apply gC; refine sC ?_) | (apply gD; refine sD ?_) | fail)
  refine O_d (dy_call ArgsI.pf (by first | exact rfl | trivial | (intro a b; rfl)) (made_ok (t := ⟨p, A1, B1, C1, ca, cb, cc, U, F, xs⟩) ⟨.head _, .tail _ (.head _), .tail _ (.tail _ (.head _)), .tail _ (.tail _ (.tail _ (.head _)))⟩ hxs (by dsimp only; omega) (by omega) hc (by dsimp only; omega))) ?_; rintro _ _ ⟨_, ⟨T, hT, rfl, rfl⟩, rfl⟩; refine O_n ?_
  rw [hxl]
  repeat' (first | refine go ?_ | intro _ | (apply cG; first | refine cT ?_ | refine cF ?_ | refine cS (fun _ => ?_) fun _ => ?_) | (apply gW; refine sW ?_) | (apply gI; refine sI ?_) | (apply gE; refine sE ?_) | (apply gP; refine sP ?_) | (apply gC; refine sC ?_) | (apply gD; refine sD ?_) | fail)
  refine C_loopS (κ := Nat × TT × Option Addr × Nat × List Int) [false, false, false, false, false, false, true, false, false, false, true, true, true, true, true, true, true, false, false, false, false, false, false, false, false, false, false, false, false, false, true, true, true, true, true, true, true, true, true, true, true, true, true, true, true, true, true, true, true, true, true, true, true, true, true, true, true, true, true, true, true, true, true, true, true, true, true, true, true, true, true, true, true, true, true, true, true, true, true, true, true, true, true, true, true, true, true, true, true, true, true, true, true, true, true, true, true, true, true, true, false] (fun k => [(10, .int .i64 (k.1 : Int))]) (fun k => [(0, tbl k.2.1), (1, cel p [.slice k.2.2.1 k.2.2.2.2.length k.2.2.2.1, .slice B1 F.length cb, .slice C1 G.length cc] 32), (2, rd eI (.slice k.2.2.1 k.2.2.2.2.length k.2.2.2.1) k.2.2.2.2)]) (fun k => k.1 ≤ 10 ∧ k.2.1.q = T.q ∧ TOk k.2.1 k.2.2.2.2 F G ∧ ChkT k.2.2.2.2 F G ∧ sumL k.2.2.2.2 ≤ 1099511627776 ∧ k.2.2.2.2.length = U.length) (fun k => 10 - k.1) (0, T, A1, ca, U) ⟨Nat.zero_le _, rfl, hT, hc, by dsimp only; omega, rfl⟩ ⟨rfl, trivial⟩ ?_
  rintro ⟨i, T2, A2, c2, V⟩ u ⟨hi, hq, hT2, hc2, hs2, hV⟩
  dsimp only at hi hq hT2 hc2 hs2 hV
  dsimp only
  ((try dsimp only); refine C_n ?_; (try simp only [Nat.reduceAdd, Nat.zero_add]))
  rw [← hq]
  by_cases hil : (i : Int) < lo.length
  rotate_left
  · repeat' (first | refine go ?_ | intro _ | (apply cG; first | refine cT ?_ | refine cF ?_ | refine cS (fun _ => ?_) fun _ => ?_) | (apply gW; refine sW ?_) | (apply gI; refine sI ?_) | (apply gE; refine sE ?_) | (apply gP; refine sP ?_) | (apply gC; refine sC ?_) | (apply gD; refine sD ?_) | fail)
    refine O_d (dy_call ArgsI.pf (by first | exact rfl | trivial | (intro a b; rfl)) (lives_ct)) ?_; rintro _ _ ⟨_, ⟨rfl, hLL⟩, rfl⟩; replace hLL := hLL.symm; subst hLL; refine O_n ?_
    repeat' (first | refine go ?_ | intro _ | (apply cG; first | refine cT ?_ | refine cF ?_ | refine cS (fun _ => ?_) fun _ => ?_) | (apply gW; refine sW ?_) | (apply gI; refine sI ?_) | (apply gE; refine sE ?_) | (apply gP; refine sP ?_) | (apply gC; refine sC ?_) | (apply gD; refine sD ?_) | fail)
    refine E_res1 (by rfl) (by rfl) ⟨rfl, rfl⟩ Sb
  by_cases hi10 : i < 10
  rotate_left
  · repeat' (first | refine go ?_ | intro _ | (apply cG; first | refine cT ?_ | refine cF ?_ | refine cS (fun _ => ?_) fun _ => ?_) | (apply gW; refine sW ?_) | (apply gI; refine sI ?_) | (apply gE; refine sE ?_) | (apply gP; refine sP ?_) | (apply gC; refine sC ?_) | (apply gD; refine sD ?_) | fail)
    refine O_d (dy_call ArgsI.pf (by first | exact rfl | trivial | (intro a b; rfl)) (lives_ct)) ?_; rintro _ _ ⟨_, ⟨rfl, hLL⟩, rfl⟩; replace hLL := hLL.symm; subst hLL; refine O_n ?_
    repeat' (first | refine go ?_ | intro _ | (apply cG; first | refine cT ?_ | refine cF ?_ | refine cS (fun _ => ?_) fun _ => ?_) | (apply gW; refine sW ?_) | (apply gI; refine sI ?_) | (apply gE; refine sE ?_) | (apply gP; refine sP ?_) | (apply gC; refine sC ?_) | (apply gD; refine sD ?_) | fail)
    refine E_res1 (by rfl) (by rfl) ⟨rfl, rfl⟩ Sb
  obtain ⟨z, hz⟩ : ∃ z, lo[i]? = some z := ⟨_, List.getElem?_eq_getElem (by omega)⟩
  have haz : At lo i z := ⟨hz⟩
  obtain ⟨hz1, hz2⟩ := hro z (List.mem_of_getElem? hz)
  repeat' (first | refine go ?_ | intro _ | (apply cG; first | refine cT ?_ | refine cF ?_ | refine cS (fun _ => ?_) fun _ => ?_) | (apply gW; refine sW ?_) | (apply gI; refine sI ?_) | (apply gE; refine sE ?_) | (apply gP; refine sP ?_) | (apply gC; refine sC ?_) | (apply gD; refine sD ?_) | fail)
  refine C_draw (n := 99) [rd eI (.slice B0 lo.length d0) lo, cel p [.slice A2 V.length c2, .slice B1 F.length cb, .slice C1 G.length cc] 32] [(0, 1), (1, 1), (2, 1), (3, 1), (4, 1), (5, 1), (6, 1), (7, 1), (8, 1), (9, 1), (10, 0), (11, 1), (12, 1)] (by kernel_rfl) (by kernel_rfl) Sb ?_
  repeat' (first | refine go ?_ | intro _ | (apply cG; first | refine cT ?_ | refine cF ?_ | refine cS (fun _ => ?_) fun _ => ?_) | (apply gW; refine sW ?_) | (apply gI; refine sI ?_) | (apply gE; refine sE ?_) | (apply gP; refine sP ?_) | (apply gC; refine sC ?_) | (apply gD; refine sD ?_) | fail)
  refine D_op rfl ?_; refine X_d (dy_call ArgsI.pf (by first | exact rfl | trivial | (intro a b; rfl)) (Around_ct (n := z) (most := (V.length : Int) + 2) hz1 hz2 (by omega) (by omega))) ?_; rintro _ _ ⟨_, ⟨rfl, hLL⟩, rfl⟩; replace hLL := hLL.symm; subst hLL; refine ⟨(by first | exact .inl rfl | exact .inr Sb), D_n ?_⟩
  obtain ⟨ha0, ha1⟩ := around_in (n := z) (most := (V.length : Int) + 2) (by omega)
  obtain ⟨ar, har⟩ : ∃ ar, around z ((V.length : Int) + 2) = ar := ⟨_, rfl⟩
  rw [har] at ha0 ha1 ⊢
  repeat' (first | refine go ?_ | intro _ | (apply cG; first | refine cT ?_ | refine cF ?_ | refine cS (fun _ => ?_) fun _ => ?_) | (apply gW; refine sW ?_) | (apply gI; refine sI ?_) | (apply gE; refine sE ?_) | (apply gP; refine sP ?_) | (apply gC; refine sC ?_) | (apply gD; refine sD ?_) | fail)
  refine O_d (dy_call ArgsI.pf (by first | exact rfl | trivial | (intro a b; rfl)) (PickZ_ct (l := lu) (z := (i : Int)) (zm := 90) (j := i) (m := 90) rfl rfl (.tail _ (.tail _ (.tail _ (.tail _ (.tail _ (.head _)))))) hru hlu (by omega) (by decide) (by decide))) ?_; rintro _ _ ⟨_, ⟨N, rfl, hN, rfl⟩, rfl⟩; refine O_n ?_
  repeat' (first | ((fail_if_success apply AtE); refine go ?_) | intro _ | (apply cG; first | refine cT ?_ | refine cF ?_ | refine cS (fun _ => ?_) fun _ => ?_) | (apply gW; refine sW ?_) | (apply gI; refine sI ?_) | (apply gE; refine sE ?_) | (apply gP; refine sP ?_) | (apply gC; refine sC ?_) | (apply gD; refine sD ?_) | fail)
  refine go ?_
  refine go ?_
  refine C_join (κ := Int) [false, false, false, false, false, false, false, false, false, false, false, false, true, false, false, false, false, false, false, false, false, false, false, false, false, false, false, false, false, false, false, false, false, false, false, false, false, false, false, false, false, false, false, false, false, false, false, false, false, false, false, false, false, false, false, true, true, true, true, true, true, true, true, true, true, true, true, true, true, true, true, false, false, false, false, false, false, false, false, false, false, false, false, false, false, false, false, false, false, false, false, false, false, false, false, false, false, false, false, false, false] (fun k => [(12, .int .i64 k)]) (fun k => []) (fun k => I64 k) ?_ ?_
  · repeat' (first | refine go ?_ | intro _ | (apply cG; first | refine cT ?_ | refine cF ?_ | refine cS (fun _ => ?_) fun _ => ?_) | (apply gI; refine sI ?_) | (apply gE; refine sE ?_) | (apply gP; refine sP ?_) | (apply gC; refine sC ?_) | (apply gD; refine sD ?_) | fail)
    apply gW; refine sW (r := z.tmod 5) ?_ ⟨by decide, rfl⟩
    by_cases h5 : z.tmod 5 = 0
    · by_cases hiu : (i : Int) < lu.length
      · obtain ⟨x, hx⟩ : ∃ x, lu[i]? = some x := ⟨_, List.getElem?_eq_getElem (by omega)⟩
        have hax : At lu i x := ⟨hx⟩
        repeat' (first | refine go ?_ | intro _ | (apply cG; first | refine cT ?_ | refine cF ?_ | refine cS (fun _ => ?_) fun _ => ?_) | (apply gW; refine sW ?_) | (apply gI; refine sI ?_) | (apply gE; refine sE ?_) | (apply gP; refine sP ?_) | (apply gC; refine sC ?_) | (apply gD; refine sD ?_) | fail)
        exact E_join x (hru x (List.mem_of_getElem? hx)) ⟨rfl, trivial⟩
      · repeat' (first | refine go ?_ | intro _ | (apply cG; first | refine cT ?_ | refine cF ?_ | refine cS (fun _ => ?_) fun _ => ?_) | (apply gW; refine sW ?_) | (apply gI; refine sI ?_) | (apply gE; refine sE ?_) | (apply gP; refine sP ?_) | (apply gC; refine sC ?_) | (apply gD; refine sD ?_) | fail)
        exact E_join (N : Int) (by omega) ⟨rfl, trivial⟩
    · repeat' (first | refine go ?_ | intro _ | (apply cG; first | refine cT ?_ | refine cF ?_ | refine cS (fun _ => ?_) fun _ => ?_) | (apply gW; refine sW ?_) | (apply gI; refine sI ?_) | (apply gE; refine sE ?_) | (apply gP; refine sP ?_) | (apply gC; refine sC ?_) | (apply gD; refine sD ?_) | fail)
      exact E_join (N : Int) (by omega) ⟨rfl, trivial⟩
  rintro n u2 ⟨hn1, hn2⟩
  ((try dsimp only); refine C_n ?_; (try simp only [Nat.reduceAdd, Nat.zero_add]))
  repeat' (first | refine go ?_ | intro _ | (apply cG; first | refine cT ?_ | refine cF ?_ | refine cS (fun _ => ?_) fun _ => ?_) | (apply gW; refine sW ?_) | (apply gI; refine sI ?_) | (apply gE; refine sE ?_) | (apply gP; refine sP ?_) | (apply gC; refine sC ?_) | (apply gD; refine sD ?_) | fail)
  refine O_d (dy_call ArgsI.pf (by first | exact rfl | trivial | (intro a b; rfl)) (Change_ct (t := T2) (a := ar - 1) (u := n) hT2 hc2 (by omega) (by omega) (by omega) ⟨hn1, hn2⟩)) ?_; rintro _ _ ⟨_, ⟨T3, hq3, hT3, rfl, rfl⟩, rfl⟩; refine O_n ?_
  repeat' (first | refine go ?_ | intro _ | (apply cG; first | refine cT ?_ | refine cF ?_ | refine cS (fun _ => ?_) fun _ => ?_) | (apply gW; refine sW ?_) | (apply gI; refine sI ?_) | (apply gE; refine sE ?_) | (apply gP; refine sP ?_) | (apply gC; refine sC ?_) | (apply gD; refine sD ?_) | fail)
  refine O_d (dy_call ArgsI.pf (by first | exact rfl | trivial | (intro a b; rfl)) (CT.pull (i := 1) (by rfl) (rChange_ct (U := V) (a := ar - 1) (u := n) (ng := G.length) (.tail _ (.head _)) (by omega) hc2.u (by omega) (by omega) ⟨hn1, hn2⟩))) ?_; rintro _ _ ⟨_, ⟨A3, c3, rfl, rfl⟩, rfl⟩; refine O_n ?_
  have hc3 := hc2.chg (a := ar - 1) (u := n)
  have hs3 := sumL_chg (a := ar - 1) (u := n) hs2
  have hl3 := chgU_len (U := V) (a := ar - 1) (u := n)
  obtain ⟨V2, hV2⟩ : ∃ V2, chgU V (ar - 1) n = V2 := ⟨_, rfl⟩
  rw [hV2] at hc3 hs3 hl3 hT3 ⊢
  rw [← hl3, ← hq3]
  repeat' (first | refine go ?_ | intro _ | (apply cG; first | refine cT ?_ | refine cF ?_ | refine cS (fun _ => ?_) fun _ => ?_) | (apply gW; refine sW ?_) | (apply gI; refine sI ?_) | (apply gE; refine sE ?_) | (apply gP; refine sP ?_) | (apply gC; refine sC ?_) | (apply gD; refine sD ?_) | fail)
  refine O_d (dy_call ArgsI.pf (by first | exact rfl | trivial | (intro a b; rfl)) (CT.pull (i := 2) (by rfl) (Total_ct (t := T3)))) ?_; rintro _ _ ⟨_, ⟨rfl, rfl⟩, rfl⟩; refine O_n ?_
  rw [hT3.tot]
  repeat' (first | refine go ?_ | intro _ | (apply cG; first | refine cT ?_ | refine cF ?_ | refine cS (fun _ => ?_) fun _ => ?_) | (apply gW; refine sW ?_) | (apply gI; refine sI ?_) | (apply gE; refine sE ?_) | (apply gP; refine sP ?_) | (apply gC; refine sC ?_) | (apply gD; refine sD ?_) | fail)
  refine O_d (dy_call ArgsI.pf (by first | exact rfl | trivial | (intro a b; rfl)) (rTotal_ct (U := V2) (.tail _ (.tail _ (.head _))) (.tail _ (.head _)) (by omega) hc3.u)) ?_; rintro _ _ ⟨_, ⟨rfl, hLL⟩, rfl⟩; replace hLL := hLL.symm; subst hLL; refine O_n ?_
  repeat' (first | refine go ?_ | intro _ | (apply cG; first | refine cT ?_ | refine cF ?_ | refine cS (fun _ => ?_) fun _ => ?_) | (apply gW; refine sW ?_) | (apply gI; refine sI ?_) | (apply gE; refine sE ?_) | (apply gP; refine sP ?_) | (apply gC; refine sC ?_) | (apply gD; refine sD ?_) | fail)
  exact E_round (i + 1, T3, A3, c3, V2) ⟨by omega, rfl, hT3, hc3, hs3, by dsimp only; omega⟩ (by dsimp only; omega) ⟨rfl, trivial⟩ Sb
end
theorem SumsChanges_any {v vo vu : Value} {li lo lu : List Int} {w : World} (s : St w w [rd eI v li, rd eI vo lo, rd eI vu lu]) (hl : li.length ≤ 9223372036854775807) (hr : ∀ n ∈ li, I64 n) (hlo : lo.length ≤ 9223372036854775807) (hro : ∀ n ∈ lo, I64 n) (hlu : lu.length ≤ 9223372036854775807) (hru : ∀ n ∈ lu, I64 n) :
    Calls Try.prog 3 #[v, vo, vu] w fun e w' => e = .returned (.bool true) ∧ Below w.heap.size w w' :=
  ((SumsChanges_ct (W0 := w) (.head _) hl hr (.tail _ (.head _)) hlo hro (.tail _ (.tail _ (.head _))) hlu hru).run w s).mono fun e w' h => by
    obtain ⟨v, L', rfl, ⟨rfl, rfl⟩, s⟩ := h
    exact ⟨rfl, s.below⟩
end Go.Proofs.Ytlmabajgnjiigaa
namespace Go.Proofs.Ytlmabajgnjiigaa
open Go Go.RowKit
set_option linter.unusedVariables false
set_option linter.unusedSimpArgs false
def toB (n : Int) : UInt8 := UInt8.ofNat n.toNat
theorem toB_wf {n : Int} (h : (Lit.int .u8 n).wf = true) : ((toB n).toNat : Int) = n := by
  simp [Lit.wf, IntKind.min, IntKind.max, IntKind.signed, IntKind.bits] at h
  unfold toB
  simp
  omega
/-- a row of numbers of one kind, said as the rows' proofs say it -/
theorem row_sl {α : Type} {f : α → Value} {hf : ∀ a, (f a).oneCell' = true} {k : IntKind} {w : World} {a : Option Addr} {len cap : Nat} {zs : List Int} {l : List α} (hl : l.map f = (zs.take len).map (Value.int k)) (hz : zs.length = cap) (hlc : len ≤ cap)
    {x : Addr} (ha : a = some x) (hcell : ∀ i, i < zs.length → w.cell? (x.add i) = some (.int k (zs.getD i 0))) : Sl (Hp.of w) (e1 f hf) (.slice a len cap) l := by
  have hlen : l.length = len := by
    have := congrArg List.length hl
    simp at this
    omega
  subst hlen
  refine ⟨a, cap, l.map fun b => [f b], rfl, hlc, all2_e1.2 rfl, ?_⟩
  by_cases h0 : l = []
  · exact .inl h0
  · right
    have hpos : 0 < l.length := List.length_pos_iff.2 h0
    obtain ⟨b, off, spot⟩ := x
    have h1 := hcell 0 (by omega)
    have hspot : spot = none := by simpa [Addr.add] using World.cell?_spot h1
    subst hspot
    rw [flat_one]
    have hb : ∃ cs t fr, w.heap[b]? = some (.cells cs t fr) := by
      unfold World.cell? at h1
      simp only [Addr.add] at h1
      split at h1
      · rename_i cs t fr he; exact ⟨cs, t, fr, he⟩
      · cases h1
    obtain ⟨cs, t, fr, hb⟩ := hb
    refine ⟨b, off, cs, t, fr, ha, hb, ?_⟩
    intro j u hj
    rw [hl] at hj
    have hjl : j < l.length := by
      have := (List.getElem?_eq_some_iff.1 hj).1
      simp at this
      omega
    have h2 := hcell j (by omega)
    have h3 : w.cell? ⟨b, off + j, none⟩ = some (.int k (zs.getD j 0)) := by
      have e : (Addr.add ⟨b, off, none⟩ j) = ⟨b, off + j, none⟩ := by
        by_cases hj0 : j = 0
        · subst hj0; rfl
        · simp [Addr.add, hj0]
      rw [e] at h2
      exact h2
    have h4 : cs[off + j]? = some (.int k (zs.getD j 0)) := by simpa [World.cell?, hb] using h3
    rw [h4]
    rw [List.getElem?_map, List.getElem?_take, if_pos hjl] at hj
    rw [List.getD_eq_getElem?_getD]
    cases hzz : zs[j]? with
    | none => rw [hzz] at hj; cases hj
    | some z => rw [hzz] at hj; simpa using hj
theorem row_i64 {w : World} {a : Option Addr} {len cap : Nat} {zs : List Int} (h : (a = none ∧ len = 0 ∧ cap = 0 ∧ zs = []) ∨
    ∃ x, a = some x ∧ len ≤ cap ∧ cap ≤ maxLen ∧ zs.length = cap ∧ (∀ i, i < zs.length → w.cell? (x.add i) = some (.int .i64 (zs.getD i 0))) ∧ ∀ n ∈ zs, (Lit.int .i64 n).wf = true) :
    ∃ l : List Int, Sl (Hp.of w) eI (.slice a len cap) l ∧ l.length = len ∧ len ≤ 9223372036854775807 ∧ ∀ n ∈ l, -9223372036854775808 ≤ n ∧ n ≤ 9223372036854775807 := by
  rcases h with ⟨rfl, rfl, rfl, rfl⟩ | ⟨x, ha, hl, hm, hz, hc, hw⟩
  · exact ⟨[], ⟨none, 0, [], rfl, Nat.le_refl _, trivial, .inl rfl⟩, rfl, by omega, by simp⟩
  · unfold maxLen at hm
    refine ⟨zs.take len, row_sl rfl hz hl ha hc, by simp; omega, by omega, fun n hn => ?_⟩
    have := hw n (List.mem_of_mem_take hn)
    simpa [Lit.wf, IntKind.min, IntKind.max, IntKind.signed, IntKind.bits] using this
theorem row_u8 {w : World} {a : Option Addr} {len cap : Nat} {zs : List Int} (h : (a = none ∧ len = 0 ∧ cap = 0 ∧ zs = []) ∨
    ∃ x, a = some x ∧ len ≤ cap ∧ cap ≤ maxLen ∧ zs.length = cap ∧ (∀ i, i < zs.length → w.cell? (x.add i) = some (.int .u8 (zs.getD i 0))) ∧ ∀ n ∈ zs, (Lit.int .u8 n).wf = true) :
    ∃ l : List UInt8, Sl (Hp.of w) eB (.slice a len cap) l ∧ l.length = len ∧ len ≤ 9223372036854775807 := by
  rcases h with ⟨rfl, rfl, rfl, rfl⟩ | ⟨x, ha, hl, hm, hz, hc, hw⟩
  · exact ⟨[], ⟨none, 0, [], rfl, Nat.le_refl _, trivial, .inl rfl⟩, rfl, by omega⟩
  · unfold maxLen at hm
    refine ⟨(zs.take len).map toB, row_sl ?_ hz hl ha hc, by simp; omega, by omega⟩
    rw [List.map_map]
    refine List.map_congr_left fun n hn => ?_
    show bv (toB n) = _
    rw [bv, toB_wf (hw n (List.mem_of_mem_take hn))]
theorem St.mem_ {W : World} {α : Type} {R : Enc α} {v : Value} {l : List α} {L : List HP} (h : Sl (Hp.of W) R v l) (hS : St W W L) : St W W (Go.Proofs.Ytlmabajgnjiigaa.rd R v l :: L) := hS.old h
end Go.Proofs.Ytlmabajgnjiigaa
