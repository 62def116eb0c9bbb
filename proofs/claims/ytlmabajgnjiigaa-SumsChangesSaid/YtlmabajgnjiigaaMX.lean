/-
  Package sums: New.
-/
import Derived.Test.YtlmabajgnjiigaaMV
import Derived.Test.YtlmabajgnjiigaaMW
namespace Go.Proofs.Ytlmabajgnjiigaa
open Go Go.RowKit
set_option linter.unusedVariables false
set_option linter.unusedSimpArgs false
set_option maxRecDepth 20000
set_option synthInstance.maxSize 100000
set_option synthInstance.maxHeartbeats 400000
/-- a table of U, F, G -/
structure TOk (t : TT) (U F : List Int) (G : List (List Int)) : Prop where
  u : t.U = U
  g : t.gs = gsF G G.length
  tot : t.tot = sumL U
  mm : ∀ a b, (gvX (a, b) t.mm).map Prod.snd = optL (mbrF F G a b)
  sl : ∀ a b, gvX (a, b) t.sl = (optL (mbrF F G a b)).map (sumAt U)
def badU (x : Int) : Bool := decide (x < 0) || decide (1099511627776 < x)
theorem mbrN_neg {F : List Int} {G : List (List Int)} {a b : Int} {n m : Nat} (h : ¬ (0 ≤ a ∧ a < (G.length : Int))) : mbrN F G a b n = mbrN F G a b m := by
  unfold mbrN
  rw [if_neg h, if_neg h]
theorem mbrN_lo {F : List Int} {G : List (List Int)} {a b : Int} {n : Nat} : mbrN F G a b (if a < ((0 : Nat) : Int) then n + 1 else n) = mbrN F G a b n := by
  split
  · exact mbrN_neg (by omega)
  · rfl
theorem mbrN_hi {F : List Int} {G : List (List Int)} {a b : Int} {n : Nat} : mbrN F G a b (if a < (G.length : Int) then n + 1 else n) = mbrN F G a b (n + 1) := by
  split
  · rfl
  · exact mbrN_neg (by omega)
theorem own_form29 {W0 : World} {L : List HP} {α : Type} {E : TypeId} {R : Enc α} {v : Value} {l : List α} {w : World} (s : St W0 w (own E R v l :: L)) : ∃ A c, v = .slice A l.length c := by
  obtain ⟨A, c, e, _⟩ := ((Src.sl (.inr ⟨E, .head _⟩ : Src (own E R v l :: L) R v l) s).form)
  exact ⟨A, c, e⟩
section
variable {W0 : World} {L : List HP}
theorem newcb_ct {x : Int} : CT Try.prog 41 #[.int .i64 x] W0 L fun r L' => r = .bool (badU x) ∧ L' = L := by
  refine CT_enter Try.func41 rfl ?_; (simp only [Try.ntmps41, List.size_toArray, List.length_cons, List.length_nil, Nat.reduceAdd, Nat.reduceSub, Array.replicate_succ, Array.replicate_zero, List.push_toArray, List.append_toArray, List.nil_append, List.cons_append])
  unfold badU
  by_cases h1 : x < 0
  · rw [decide_eq_true h1]
    repeat' (first | refine go ?_ | intro _ | (apply cG; first | refine cT ?_ | refine cF ?_ | refine cS (fun _ => ?_) fun _ => ?_) | (apply gW; refine sW ?_) | (apply gI; refine sI ?_) | (apply gE; refine sE ?_) | (apply gP; refine sP ?_) | (apply gC; refine sC ?_) | (apply gD; refine sD ?_) | fail)
    refine E_res1 (by rfl) (by rfl) ⟨rfl, rfl⟩ Sb
  · rw [decide_eq_false h1]
    by_cases h2 : 1099511627776 < x
    · rw [decide_eq_true h2]
      repeat' (first | refine go ?_ | intro _ | (apply cG; first | refine cT ?_ | refine cF ?_ | refine cS (fun _ => ?_) fun _ => ?_) | (apply gW; refine sW ?_) | (apply gI; refine sI ?_) | (apply gE; refine sE ?_) | (apply gP; refine sP ?_) | (apply gC; refine sC ?_) | (apply gD; refine sD ?_) | fail)
      refine E_res1 (by rfl) (by rfl) ⟨rfl, rfl⟩ Sb
    · rw [decide_eq_false h2]
      repeat' (first | refine go ?_ | intro _ | (apply cG; first | refine cT ?_ | refine cF ?_ | refine cS (fun _ => ?_) fun _ => ?_) | (apply gW; refine sW ?_) | (apply gI; refine sI ?_) | (apply gE; refine sE ?_) | (apply gP; refine sP ?_) | (apply gC; refine sC ?_) | (apply gD; refine sD ?_) | fail)
      refine E_res1 (by rfl) (by rfl) ⟨rfl, rfl⟩ Sb
set_option maxHeartbeats 4000000 in
theorem New_ct {UA FA CA : Option Addr} {uc fc cc : Nat} {U F : List Int} {xs : List (SX Int)} {G : List (List Int)} {q : Bool} (hU : rd eI (.slice UA U.length uc) U ∈ L) (hF : rd eI (.slice FA F.length fc) F ∈ L) (hX : rd (eSX eI) (.slice CA xs.length cc) xs ∈ L) (hxs : xs.map SX.b = G) (hUl : U.length ≤ 1000) (hFl : F.length ≤ 1000) (hGl : G.length ≤ 1000) (hGr : ∀ x ∈ G, x.length ≤ 1000) (hq : q = true ↔ ChkT U F G) :
    CT Try.prog 29 #[.slice UA U.length uc, .slice FA F.length fc, .agg #[.slice CA xs.length cc]] W0 L fun r L' => (chkE29 U q = 0 ∧ ∃ t : TT, TOk t U F G ∧ r = .tuple #[.pointer (some ⟨t.q, 0, none⟩), .int .i64 0] ∧ L' = tbl t :: L) ∨ (chkE29 U q ≠ 0 ∧ r = .tuple #[.pointer none, .int .i64 (chkE29 U q)] ∧ L' = L) := by
  have hxl : xs.length = G.length := by rw [← hxs, List.length_map]
  have hsU : ScA UA L U.length uc eI U := ⟨.inl hU⟩
  have hsF : ScA FA L F.length fc eI F := ⟨.inl hF⟩
  have hsX : ScA CA L xs.length cc (eSX eI) xs := ⟨.inl hX⟩
  have hqf : ¬ ChkT U F G → q = false := fun h => by
    cases q with
    | false => rfl
    | true => exact absurd (hq.1 rfl) h
  have hf1 : chkE29 U false = 1 := rfl
  have hno : ∀ r : Value, r = .tuple #[.pointer none, .int .i64 1] → chkE29 U false ≠ 0 ∧ r = .tuple #[.pointer none, .int .i64 (chkE29 U false)] := fun r h => ⟨by rw [hf1]; decide, by rw [hf1, h]⟩
  refine CT_enter Try.func29 rfl ?_; (simp only [Try.ntmps29, List.size_toArray, List.length_cons, List.length_nil, Nat.reduceAdd, Nat.reduceSub, Array.replicate_succ, Array.replicate_zero, List.push_toArray, List.append_toArray, List.nil_append, List.cons_append])
  repeat' (first | refine go ?_ | intro _ | (apply cG; first | refine cT ?_ | refine cF ?_ | refine cS (fun _ => ?_) fun _ => ?_) | (apply gW; refine sW ?_) | (apply gI; refine sI ?_) | (apply gE; refine sE ?_) | (apply gP; refine sP ?_) | (apply gC; refine sC ?_) | (apply gD; refine sD ?_) | fail)
  rename_i c5
  refine O_d (dy_call ArgsI.pf (by first | exact rfl | trivial | (intro a b; rfl)) (faces_ct (F := F) (.tail _ hF) (by omega))) ?_; rintro _ _ ⟨_, ⟨n, qf, rfl, hqf1, hqf2, hnF, rfl⟩, rfl⟩; refine O_n ?_
  cases qf with
  | false =>
    obtain rfl := hqf fun h => absurd (hqf1.2 ⟨fun f hf => (h.f f hf).1, h.each⟩) (by decide)
    repeat' (first | refine go ?_ | intro _ | (apply cG; first | refine cT ?_ | refine cF ?_ | refine cS (fun _ => ?_) fun _ => ?_) | (apply gW; refine sW ?_) | (apply gI; refine sI ?_) | (apply gE; refine sE ?_) | (apply gP; refine sP ?_) | (apply gC; refine sC ?_) | (apply gD; refine sD ?_) | fail)
    refine E_res2 (by rfl) (by rfl) (.inr ⟨(hno _ rfl).1, rfl, rfl⟩) Sb
  | true =>
    have hfo := hqf1.1 rfl
    have hfn := hqf2 rfl
    clear hqf1 hqf2
    by_cases hlen : U.length = F.length
    rotate_left
    · obtain rfl := hqf fun h => hlen h.len
      have hlen2 : ¬ ((U.length : Int) = (F.length : Int)) := by omega
      repeat' (first | refine go ?_ | intro _ | (apply cG; first | refine cT ?_ | refine cF ?_ | refine cS (fun _ => ?_) fun _ => ?_) | (apply gW; refine sW ?_) | (apply gI; refine sI ?_) | (apply gE; refine sE ?_) | (apply gP; refine sP ?_) | (apply gC; refine sC ?_) | (apply gD; refine sD ?_) | fail)
      refine E_res2 (by rfl) (by rfl) (.inr ⟨(hno _ rfl).1, rfl, rfl⟩) Sb
    have hlen2 : (U.length : Int) = (F.length : Int) := by omega
    have eg : Enters Try.prog 41 := by first | exact rfl | trivial | (intro a b; rfl)
    repeat' (first | refine go ?_ | intro _ | (apply cG; first | refine cT ?_ | refine cF ?_ | refine cS (fun _ => ?_) fun _ => ?_) | (apply gW; refine sW ?_) | (apply gI; refine sI ?_) | (apply gE; refine sE ?_) | (apply gP; refine sP ?_) | (apply gC; refine sC ?_) | (apply gD; refine sD ?_) | fail)
    refine O_d (dy_call ArgsI.pf (by first | exact rfl | trivial | (intro a b; rfl)) (ConIS_ct (l := U) (φ := badU) (B := #[]) eg (.inl (.tail _ hU)) (by omega) (fun x _ => newcb_ct))) ?_; rintro _ _ ⟨_, ⟨rfl, hLL⟩, rfl⟩; replace hLL := hLL.symm; subst hLL; refine O_n ?_
    cases hbu : U.any badU with
    | true =>
      obtain rfl := hqf fun h => by
        obtain ⟨x, hx, hb⟩ := List.any_eq_true.1 hbu
        have := h.u x hx
        unfold badU at hb
        simp at hb
        omega
      repeat' (first | refine go ?_ | intro _ | (apply cG; first | refine cT ?_ | refine cF ?_ | refine cS (fun _ => ?_) fun _ => ?_) | (apply gW; refine sW ?_) | (apply gI; refine sI ?_) | (apply gE; refine sE ?_) | (apply gP; refine sP ?_) | (apply gC; refine sC ?_) | (apply gD; refine sD ?_) | fail)
      refine E_res2 (by rfl) (by rfl) (.inr ⟨(hno _ rfl).1, rfl, rfl⟩) Sb
    | false =>
      have hu : ∀ x ∈ U, 0 ≤ x ∧ x ≤ 1099511627776 := fun x hx => by
        have := List.any_eq_false.1 hbu x hx
        unfold badU at this
        simp at this
        omega
      repeat' (first | refine go ?_ | intro _ | (apply cG; first | refine cT ?_ | refine cF ?_ | refine cS (fun _ => ?_) fun _ => ?_) | (apply gW; refine sW ?_) | (apply gI; refine sI ?_) | (apply gE; refine sE ?_) | (apply gP; refine sP ?_) | (apply gC; refine sC ?_) | (apply gD; refine sD ?_) | fail)
      refine C_joinL (κ := Option Addr × Nat × Nat × Nat × Nat) (fun k => cel k.2.2.2.2 [.slice k.1 U.length k.2.1, .int .i64 (xs.length : Int), .map (some k.2.2.1), .map (some k.2.2.2.1), .slice none 0 0, .int .i64 0] 64 :: mapx kpr mS0 k.2.2.1 [] :: mapx kpr mI k.2.2.2.1 [] :: own 3 eI (.slice k.1 U.length k.2.1) U :: cel c5 [.slice CA xs.length cc] 59 :: L) [false, false, false, false, false, false, false, false, false, false, true, false, false, false, false, false, false, false, false, false, false, false, false, false, false, false, false, false, false, false, false, false, false, false, false, false, false, false, false, false, false, false, false, false, false, false, true, true, true, true, true, true, true, true, true, false, false, false, false, false, false, false, false, false, false, false, false, false, false, false, false, false, false, false, false, false, false, false, false, false, false, false, false, false, false, false, false, false, false, false, false, false, false, false, false, false, false, false, false, false, false, false, false, false, false, false, false, false, false, false, false, false, false, false, false, false, false, false, false, false, false, false, false, false, false, false, false, false, false, false, false, false, false, false, false, false, false, false, false, false, false, false, false, false, false, false, false, false, false, false, false, false, false, false, false, false, false, false, false, false, false, false, false, false, false, false, false, false, false, false, false, false, false, false, false, false, false, false, false, false, false, false, false, false, false, false, false, false, false, false] (fun k => [(10, .pointer (some ⟨k.2.2.2.2, 0, none⟩))]) (fun _ => True) ?_ ?_
      · refine C_draw3 (n := 99) [cel c5 [.slice CA xs.length cc] 59] (.three [(0, 1), (2, 1), (3, 1), (4, 1)] 1 (.two [] 5 (.leaf [(6, 0), (7, 1), (8, 0), (9, 1)]) 6 (.leaf [(5, 0), (7, 1), (8, 0), (9, 1)])) 5 (.two [] 1 (.leaf [(6, 0), (7, 1), (8, 0), (9, 1)]) 6 (.leaf [(1, 0), (7, 1), (8, 0), (9, 1)])) 6 (.two [] 1 (.leaf [(5, 0), (7, 1), (8, 0), (9, 1)]) 5 (.leaf [(1, 0), (7, 1), (8, 0), (9, 1)]))) (by kernel_rfl) (by kernel_rfl) Sb ?_
        refine DT3_three ?_
        repeat' (first | refine go ?_ | intro _ | (apply cG; first | refine cT ?_ | refine cF ?_ | refine cS (fun _ => ?_) fun _ => ?_) | (apply gW; refine sW ?_) | (apply gI; refine sI ?_) | (apply gE; refine sE ?_) | (apply gP; refine sP ?_) | (apply gC; refine sC ?_) | (apply gD; refine sD ?_) | fail)
        refine E3_three ?_ ?_ ?_
        · refine D_op rfl ?_; refine X_d (dy_call ArgsI.pf (by first | exact rfl | trivial | (intro a b; rfl)) (IClone_ct (l := U) (.inl (.tail _ hU)) (by omega))) ?_; rintro _ _ ⟨_, ⟨A2, c2, rfl, rfl⟩, rfl⟩; refine ⟨(by first | exact .inl rfl | exact .inr Sb), D_n ?_⟩
          repeat' (first | refine go ?_ | intro _ | (apply cG; first | refine cT ?_ | refine cF ?_ | refine cS (fun _ => ?_) fun _ => ?_) | (apply gW; refine sW ?_) | (apply gI; refine sI ?_) | (apply gE; refine sE ?_) | (apply gP; refine sP ?_) | (apply gC; refine sC ?_) | (apply gD; refine sD ?_) | fail)
          refine E3_way (DT3_two ?_)
          repeat' (first | refine go ?_ | intro _ | (apply cG; first | refine cT ?_ | refine cF ?_ | refine cS (fun _ => ?_) fun _ => ?_) | (apply gW; refine sW ?_) | (apply gI; refine sI ?_) | (apply gE; refine sE ?_) | (apply gP; refine sP ?_) | (apply gC; refine sC ?_) | (apply gD; refine sD ?_) | fail)
          refine E3_two ?_ ?_
          · refine D_op rfl ?_; refine X_d (dy_mkmapx kpr mS0) ?_; rintro _ _ ⟨km, rfl, rfl⟩; refine ⟨(by first | exact .inl rfl | exact .inr Sb), D_n ?_⟩
            repeat' (first | refine go ?_ | intro _ | (apply cG; first | refine cT ?_ | refine cF ?_ | refine cS (fun _ => ?_) fun _ => ?_) | (apply gW; refine sW ?_) | (apply gI; refine sI ?_) | (apply gE; refine sE ?_) | (apply gP; refine sP ?_) | (apply gC; refine sC ?_) | (apply gD; refine sD ?_) | fail)
            refine E3_way (DT3_leaf ?_)
            repeat' (first | refine go ?_ | intro _ | (apply cG; first | refine cT ?_ | refine cF ?_ | refine cS (fun _ => ?_) fun _ => ?_) | (apply gW; refine sW ?_) | (apply gI; refine sI ?_) | (apply gE; refine sE ?_) | (apply gP; refine sP ?_) | (apply gC; refine sC ?_) | (apply gD; refine sD ?_) | fail)
            refine D_op rfl ?_; refine X_d (dy_mkmapx kpr mI) ?_; rintro _ _ ⟨ks, rfl, rfl⟩; refine ⟨(by first | exact .inl rfl | exact .inr Sb), D_n ?_⟩
            repeat' (first | refine go ?_ | intro _ | (apply cG; first | refine cT ?_ | refine cF ?_ | refine cS (fun _ => ?_) fun _ => ?_) | (apply gW; refine sW ?_) | (apply gI; refine sI ?_) | (apply gE; refine sE ?_) | (apply gP; refine sP ?_) | (apply gC; refine sC ?_) | (apply gD; refine sD ?_) | fail)
            rename_i qt
            exact E_join (A2, c2, km, ks, qt) trivial ⟨rfl, trivial⟩
          · refine D_op rfl ?_; refine X_d (dy_mkmapx kpr mI) ?_; rintro _ _ ⟨ks, rfl, rfl⟩; refine ⟨(by first | exact .inl rfl | exact .inr Sb), D_n ?_⟩
            repeat' (first | refine go ?_ | intro _ | (apply cG; first | refine cT ?_ | refine cF ?_ | refine cS (fun _ => ?_) fun _ => ?_) | (apply gW; refine sW ?_) | (apply gI; refine sI ?_) | (apply gE; refine sE ?_) | (apply gP; refine sP ?_) | (apply gC; refine sC ?_) | (apply gD; refine sD ?_) | fail)
            refine E3_way (DT3_leaf ?_)
            repeat' (first | refine go ?_ | intro _ | (apply cG; first | refine cT ?_ | refine cF ?_ | refine cS (fun _ => ?_) fun _ => ?_) | (apply gW; refine sW ?_) | (apply gI; refine sI ?_) | (apply gE; refine sE ?_) | (apply gP; refine sP ?_) | (apply gC; refine sC ?_) | (apply gD; refine sD ?_) | fail)
            refine D_op rfl ?_; refine X_d (dy_mkmapx kpr mS0) ?_; rintro _ _ ⟨km, rfl, rfl⟩; refine ⟨(by first | exact .inl rfl | exact .inr Sb), D_n ?_⟩
            repeat' (first | refine go ?_ | intro _ | (apply cG; first | refine cT ?_ | refine cF ?_ | refine cS (fun _ => ?_) fun _ => ?_) | (apply gW; refine sW ?_) | (apply gI; refine sI ?_) | (apply gE; refine sE ?_) | (apply gP; refine sP ?_) | (apply gC; refine sC ?_) | (apply gD; refine sD ?_) | fail)
            rename_i qt
            exact E_join (A2, c2, km, ks, qt) trivial ⟨rfl, trivial⟩
        · refine D_op rfl ?_; refine X_d (dy_mkmapx kpr mS0) ?_; rintro _ _ ⟨km, rfl, rfl⟩; refine ⟨(by first | exact .inl rfl | exact .inr Sb), D_n ?_⟩
          repeat' (first | refine go ?_ | intro _ | (apply cG; first | refine cT ?_ | refine cF ?_ | refine cS (fun _ => ?_) fun _ => ?_) | (apply gW; refine sW ?_) | (apply gI; refine sI ?_) | (apply gE; refine sE ?_) | (apply gP; refine sP ?_) | (apply gC; refine sC ?_) | (apply gD; refine sD ?_) | fail)
          refine E3_way (DT3_two ?_)
          repeat' (first | refine go ?_ | intro _ | (apply cG; first | refine cT ?_ | refine cF ?_ | refine cS (fun _ => ?_) fun _ => ?_) | (apply gW; refine sW ?_) | (apply gI; refine sI ?_) | (apply gE; refine sE ?_) | (apply gP; refine sP ?_) | (apply gC; refine sC ?_) | (apply gD; refine sD ?_) | fail)
          refine E3_two ?_ ?_
          · refine D_op rfl ?_; refine X_d (dy_call ArgsI.pf (by first | exact rfl | trivial | (intro a b; rfl)) (IClone_ct (l := U) (.inl (.tail _ (.tail _ hU))) (by omega))) ?_; rintro _ _ ⟨_, ⟨A2, c2, rfl, rfl⟩, rfl⟩; refine ⟨(by first | exact .inl rfl | exact .inr Sb), D_n ?_⟩
            repeat' (first | refine go ?_ | intro _ | (apply cG; first | refine cT ?_ | refine cF ?_ | refine cS (fun _ => ?_) fun _ => ?_) | (apply gW; refine sW ?_) | (apply gI; refine sI ?_) | (apply gE; refine sE ?_) | (apply gP; refine sP ?_) | (apply gC; refine sC ?_) | (apply gD; refine sD ?_) | fail)
            refine E3_way (DT3_leaf ?_)
            repeat' (first | refine go ?_ | intro _ | (apply cG; first | refine cT ?_ | refine cF ?_ | refine cS (fun _ => ?_) fun _ => ?_) | (apply gW; refine sW ?_) | (apply gI; refine sI ?_) | (apply gE; refine sE ?_) | (apply gP; refine sP ?_) | (apply gC; refine sC ?_) | (apply gD; refine sD ?_) | fail)
            refine D_op rfl ?_; refine X_d (dy_mkmapx kpr mI) ?_; rintro _ _ ⟨ks, rfl, rfl⟩; refine ⟨(by first | exact .inl rfl | exact .inr Sb), D_n ?_⟩
            repeat' (first | refine go ?_ | intro _ | (apply cG; first | refine cT ?_ | refine cF ?_ | refine cS (fun _ => ?_) fun _ => ?_) | (apply gW; refine sW ?_) | (apply gI; refine sI ?_) | (apply gE; refine sE ?_) | (apply gP; refine sP ?_) | (apply gC; refine sC ?_) | (apply gD; refine sD ?_) | fail)
            rename_i qt
            exact E_join (A2, c2, km, ks, qt) trivial ⟨rfl, trivial⟩
          · refine D_op rfl ?_; refine X_d (dy_mkmapx kpr mI) ?_; rintro _ _ ⟨ks, rfl, rfl⟩; refine ⟨(by first | exact .inl rfl | exact .inr Sb), D_n ?_⟩
            repeat' (first | refine go ?_ | intro _ | (apply cG; first | refine cT ?_ | refine cF ?_ | refine cS (fun _ => ?_) fun _ => ?_) | (apply gW; refine sW ?_) | (apply gI; refine sI ?_) | (apply gE; refine sE ?_) | (apply gP; refine sP ?_) | (apply gC; refine sC ?_) | (apply gD; refine sD ?_) | fail)
            refine E3_way (DT3_leaf ?_)
            repeat' (first | refine go ?_ | intro _ | (apply cG; first | refine cT ?_ | refine cF ?_ | refine cS (fun _ => ?_) fun _ => ?_) | (apply gW; refine sW ?_) | (apply gI; refine sI ?_) | (apply gE; refine sE ?_) | (apply gP; refine sP ?_) | (apply gC; refine sC ?_) | (apply gD; refine sD ?_) | fail)
            refine D_op rfl ?_; refine X_d (dy_call ArgsI.pf (by first | exact rfl | trivial | (intro a b; rfl)) (IClone_ct (l := U) (.inl (.tail _ (.tail _ (.tail _ hU)))) (by omega))) ?_; rintro _ _ ⟨_, ⟨A2, c2, rfl, rfl⟩, rfl⟩; refine ⟨(by first | exact .inl rfl | exact .inr Sb), D_n ?_⟩
            repeat' (first | refine go ?_ | intro _ | (apply cG; first | refine cT ?_ | refine cF ?_ | refine cS (fun _ => ?_) fun _ => ?_) | (apply gW; refine sW ?_) | (apply gI; refine sI ?_) | (apply gE; refine sE ?_) | (apply gP; refine sP ?_) | (apply gC; refine sC ?_) | (apply gD; refine sD ?_) | fail)
            rename_i qt
            exact E_join (A2, c2, km, ks, qt) trivial ⟨rfl, trivial⟩
        · refine D_op rfl ?_; refine X_d (dy_mkmapx kpr mI) ?_; rintro _ _ ⟨ks, rfl, rfl⟩; refine ⟨(by first | exact .inl rfl | exact .inr Sb), D_n ?_⟩
          repeat' (first | refine go ?_ | intro _ | (apply cG; first | refine cT ?_ | refine cF ?_ | refine cS (fun _ => ?_) fun _ => ?_) | (apply gW; refine sW ?_) | (apply gI; refine sI ?_) | (apply gE; refine sE ?_) | (apply gP; refine sP ?_) | (apply gC; refine sC ?_) | (apply gD; refine sD ?_) | fail)
          refine E3_way (DT3_two ?_)
          repeat' (first | refine go ?_ | intro _ | (apply cG; first | refine cT ?_ | refine cF ?_ | refine cS (fun _ => ?_) fun _ => ?_) | (apply gW; refine sW ?_) | (apply gI; refine sI ?_) | (apply gE; refine sE ?_) | (apply gP; refine sP ?_) | (apply gC; refine sC ?_) | (apply gD; refine sD ?_) | fail)
          refine E3_two ?_ ?_
          · refine D_op rfl ?_; refine X_d (dy_call ArgsI.pf (by first | exact rfl | trivial | (intro a b; rfl)) (IClone_ct (l := U) (.inl (.tail _ (.tail _ hU))) (by omega))) ?_; rintro _ _ ⟨_, ⟨A2, c2, rfl, rfl⟩, rfl⟩; refine ⟨(by first | exact .inl rfl | exact .inr Sb), D_n ?_⟩
            repeat' (first | refine go ?_ | intro _ | (apply cG; first | refine cT ?_ | refine cF ?_ | refine cS (fun _ => ?_) fun _ => ?_) | (apply gW; refine sW ?_) | (apply gI; refine sI ?_) | (apply gE; refine sE ?_) | (apply gP; refine sP ?_) | (apply gC; refine sC ?_) | (apply gD; refine sD ?_) | fail)
            refine E3_way (DT3_leaf ?_)
            repeat' (first | refine go ?_ | intro _ | (apply cG; first | refine cT ?_ | refine cF ?_ | refine cS (fun _ => ?_) fun _ => ?_) | (apply gW; refine sW ?_) | (apply gI; refine sI ?_) | (apply gE; refine sE ?_) | (apply gP; refine sP ?_) | (apply gC; refine sC ?_) | (apply gD; refine sD ?_) | fail)
            refine D_op rfl ?_; refine X_d (dy_mkmapx kpr mS0) ?_; rintro _ _ ⟨km, rfl, rfl⟩; refine ⟨(by first | exact .inl rfl | exact .inr Sb), D_n ?_⟩
            repeat' (first | refine go ?_ | intro _ | (apply cG; first | refine cT ?_ | refine cF ?_ | refine cS (fun _ => ?_) fun _ => ?_) | (apply gW; refine sW ?_) | (apply gI; refine sI ?_) | (apply gE; refine sE ?_) | (apply gP; refine sP ?_) | (apply gC; refine sC ?_) | (apply gD; refine sD ?_) | fail)
            rename_i qt
            exact E_join (A2, c2, km, ks, qt) trivial ⟨rfl, trivial⟩
          · refine D_op rfl ?_; refine X_d (dy_mkmapx kpr mS0) ?_; rintro _ _ ⟨km, rfl, rfl⟩; refine ⟨(by first | exact .inl rfl | exact .inr Sb), D_n ?_⟩
            repeat' (first | refine go ?_ | intro _ | (apply cG; first | refine cT ?_ | refine cF ?_ | refine cS (fun _ => ?_) fun _ => ?_) | (apply gW; refine sW ?_) | (apply gI; refine sI ?_) | (apply gE; refine sE ?_) | (apply gP; refine sP ?_) | (apply gC; refine sC ?_) | (apply gD; refine sD ?_) | fail)
            refine E3_way (DT3_leaf ?_)
            repeat' (first | refine go ?_ | intro _ | (apply cG; first | refine cT ?_ | refine cF ?_ | refine cS (fun _ => ?_) fun _ => ?_) | (apply gW; refine sW ?_) | (apply gI; refine sI ?_) | (apply gE; refine sE ?_) | (apply gP; refine sP ?_) | (apply gC; refine sC ?_) | (apply gD; refine sD ?_) | fail)
            refine D_op rfl ?_; refine X_d (dy_call ArgsI.pf (by first | exact rfl | trivial | (intro a b; rfl)) (IClone_ct (l := U) (.inl (.tail _ (.tail _ (.tail _ hU)))) (by omega))) ?_; rintro _ _ ⟨_, ⟨A2, c2, rfl, rfl⟩, rfl⟩; refine ⟨(by first | exact .inl rfl | exact .inr Sb), D_n ?_⟩
            repeat' (first | refine go ?_ | intro _ | (apply cG; first | refine cT ?_ | refine cF ?_ | refine cS (fun _ => ?_) fun _ => ?_) | (apply gW; refine sW ?_) | (apply gI; refine sI ?_) | (apply gE; refine sE ?_) | (apply gP; refine sP ?_) | (apply gC; refine sC ?_) | (apply gD; refine sD ?_) | fail)
            rename_i qt
            exact E_join (A2, c2, km, ks, qt) trivial ⟨rfl, trivial⟩
      rintro ⟨A2, c2, km, ks, qt⟩ u1 _
      dsimp only
      ((try dsimp only); refine C_n ?_; (try simp only [Nat.reduceAdd, Nat.zero_add]))
      repeat' (first | refine go ?_ | intro _ | (apply cG; first | refine cT ?_ | refine cF ?_ | refine cS (fun _ => ?_) fun _ => ?_) | (apply gW; refine sW ?_) | (apply gI; refine sI ?_) | (apply gE; refine sE ?_) | (apply gP; refine sP ?_) | (apply gC; refine sC ?_) | (apply gD; refine sD ?_) | fail)
      refine C_ownnil 3 eI ?_
      refine C_loopS (κ := Nat × Option Addr × Nat) [false, false, false, false, false, false, true, true, false, false, false, true, true, true, true, true, true, true, true, true, true, false, false, false, false, false, false, false, false, false, false, false, false, false, false, false, false, false, false, false, false, false, false, false, false, false, false, false, false, false, false, false, false, false, false, false, false, false, true, true, true, true, true, true, true, true, true, true, true, true, true, true, true, true, true, true, true, true, true, true, true, true, true, true, true, true, true, true, true, true, true, true, true, true, true, true, true, true, true, true, true, true, true, true, true, true, true, true, true, true, true, true, true, true, true, true, true, true, true, true, true, true, false, false, false, false, false, false, false, false, false, false, false, false, false, false, false, false, false, false, false, false, false, false, false, false, false, false, false, false, false, false, false, false, false, false, false, false, false, false, false, false, false, false, false, false, false, false, false, false, false, false, false, false, false, false, false, false, false, false, false, false, false, false, false, false, false, false, false, false] (fun k => [(58, .int .i64 (k.1 : Int))]) (fun k => [(0, own 3 eI (.slice k.2.1 (gsF G k.1).length k.2.2) (gsF G k.1)), (1, cel qt [.slice A2 U.length c2, .int .i64 (xs.length : Int), .map (some km), .map (some ks), .slice k.2.1 (gsF G k.1).length k.2.2, .int .i64 0] 64)]) (fun k => k.1 ≤ G.length ∧ (∀ (s : Nat) (x : List Int), s < k.1 → G[s]? = some x → (x.length : Int) = facF F ∧ (numF x 0).isSome = true) ∧ (∀ (s : Nat) (x y : List Int), s + 1 < k.1 → G[s]? = some x → G[s + 1]? = some y → CoaOk x y)) (fun k => G.length - k.1) (0, none, 0) ⟨Nat.zero_le _, fun s x h => absurd h (Nat.not_lt_zero _), fun s x y h => absurd h (Nat.not_lt_zero _)⟩ ⟨rfl, trivial⟩ ?_
      rintro ⟨s, GA, gc⟩ u2 ⟨hs, hg1, hg2⟩
      dsimp only at hs hg1 hg2
      dsimp only
      ((try dsimp only); refine C_n ?_; (try simp only [Nat.reduceAdd, Nat.zero_add]))
      have hgl := gsF_len hs
      by_cases hsl : s < G.length
      · obtain ⟨x, hx⟩ : ∃ x, xs[s]? = some x := ⟨_, List.getElem?_eq_getElem (by omega)⟩
        have hax : At xs s x := ⟨hx⟩
        have hgx := getX hxs hx
        have hxlen := hGr _ (List.mem_of_getElem? hgx)
        refine C_sub (sub_peekX (.tail _ (.tail _ (.tail _ (.tail _ (.tail _ (.tail _ hX)))))) hx) ?_
        refine C_form (.head _) fun Ax cx hxv => ?_
        have hec : EncC (eSX eI) x [.slice Ax x.b.length cx] := ⟨fun m cs h => by rw [h.1, hxv]⟩
        rw [hxv]
        obtain ⟨y, hy⟩ : ∃ y, xs[s - 1]? = some y := ⟨_, List.getElem?_eq_getElem (by omega)⟩
        refine C_sub (sub_peekX (.tail _ (.tail _ (.tail _ (.tail _ (.tail _ (.tail _ (.tail _ hX))))))) hy) ?_
        refine C_form (.head _) fun Ay cy hyv => ?_
        have hec2 : EncC (eSX eI) y [.slice Ay y.b.length cy] := ⟨fun m cs h => by rw [h.1, hyv]⟩
        rw [hyv]
        repeat' (first | refine go ?_ | intro _ | (apply cG; first | refine cT ?_ | refine cF ?_ | refine cS (fun _ => ?_) fun _ => ?_) | (apply gW; refine sW ?_) | (apply gI; refine sI ?_) | (apply gE; refine sE ?_) | (apply gP; refine sP ?_) | (apply gC; refine sC ?_) | (apply gD; refine sD ?_) | fail)
        refine O_d (dy_call ArgsI.pf (by first | exact rfl | trivial | (intro a b; rfl)) (Numbered_ct (l := x.b) (.inl (.tail _ (.head _))) (by omega))) ?_; rintro _ _ ⟨_, ⟨rfl, hLL⟩, rfl⟩; replace hLL := hLL.symm; subst hLL; refine O_n ?_
        by_cases cl : (x.b.length : Int) = (n : Int)
        rotate_left
        · obtain rfl := hqf fun h => cl (by have := (h.g s _ hgx).1; rw [hfn] at this; exact this)
          repeat' (first | refine go ?_ | intro _ | (apply cG; first | refine cT ?_ | refine cF ?_ | refine cS (fun _ => ?_) fun _ => ?_) | (apply gW; refine sW ?_) | (apply gI; refine sI ?_) | (apply gE; refine sE ?_) | (apply gP; refine sP ?_) | (apply gC; refine sC ?_) | (apply gD; refine sD ?_) | fail)
          refine E_res2 (by rfl) (by rfl) (.inr ⟨(hno _ rfl).1, rfl, rfl⟩) Sb
        cases hnm : numF x.b 0 with
        | none =>
          obtain rfl := hqf fun h => by
            have := (h.g s _ hgx).2
            rw [hnm] at this
            cases this
          simp only [Option.isSome_none, Option.getD_none]
          repeat' (first | refine go ?_ | intro _ | (apply cG; first | refine cT ?_ | refine cF ?_ | refine cS (fun _ => ?_) fun _ => ?_) | (apply gW; refine sW ?_) | (apply gI; refine sI ?_) | (apply gE; refine sE ?_) | (apply gP; refine sP ?_) | (apply gC; refine sC ?_) | (apply gD; refine sD ?_) | fail)
          refine E_res2 (by rfl) (by rfl) (.inr ⟨(hno _ rfl).1, rfl, rfl⟩) Sb
        | some many =>
          simp only [Option.isSome_some, Option.getD_some]
          have hml := numF_le hnm
          have hgs : gsF G (s + 1) = gsF G s ++ [(many : Int)] := by rw [gsF_succ hgx, hnm]; rfl
          have hg1' : ∀ (s2 : Nat) (x2 : List Int), s2 < s + 1 → G[s2]? = some x2 → (x2.length : Int) = facF F ∧ (numF x2 0).isSome = true := fun s2 x2 h h' => by
            rcases Nat.lt_or_eq_of_le (Nat.le_of_lt_succ h) with h | rfl
            · exact hg1 s2 x2 h h'
            · rw [hgx] at h'
              injection h' with h'
              subst h'
              exact ⟨by rw [hfn]; exact cl, by rw [hnm]; rfl⟩
          repeat' (first | refine go ?_ | intro _ | (apply cG; first | refine cT ?_ | refine cF ?_ | refine cS (fun _ => ?_) fun _ => ?_) | (apply gW; refine sW ?_) | (apply gI; refine sI ?_) | (apply gE; refine sE ?_) | (apply gP; refine sP ?_) | (apply gC; refine sC ?_) | (apply gD; refine sD ?_) | fail)
          refine O_d (dy_lit1 (R := eI) (many : Int) (hcs := by rfl) (hel := fun _ _ _ => by rfl)) ?_; rintro _ _ ⟨_, rfl, rfl⟩; refine O_n ?_
          repeat' (first | refine go ?_ | intro _ | (apply cG; first | refine cT ?_ | refine cF ?_ | refine cS (fun _ => ?_) fun _ => ?_) | (apply gW; refine sW ?_) | (apply gI; refine sI ?_) | (apply gE; refine sE ?_) | (apply gP; refine sP ?_) | (apply gC; refine sC ?_) | (apply gD; refine sD ?_) | fail)
          rename_i GA3 gc3
          refine O_d (dy_mkmapx kin mI) ?_; rintro _ _ ⟨ib, rfl, rfl⟩; refine O_n ?_
          cases s with
          | zero =>
            have hg2' : ∀ (s : Nat) (x y : List Int), s + 1 < 0 + 1 → G[s]? = some x → G[s + 1]? = some y → CoaOk x y := fun s2 x2 y2 h => by omega
            repeat' (first | refine go ?_ | intro _ | (apply cG; first | refine cT ?_ | refine cF ?_ | refine cS (fun _ => ?_) fun _ => ?_) | (apply gW; refine sW ?_) | (apply gI; refine sI ?_) | (apply gE; refine sE ?_) | (apply gP; refine sP ?_) | (apply gC; refine sC ?_) | (apply gD; refine sD ?_) | fail)
            refine C_loopS (κ := Nat) [false, false, false, false, false, false, true, true, false, false, false, false, false, false, false, false, true, true, true, true, true, false, false, false, false, false, false, false, false, false, false, false, false, false, false, false, false, false, false, false, false, false, false, false, false, false, false, false, false, false, false, false, false, false, false, false, false, false, false, false, false, false, false, false, false, false, false, false, false, false, false, false, false, false, false, false, false, false, false, false, false, false, false, false, false, false, false, false, false, true, true, true, true, true, true, true, true, true, true, true, true, true, true, true, true, true, true, true, true, true, true, true, true, true, true, true, true, true, true, true, true, false, false, false, false, false, false, false, false, false, false, false, false, false, false, false, false, false, false, false, false, false, false, false, false, false, false, false, false, false, false, false, false, false, false, false, false, false, false, false, false, false, false, false, false, false, false, false, false, false, false, false, false, false, false, false, false, false, false, false, false, false, false, false, false, false, false, false, false, false] (fun k => [(89, .int .i64 (k : Int))]) (fun k => []) (fun k => k = 0) (fun k => 0) 0 rfl ⟨rfl, trivial⟩ ?_
            rintro f u3 rfl
            ((try dsimp only); refine C_n ?_; (try simp only [Nat.reduceAdd, Nat.zero_add]))
            by_cases hf0 : 0 < x.b.length
            · obtain ⟨v, hv⟩ : ∃ v, x.b[0]? = some v := ⟨_, List.getElem?_eq_getElem (by omega)⟩
              have hav : At x.b 0 v := ⟨hv⟩
              repeat' (first | refine go ?_ | intro _ | (apply cG; first | refine cT ?_ | refine cF ?_ | refine cS (fun _ => ?_) fun _ => ?_) | (apply gW; refine sW ?_) | (apply gI; refine sI ?_) | (apply gE; refine sE ?_) | (apply gP; refine sP ?_) | (apply gC; refine sC ?_) | (apply gD; refine sD ?_) | fail)
              exact E_round (0 + 1, GA3, gc3) ⟨by omega, hg1', hg2'⟩ (by dsimp only; omega) ⟨rfl, trivial⟩ (by dsimp only; rw [hgs, List.length_append]; exact Sb)
            · repeat' (first | refine go ?_ | intro _ | (apply cG; first | refine cT ?_ | refine cF ?_ | refine cS (fun _ => ?_) fun _ => ?_) | (apply gW; refine sW ?_) | (apply gI; refine sI ?_) | (apply gE; refine sE ?_) | (apply gP; refine sP ?_) | (apply gC; refine sC ?_) | (apply gD; refine sD ?_) | fail)
              exact E_round (0 + 1, GA3, gc3) ⟨by omega, hg1', hg2'⟩ (by dsimp only; omega) ⟨rfl, trivial⟩ (by dsimp only; rw [hgs, List.length_append]; exact Sb)
          | succ m =>
            rw [Nat.add_sub_cancel] at hy
            have hay : At xs m y := ⟨hy⟩
            have hgy := getX hxs hy
            have hyl := (hg1 m _ (by omega) hgy).1
            rw [hfn] at hyl
            have en : ((m + 1 : Nat) : Int) - 1 = (m : Int) := by omega
            have hay0 : At xs (((m + 1 : Nat) : Int) - 1).toNat y := ⟨by rw [en, Int.toNat_natCast]; exact hy⟩
            have hay1 := hay0
            unfold Int.toNat at hay1
            have hg2' : CoaOk y.b x.b → ∀ (s : Nat) (x y : List Int), s + 1 < m + 1 + 1 → G[s]? = some x → G[s + 1]? = some y → CoaOk x y := fun hco s2 x2 y2 h h' h'' => by
              rcases Nat.lt_or_eq_of_le (Nat.le_of_lt_succ h) with h | h
              · exact hg2 s2 x2 y2 h h' h''
              · obtain rfl : s2 = m := by omega
                rw [hgy] at h'
                rw [hgx] at h''
                injection h' with h'
                injection h'' with h''
                subst h' h''
                exact hco
            repeat' (first | refine go ?_ | intro _ | (apply cG; first | refine cT ?_ | refine cF ?_ | refine cS (fun _ => ?_) fun _ => ?_) | (apply gW; refine sW ?_) | (apply gI; refine sI ?_) | (apply gE; refine sE ?_) | (apply gP; refine sP ?_) | (apply gC; refine sC ?_) | (apply gD; refine sD ?_) | fail)
            refine C_loopS (κ := Nat × List (Int × Int)) [false, false, false, false, false, false, true, true, false, false, false, false, false, false, false, false, true, true, true, true, true, false, false, false, false, false, false, false, false, false, false, false, false, false, false, false, false, false, false, false, false, false, false, false, false, false, false, false, false, false, false, false, false, false, false, false, false, false, false, false, false, false, false, false, false, false, false, false, false, false, false, false, false, false, false, false, false, false, false, false, false, false, false, false, false, false, false, false, false, true, true, true, true, true, true, true, true, true, true, true, true, true, true, true, true, true, true, true, true, true, true, true, true, true, true, true, true, true, true, true, true, false, false, false, false, false, false, false, false, false, false, false, false, false, false, false, false, false, false, false, false, false, false, false, false, false, false, false, false, false, false, false, false, false, false, false, false, false, false, false, false, false, false, false, false, false, false, false, false, false, false, false, false, false, false, false, false, false, false, false, false, false, false, false, false, false, false, false, false, false] (fun k => [(89, .int .i64 (k.1 : Int))]) (fun k => [(0, mapx kin mI ib k.2)]) (fun k => k.1 ≤ x.b.length ∧ (∀ z v, gvX z k.2 = some v → ∃ j, j < k.1 ∧ y.b[j]? = some z ∧ x.b[j]? = some v) ∧ (∀ (j : Nat) (z v : Int), j < k.1 → y.b[j]? = some z → x.b[j]? = some v → gvX z k.2 = some v)) (fun k => x.b.length - k.1) (0, []) ⟨Nat.zero_le _, fun z v h => (by cases h), fun j z v h => absurd h (Nat.not_lt_zero _)⟩ ⟨rfl, trivial⟩ ?_
            rintro ⟨f, il⟩ u3 ⟨hf, hi1, hi2⟩
            dsimp only at hf hi1 hi2
            dsimp only
            ((try dsimp only); refine C_n ?_; (try simp only [Nat.reduceAdd, Nat.zero_add]))
            by_cases hfl : f < x.b.length
            rotate_left
            · have hco : CoaOk y.b x.b := fun i k z u v hk h1 h2 h3 h4 => by
                have e1 := hi2 i z u (by have := (List.getElem?_eq_some_iff.1 h3).1; omega) h1 h3
                have e2 := hi2 k z v (by have := (List.getElem?_eq_some_iff.1 h4).1; omega) h2 h4
                rw [e1] at e2
                exact Option.some.inj e2
              repeat' (first | refine go ?_ | intro _ | (apply cG; first | refine cT ?_ | refine cF ?_ | refine cS (fun _ => ?_) fun _ => ?_) | (apply gW; refine sW ?_) | (apply gI; refine sI ?_) | (apply gE; refine sE ?_) | (apply gP; refine sP ?_) | (apply gC; refine sC ?_) | (apply gD; refine sD ?_) | fail)
              exact E_round (m + 1 + 1, GA3, gc3) ⟨by omega, hg1', hg2' hco⟩ (by dsimp only; omega) ⟨rfl, trivial⟩ (by dsimp only; rw [hgs, List.length_append]; exact Sb)
            obtain ⟨v, hv⟩ : ∃ v, x.b[f]? = some v := ⟨_, List.getElem?_eq_getElem (by omega)⟩
            obtain ⟨z, hz⟩ : ∃ v, y.b[f]? = some v := ⟨_, List.getElem?_eq_getElem (by omega)⟩
            have hav : At x.b f v := ⟨hv⟩
            have haz : At y.b f z := ⟨hz⟩
            repeat' (first | refine go ?_ | intro _ | (apply cG; first | refine cT ?_ | refine cF ?_ | refine cS (fun _ => ?_) fun _ => ?_) | (apply gW; refine sW ?_) | (apply gI; refine sI ?_) | (apply gE; refine sE ?_) | (apply gP; refine sP ?_) | (apply gC; refine sC ?_) | (apply gD; refine sD ?_) | fail)
            refine O_s (sv_lookP (K := kin) (R := mI) (k := z) (.head _) Ev.pf Ev.pf rfl) ?_
            have hnx : ∀ il', (∀ z', gvX z' il' = if z' = z then some v else gvX z' il) → (∀ z' v', gvX z' il' = some v' → ∃ j, j < f + 1 ∧ y.b[j]? = some z' ∧ x.b[j]? = some v') := fun il' hil z' v' h => by
              rw [hil] at h
              split at h
              · rename_i e
                injection h with h
                subst e h
                exact ⟨f, Nat.lt_succ_self _, hz, hv⟩
              · obtain ⟨j, h1, h2, h3⟩ := hi1 z' v' h
                exact ⟨j, Nat.lt_succ_of_lt h1, h2, h3⟩
            cases hgz : gvX z il with
            | none =>
              simp only [Option.isSome_none, Option.isSome_some, Option.map_none, Option.map_some, Option.getD_none, Option.getD_some]
              repeat' (first | refine go ?_ | intro _ | (apply cG; first | refine cT ?_ | refine cF ?_ | refine cS (fun _ => ?_) fun _ => ?_) | (apply gW; refine sW ?_) | (apply gI; refine sI ?_) | (apply gE; refine sE ?_) | (apply gP; refine sP ?_) | (apply gC; refine sC ?_) | (apply gD; refine sD ?_) | fail)
              refine O_d (dy_putx (K := kin) (R := mI) (k := z) v (i := 0) rfl Ev.pf Ev.pf Ev.pf rfl (fun _ _ _ => trivial)) ?_; rintro _ _ ⟨rfl, rfl⟩; refine O_n ?_
              try simp only [List.set_cons_zero]
              repeat' (first | refine go ?_ | intro _ | (apply cG; first | refine cT ?_ | refine cF ?_ | refine cS (fun _ => ?_) fun _ => ?_) | (apply gW; refine sW ?_) | (apply gI; refine sI ?_) | (apply gE; refine sE ?_) | (apply gP; refine sP ?_) | (apply gC; refine sC ?_) | (apply gD; refine sD ?_) | fail)
              exact E_round (f + 1, putX z v il) ⟨hfl, hnx _ fun z' => gvX_put, fun j z' v' hj h1 h2 => by
                dsimp only
                rw [gvX_put]
                rcases Nat.lt_or_eq_of_le (Nat.le_of_lt_succ hj) with h | rfl
                · have := hi2 j z' v' h h1 h2
                  rw [if_neg (fun e => by rw [e, hgz] at this; cases this)]
                  exact this
                · rw [hz] at h1
                  rw [hv] at h2
                  injection h1 with h1
                  injection h2 with h2
                  rw [if_pos h1.symm, h2]⟩ (by dsimp only; omega) ⟨rfl, trivial⟩ Sb
            | some v2 =>
              simp only [Option.isSome_none, Option.isSome_some, Option.map_none, Option.map_some, Option.getD_none, Option.getD_some]
              have hmi : mI.val v2 = .int .i64 v2 := rfl
              rw [hmi]
              by_cases hvv : v2 = v
              · subst hvv
                repeat' (first | refine go ?_ | intro _ | (apply cG; first | refine cT ?_ | refine cF ?_ | refine cS (fun _ => ?_) fun _ => ?_) | (apply gW; refine sW ?_) | (apply gI; refine sI ?_) | (apply gE; refine sE ?_) | (apply gP; refine sP ?_) | (apply gC; refine sC ?_) | (apply gD; refine sD ?_) | fail)
                refine O_d (dy_putx (K := kin) (R := mI) (k := z) v2 (i := 0) rfl Ev.pf Ev.pf Ev.pf rfl (fun _ _ _ => trivial)) ?_; rintro _ _ ⟨rfl, rfl⟩; refine O_n ?_
                try simp only [List.set_cons_zero]
                repeat' (first | refine go ?_ | intro _ | (apply cG; first | refine cT ?_ | refine cF ?_ | refine cS (fun _ => ?_) fun _ => ?_) | (apply gW; refine sW ?_) | (apply gI; refine sI ?_) | (apply gE; refine sE ?_) | (apply gP; refine sP ?_) | (apply gC; refine sC ?_) | (apply gD; refine sD ?_) | fail)
                exact E_round (f + 1, putX z v2 il) ⟨hfl, hnx _ fun z' => gvX_put, fun j z' v' hj h1 h2 => by
                  dsimp only
                  rw [gvX_put]
                  rcases Nat.lt_or_eq_of_le (Nat.le_of_lt_succ hj) with h | rfl
                  · have := hi2 j z' v' h h1 h2
                    by_cases e : z' = z
                    · rw [e, hgz] at this
                      rw [if_pos e, this]
                    · rw [if_neg e]
                      exact this
                  · rw [hz] at h1
                    rw [hv] at h2
                    injection h1 with h1
                    injection h2 with h2
                    rw [if_pos h1.symm, h2]⟩ (by dsimp only; omega) ⟨rfl, trivial⟩ Sb
              · obtain rfl := hqf fun h => by
                  obtain ⟨j, h1, h2, h3⟩ := hi1 z v2 hgz
                  exact hvv (h.co m _ _ hgy hgx f j z v v2 h1 hz h2 hv h3).symm
                repeat' (first | refine go ?_ | intro _ | (apply cG; first | refine cT ?_ | refine cF ?_ | refine cS (fun _ => ?_) fun _ => ?_) | (apply gW; refine sW ?_) | (apply gI; refine sI ?_) | (apply gE; refine sE ?_) | (apply gP; refine sP ?_) | (apply gC; refine sC ?_) | (apply gD; refine sD ?_) | fail)
                refine E_res2 (by rfl) (by rfl) (.inr ⟨(hno _ rfl).1, rfl, rfl⟩) Sb
      have hchk : ChkT U F G := ⟨hlen, hu, fun f hf => ⟨hfo.1 f hf, by have := facF_ge hf; omega⟩, by rw [hfn]; omega, hfo.2, fun s2 x h => hg1 s2 x (by have := (List.getElem?_eq_some_iff.1 h).1; omega) h, fun s2 x y h h' => hg2 s2 x y (by have := (List.getElem?_eq_some_iff.1 h').1; omega) h h'⟩
      obtain rfl : q = true := hq.2 hchk
      obtain rfl : s = G.length := by omega
      clear hg1 hg2 hqf
      repeat' (first | refine go ?_ | intro _ | (apply cG; first | refine cT ?_ | refine cF ?_ | refine cS (fun _ => ?_) fun _ => ?_) | (apply gW; refine sW ?_) | (apply gI; refine sI ?_) | (apply gE; refine sE ?_) | (apply gP; refine sP ?_) | (apply gC; refine sC ?_) | (apply gD; refine sD ?_) | fail)
      refine C_loopS (κ := Nat) [false, false, false, false, false, false, true, true, false, false, false, false, false, false, false, false, false, false, false, false, false, false, true, false, false, false, false, false, false, false, false, false, false, false, false, false, false, false, false, false, false, false, false, false, false, false, false, false, false, false, false, false, false, false, false, false, false, false, false, false, false, false, false, false, false, false, false, false, false, false, false, false, false, false, false, false, false, false, false, false, false, false, false, false, false, false, false, false, false, false, false, false, false, false, false, false, false, false, false, false, false, false, false, false, false, false, false, false, false, false, false, false, false, false, false, false, false, false, false, false, false, false, false, false, true, true, true, true, true, true, true, true, true, true, true, true, true, true, true, true, true, true, false, false, false, false, false, false, false, false, false, false, false, false, false, false, false, false, false, false, false, false, false, false, false, false, false, false, false, false, false, false, false, false, false, false, false, false, false, false, false, false, false, false, false, false, false, false, false, false] (fun k => [(124, .int .i64 (k : Int))]) (fun k => [(1, cel qt [.slice A2 U.length c2, .int .i64 (xs.length : Int), .map (some km), .map (some ks), .slice GA (gsF G G.length).length gc, .int .i64 (sumL (U.take k))] 64)]) (fun k => k ≤ U.length ∧ sumL (U.take k) ≤ 1099511627776) (fun k => U.length - k) 0 ⟨Nat.zero_le _, by simp [sumL]⟩ ⟨rfl, trivial⟩ ?_
      rintro i u3 ⟨hi, hsum⟩
      ((try dsimp only); refine C_n ?_; (try simp only [Nat.reduceAdd, Nat.zero_add]))
      by_cases hil : i < U.length
      · obtain ⟨y, hy⟩ : ∃ y, U[i]? = some y := ⟨_, List.getElem?_eq_getElem (by omega)⟩
        have hay : At U i y := ⟨hy⟩
        have hyb := hu y (List.mem_of_getElem? hy)
        have hs0 := (sumL_le hu i).1
        have hst := sumL_take hy
        by_cases hlim : sumL (U.take i) + y ≤ 1099511627776
        · repeat' (first | refine go ?_ | intro _ | (apply cG; first | refine cT ?_ | refine cF ?_ | refine cS (fun _ => ?_) fun _ => ?_) | (apply gW; refine sW ?_) | (apply gI; refine sI ?_) | (apply gE; refine sE ?_) | (apply gP; refine sP ?_) | (apply gC; refine sC ?_) | (apply gD; refine sD ?_) | fail)
          exact E_round (i + 1) ⟨hil, by rw [hst]; exact hlim⟩ (by omega) ⟨rfl, trivial⟩ (by rw [hst]; exact Sb)
        · have hc4 : chkE29 U true = 4 := by
            have := sumL_mono (fun x hx => (hu x hx).1) (i + 1)
            unfold chkE29
            rw [if_pos rfl, if_pos (by omega)]
          rw [hc4]
          repeat' (first | refine go ?_ | intro _ | (apply cG; first | refine cT ?_ | refine cF ?_ | refine cS (fun _ => ?_) fun _ => ?_) | (apply gW; refine sW ?_) | (apply gI; refine sI ?_) | (apply gE; refine sE ?_) | (apply gP; refine sP ?_) | (apply gC; refine sC ?_) | (apply gD; refine sD ?_) | fail)
          refine E_res2 (by rfl) (by rfl) (.inr ⟨by decide, rfl, rfl⟩) Sb
      obtain rfl : i = U.length := by omega
      rw [List.take_length] at hsum ⊢
      have hc0 : chkE29 U true = 0 := by
        unfold chkE29
        rw [if_pos rfl, if_neg (by omega)]
      rw [hc0]
      repeat' (first | refine go ?_ | intro _ | (apply cG; first | refine cT ?_ | refine cF ?_ | refine cS (fun _ => ?_) fun _ => ?_) | (apply gW; refine sW ?_) | (apply gI; refine sI ?_) | (apply gE; refine sE ?_) | (apply gP; refine sP ?_) | (apply gC; refine sC ?_) | (apply gD; refine sD ?_) | fail)
      refine C_sub (sub_rows0 (E := 3) (R := eI)) ?_
      refine C_sub (S := rowsM [] :: own 3 eI (.slice GA (gsF G G.length).length gc) (gsF G G.length) :: cel qt [.slice A2 U.length c2, .int .i64 (xs.length : Int), .map (some km), .map (some ks), .slice GA (gsF G G.length).length gc, .int .i64 (sumL U)] 64 :: mapx kpr mS0 km [] :: mapx kpr mI ks [] :: own 3 eI (.slice A2 U.length c2) U :: cel c5 [.slice CA xs.length cc] 59 :: L) (Sub.refl _) ?_
      refine C_loopS (κ := Nat × List ((Int × Int) × SR) × List ((Int × Int) × Int)) [false, false, false, false, false, false, false, false, false, false, false, false, false, false, false, false, false, false, false, false, false, false, false, true, true, true, true, true, false, false, false, false, false, false, false, false, false, false, false, false, false, false, false, false, false, false, false, false, false, false, false, false, false, false, false, false, false, false, false, false, false, false, false, false, false, false, false, false, false, false, false, false, false, false, false, false, false, false, false, false, false, false, false, false, false, false, false, false, false, false, false, false, false, false, false, false, false, false, false, false, false, false, false, false, false, false, false, false, false, false, false, false, false, false, false, false, false, false, false, false, false, false, false, false, false, false, false, false, false, false, false, false, false, false, false, false, false, false, false, false, false, false, false, false, true, true, true, true, true, true, true, true, true, true, true, true, true, true, true, true, true, true, true, true, true, true, true, true, true, true, true, true, true, true, true, true, true, true, true, true, true, true, true, true, true, true, true, true, true, false] (fun k => [(144, .int .i64 (k.1 : Int))]) (fun k => [(0, rowsM k.2.1), (3, mapx kpr mS0 km k.2.1), (4, mapx kpr mI ks k.2.2)]) (fun k => k.1 ≤ F.length ∧ (∀ a b, (gvX (a, b) k.2.1).map Prod.snd = optL (mbrN F G a b k.1)) ∧ (∀ a b, gvX (a, b) k.2.2 = (optL (mbrN F G a b k.1)).map (sumAt U))) (fun k => F.length - k.1) (0, [], []) ⟨Nat.zero_le _, fun a b => by rw [mbrN_zero]; rfl, fun a b => by rw [mbrN_zero]; rfl⟩ ⟨rfl, trivial⟩ ?_
      rintro ⟨i, mm, sl⟩ u4 ⟨hi2, hmm, hsl2⟩
      dsimp only at hi2 hmm hsl2
      dsimp only
      ((try dsimp only); refine C_n ?_; (try simp only [Nat.reduceAdd, Nat.zero_add]))
      by_cases hif : i < F.length
      · obtain ⟨f, hf⟩ : ∃ f, F[i]? = some f := ⟨_, List.getElem?_eq_getElem (by omega)⟩
        have hff := hchk.f f (List.mem_of_getElem? hf)
        have hfx := facF_ge (List.mem_of_getElem? hf)
        obtain ⟨k, rfl⟩ : ∃ k : Nat, f = (k : Int) := ⟨f.toNat, by omega⟩
        have haf : At F i (k : Int) := ⟨hf⟩
        obtain ⟨y, hy⟩ : ∃ y, U[i]? = some y := ⟨_, List.getElem?_eq_getElem (by omega)⟩
        have hay : At U i y := ⟨hy⟩
        have hyb := hu y (List.mem_of_getElem? hy)
        repeat' (first | refine go ?_ | intro _ | (apply cG; first | refine cT ?_ | refine cF ?_ | refine cS (fun _ => ?_) fun _ => ?_) | (apply gW; refine sW ?_) | (apply gI; refine sI ?_) | (apply gE; refine sE ?_) | (apply gP; refine sP ?_) | (apply gC; refine sC ?_) | (apply gD; refine sD ?_) | fail)
        refine C_loopS (κ := Nat × List ((Int × Int) × SR) × List ((Int × Int) × Int)) [false, false, false, false, false, false, false, false, false, false, false, false, false, false, false, false, false, false, false, false, false, false, false, false, false, true, true, true, false, false, false, false, false, false, false, false, false, false, false, false, false, false, false, false, false, false, false, false, false, false, false, false, false, false, false, false, false, false, false, false, false, false, false, false, false, false, false, false, false, false, false, false, false, false, false, false, false, false, false, false, false, false, false, false, false, false, false, false, false, false, false, false, false, false, false, false, false, false, false, false, false, false, false, false, false, false, false, false, false, false, false, false, false, false, false, false, false, false, false, false, false, false, false, false, false, false, false, false, false, false, false, false, false, false, false, false, false, false, false, false, false, false, false, false, false, false, false, false, false, false, false, false, true, true, true, true, true, true, true, true, true, true, true, true, true, true, true, true, true, true, true, true, true, true, true, true, true, true, true, true, true, true, true, true, true, true, true, true, false, false] (fun k => [(152, .int .i64 (k.1 : Int))]) (fun k => [(0, rowsM k.2.1), (3, mapx kpr mS0 km k.2.1), (4, mapx kpr mI ks k.2.2)]) (fun k => k.1 ≤ G.length ∧ (∀ a b, (gvX (a, b) k.2.1).map Prod.snd = optL (mbrN F G a b (if a < (k.1 : Int) then i + 1 else i))) ∧ (∀ a b, gvX (a, b) k.2.2 = (optL (mbrN F G a b (if a < (k.1 : Int) then i + 1 else i))).map (sumAt U))) (fun k => G.length - k.1) (0, mm, sl) ⟨Nat.zero_le _, fun a b => by dsimp only; rw [hmm, mbrN_lo], fun a b => by dsimp only; rw [hsl2, mbrN_lo]⟩ ⟨rfl, trivial⟩ ?_
        rintro ⟨s, m2, s2⟩ u5 ⟨hs2, hm2, hsl3⟩
        dsimp only at hs2 hm2 hsl3
        dsimp only
        ((try dsimp only); refine C_n ?_; (try simp only [Nat.reduceAdd, Nat.zero_add]))
        by_cases hs3 : s < G.length
        rotate_left
        · obtain rfl : s = G.length := by omega
          repeat' (first | refine go ?_ | intro _ | (apply cG; first | refine cT ?_ | refine cF ?_ | refine cS (fun _ => ?_) fun _ => ?_) | (apply gW; refine sW ?_) | (apply gI; refine sI ?_) | (apply gE; refine sE ?_) | (apply gP; refine sP ?_) | (apply gC; refine sC ?_) | (apply gD; refine sD ?_) | fail)
          exact E_round (i + 1, m2, s2) ⟨hif, fun a b => by dsimp only; rw [hm2, mbrN_hi], fun a b => by dsimp only; rw [hsl3, mbrN_hi]⟩ (by dsimp only; omega) ⟨rfl, trivial⟩ Sb
        obtain ⟨x, hx⟩ : ∃ x, xs[s]? = some x := ⟨_, List.getElem?_eq_getElem (by omega)⟩
        have hax : At xs s x := ⟨hx⟩
        have hgx := getX hxs hx
        have hxlen := (hchk.g s _ hgx).1
        obtain ⟨r, hr⟩ : ∃ r, x.b[k]? = some r := ⟨_, List.getElem?_eq_getElem (by omega)⟩
        have har : At x.b k r := ⟨hr⟩
        refine C_sub (sub_peekX (.tail _ (.tail _ (.tail _ (.tail _ (.tail _ (.tail _ (.tail _ hX))))))) hx) ?_
        refine C_form (.head _) fun Ax cx hxv => ?_
        have hec : EncC (eSX eI) x [.slice Ax x.b.length cx] := ⟨fun m cs h => by rw [h.1, hxv]⟩
        rw [hxv]
        repeat' (first | refine go ?_ | intro _ | (apply cG; first | refine cT ?_ | refine cF ?_ | refine cS (fun _ => ?_) fun _ => ?_) | (apply gW; refine sW ?_) | (apply gI; refine sI ?_) | (apply gE; refine sE ?_) | (apply gP; refine sP ?_) | (apply gC; refine sC ?_) | (apply gD; refine sD ?_) | fail)
        rename_i ck
        obtain ⟨rest, hr1, hr2⟩ := rowsM_step ((s : Int), r) m2
        obtain ⟨e, he⟩ : ∃ e, (gvX ((s : Int), r) m2).getD nilE = e := ⟨_, rfl⟩
        rw [he] at hr1
        have hls : mbrN F G (s : Int) r (if (s : Int) < (s : Int) then i + 1 else i) = mbrN F G (s : Int) r i := by rw [if_neg (by omega)]
        have hol : e.2 = mbrN F G (s : Int) r i := by
          have h1 := hm2 (s : Int) r
          rw [hls] at h1
          rw [← he]
          cases hg : gvX ((s : Int), r) m2 with
          | none =>
            rw [hg] at h1
            have h2 := congrArg (fun o => o.getD []) h1
            simp only [optL_getD, Option.map_none, Option.getD_none] at h2
            exact h2
          | some e2 =>
            rw [hg] at h1
            have h2 := congrArg (fun o => o.getD []) h1
            simp only [optL_getD, Option.map_some, Option.getD_some] at h2
            exact h2
        have hsv : (gvX ((s : Int), r) s2).getD 0 = sumAt U (mbrN F G (s : Int) r i) := by
          rw [hsl3, hls]
          unfold optL
          split
          · rename_i h0; rw [h0]; rfl
          · rfl
        have hsb := sumAt_bd hu (mbrN_in (F := F) (G := G) (a := (s : Int)) (b := r) (n := i)) (by omega) (by have := mbrN_len (F := F) (G := G) (a := (s : Int)) (b := r) (n := i); omega)
        have hoL := mbrN_len (F := F) (G := G) (a := (s : Int)) (b := r) (n := i)
        rw [← hol] at hsv hsb hoL
        obtain ⟨v, hv⟩ : ∃ v, (gvX ((s : Int), r) s2).getD 0 = v := ⟨_, rfl⟩
        rw [hv] at hsv
        rw [← hsv] at hsb
        have hup := mbrN_succ (F := F) (n := i) hgx hf hr
        refine C_sub (S := rowsM m2 :: cel ck [.int .i64 (s : Int), .int .i64 r] 43 :: own 3 eI (.slice GA (gsF G G.length).length gc) (gsF G G.length) :: cel qt [.slice A2 U.length c2, .int .i64 (xs.length : Int), .map (some km), .map (some ks), .slice GA (gsF G G.length).length gc, .int .i64 (sumL U)] 64 :: mapx kpr mS0 km m2 :: mapx kpr mI ks s2 :: own 3 eI (.slice A2 U.length c2) U :: cel c5 [.slice CA xs.length cc] 59 :: L) Sb ?_
        refine C_sub (hr1 _) ?_
        refine C_fact (fun w s => own_form29 s) ?_
        rintro ⟨A9, c9, e9⟩
        rw [e9]
        have hve : mS0.val ((gvX ((s : Int), r) m2).getD nilE) = .slice A9 e.2.length c9 := by rw [he]; exact e9
        obtain ⟨ol, hole⟩ : ∃ ol, e.2 = ol := ⟨_, rfl⟩
        rw [hole] at hol hsv hoL hve ⊢
        refine C_draw (n := 99) [cel qt [.slice A2 U.length c2, .int .i64 (xs.length : Int), .map (some km), .map (some ks), .slice GA (gsF G G.length).length gc, .int .i64 (sumL U)] 64, cel ck [.int .i64 (s : Int), .int .i64 r] 43] [(0, 1), (1, 1), (2, 1), (3, 1), (4, 1), (5, 1), (6, 0), (7, 0), (8, 1), (10, 1), (9, 0), (11, 0)] (by kernel_rfl) (by kernel_rfl) Sb ?_
        repeat' (first | refine go ?_ | intro _ | (apply cG; first | refine cT ?_ | refine cF ?_ | refine cS (fun _ => ?_) fun _ => ?_) | (apply gW; refine sW ?_) | (apply gI; refine sI ?_) | (apply gE; refine sE ?_) | (apply gP; refine sP ?_) | (apply gC; refine sC ?_) | (apply gD; refine sD ?_) | fail)
        refine D_d rfl (dy_lit1 (R := eI) (i : Int) (hcs := by rfl) (hel := fun _ _ _ => by rfl)) ?_; rintro _ _ ⟨_, rfl, rfl⟩; refine ⟨(by first | exact .inl rfl | exact .inr Sb), D_n ?_⟩
        repeat' (first | refine go ?_ | intro _ | (apply cG; first | refine cT ?_ | refine cF ?_ | refine cS (fun _ => ?_) fun _ => ?_) | (apply gW; refine sW ?_) | (apply gI; refine sI ?_) | (apply gE; refine sE ?_) | (apply gP; refine sP ?_) | (apply gC; refine sC ?_) | (apply gD; refine sD ?_) | fail)
        refine D_op rfl ?_; refine X_d (dy_ment (K := kpr) (R := mS0) (k := ((s : Int), r)) nilE (i := 6) rfl Ev.pf Ev.pf rfl rfl (fun _ _ _ => trivial)) ?_; rintro _ _ ⟨st, rfl, rfl⟩; (try simp only [List.set_cons_succ, List.set_cons_zero]); refine ⟨(by first | exact .inl rfl | exact .inr Sb), D_n ?_⟩
        rw [hve]
        repeat' (first | refine go ?_ | intro _ | (apply cG; first | refine cT ?_ | refine cF ?_ | refine cS (fun _ => ?_) fun _ => ?_) | (apply gW; refine sW ?_) | (apply gI; refine sI ?_) | (apply gE; refine sE ?_) | (apply gP; refine sP ?_) | (apply gC; refine sC ?_) | (apply gD; refine sD ?_) | fail)
        rename_i w8 A8 c8
        refine D_op rfl ?_; refine X_d (dy_mest (K := kpr) (R := mS0) (((A8, ol.length + 1, c8), ol ++ [(i : Int)]) : SR) (i := 6) rfl Ev.pf Ev.pf Ev.pf rfl (fun _ _ _ => trivial)) ?_; rintro _ _ ⟨rfl, rfl⟩; (try simp only [List.set_cons_succ, List.set_cons_zero]); refine ⟨(by first | exact .inl rfl | exact .inr Sb), D_n ?_⟩
        rw [putX_ens]
        repeat' (first | refine go ?_ | intro _ | (apply cG; first | refine cT ?_ | refine cF ?_ | refine cS (fun _ => ?_) fun _ => ?_) | (apply gW; refine sW ?_) | (apply gI; refine sI ?_) | (apply gE; refine sE ?_) | (apply gP; refine sP ?_) | (apply gC; refine sC ?_) | (apply gD; refine sD ?_) | fail)
        refine C_sub (S := own 3 eI (.slice A8 (ol.length + 1) c8) (ol ++ [(i : Int)]) :: rest :: cel ck [.int .i64 (s : Int), .int .i64 r] 43 :: own 3 eI (.slice GA (gsF G G.length).length gc) (gsF G G.length) :: cel qt [.slice A2 U.length c2, .int .i64 (xs.length : Int), .map (some km), .map (some ks), .slice GA (gsF G G.length).length gc, .int .i64 (sumL U)] 64 :: mapx kpr mS0 km (putX ((s : Int), r) ((A8, ol.length + 1, c8), ol ++ [(i : Int)]) m2) :: mapx kpr mI ks s2 :: own 3 eI (.slice A2 U.length c2) U :: cel c5 [.slice CA xs.length cc] 59 :: L) Sb ?_
        refine C_sub (hr2 _ _ _ _ _) ?_
        obtain ⟨m3, hm3⟩ : ∃ m3, putX ((s : Int), r) ((A8, ol.length + 1, c8), ol ++ [(i : Int)]) m2 = m3 := ⟨_, rfl⟩
        rw [hm3]
        refine C_sub (sub_dup (.tail _ (.tail _ (.tail _ (.tail _ (.tail _ (.tail _ (.tail _ (.tail _ hU))))))))) ?_
        refine C_draw (n := 13) [mapz kpr mI ks ((s : Int), r) 0 v, rd eI (.slice UA U.length uc) U, cel qt [.slice A2 U.length c2, .int .i64 (xs.length : Int), .map (some km), .map (some ks), .slice GA (gsF G G.length).length gc, .int .i64 (sumL U)] 64, cel ck [.int .i64 (s : Int), .int .i64 r] 43] [(0, 1), (1, 1), (2, 1), (3, 1), (4, 1), (5, 1), (6, 1), (7, 1), (8, 1), (9, 1), (10, 1), (11, 0), (12, 1), (13, 0)] (by kernel_rfl) (by kernel_rfl) (Sub.trans (B := mapx kpr mI ks s2 :: rd eI (.slice UA U.length uc) U :: cel qt [.slice A2 U.length c2, .int .i64 (xs.length : Int), .map (some km), .map (some ks), .slice GA (gsF G G.length).length gc, .int .i64 (sumL U)] 64 :: cel ck [.int .i64 (s : Int), .int .i64 r] 43 :: []) Sb (by rw [← hv]; exact sub_mapz)) ?_
        repeat' (first | refine go ?_ | intro _ | (apply cG; first | refine cT ?_ | refine cF ?_ | refine cS (fun _ => ?_) fun _ => ?_) | (apply gW; refine sW ?_) | (apply gI; refine sI ?_) | (apply gE; refine sE ?_) | (apply gP; refine sP ?_) | (apply gC; refine sC ?_) | (apply gD; refine sD ?_) | fail)
        refine D_op rfl ?_; refine X_s (sv_lookz (K := kpr) (R := mI) (k := ((s : Int), r)) (z := 0) (.head _) Ev.pf Ev.pf rfl) ?_
        have hmi : mI.val v = .int .i64 v := rfl
        rw [hmi]
        repeat' (first | refine go ?_ | intro _ | (apply cG; first | refine cT ?_ | refine cF ?_ | refine cS (fun _ => ?_) fun _ => ?_) | (apply gW; refine sW ?_) | (apply gI; refine sI ?_) | (apply gE; refine sE ?_) | (apply gP; refine sP ?_) | (apply gC; refine sC ?_) | (apply gD; refine sD ?_) | fail)
        refine D_op rfl ?_; refine X_d (dy_ment (K := kpr) (R := mI) (k := ((s : Int), r)) 0 (i := 6) rfl Ev.pf Ev.pf rfl rfl (fun _ _ _ => trivial)) ?_; rintro _ _ ⟨st2, rfl, rfl⟩; (try simp only [List.set_cons_succ, List.set_cons_zero]); refine ⟨.inr (Sub.trans (B := mape kpr mI ks (ensX ((s : Int), r) 0 s2) ((s : Int), r) st2 :: rd eI (.slice UA U.length uc) U :: cel qt [.slice A2 U.length c2, .int .i64 (xs.length : Int), .map (some km), .map (some ks), .slice GA (gsF G G.length).length gc, .int .i64 (sumL U)] 64 :: cel ck [.int .i64 (s : Int), .int .i64 r] 43 :: []) Sb (by rw [← hv]; exact sub_mapz2)), D_n ?_⟩
        repeat' (first | refine go ?_ | intro _ | (apply cG; first | refine cT ?_ | refine cF ?_ | refine cS (fun _ => ?_) fun _ => ?_) | (apply gW; refine sW ?_) | (apply gI; refine sI ?_) | (apply gE; refine sE ?_) | (apply gP; refine sP ?_) | (apply gC; refine sC ?_) | (apply gD; refine sD ?_) | fail)
        refine D_op rfl ?_; refine X_d (dy_mest (K := kpr) (R := mI) (v + y) (i := 6) rfl Ev.pf Ev.pf Ev.pf rfl (fun _ _ _ => trivial)) ?_; rintro _ _ ⟨rfl, rfl⟩; (try simp only [List.set_cons_succ, List.set_cons_zero]); refine ⟨(by first | exact .inl rfl | exact .inr Sb), D_n ?_⟩
        rw [putX_ens]
        repeat' (first | refine go ?_ | intro _ | (apply cG; first | refine cT ?_ | refine cF ?_ | refine cS (fun _ => ?_) fun _ => ?_) | (apply gW; refine sW ?_) | (apply gI; refine sI ?_) | (apply gE; refine sE ?_) | (apply gP; refine sP ?_) | (apply gC; refine sC ?_) | (apply gD; refine sD ?_) | fail)
        refine E_round (s + 1, m3, putX ((s : Int), r) (v + y) s2) ⟨hs3, fun a b => ?_, fun a b => ?_⟩ (by dsimp only; omega) ⟨rfl, trivial⟩ Sb
        · dsimp only
          rw [← hm3, gvX_put, show ((s + 1 : Nat) : Int) = (s : Int) + 1 from rfl, hup]
          by_cases hab : (a, b) = ((s : Int), r)
          · rw [if_pos hab, if_pos hab]
            obtain ⟨rfl, rfl⟩ := Prod.mk.inj hab
            rw [hls, ← hol, optL_app]
            rfl
          · rw [if_neg hab, if_neg hab, List.append_nil]
            exact hm2 a b
        · dsimp only
          rw [gvX_put, show ((s + 1 : Nat) : Int) = (s : Int) + 1 from rfl, hup]
          by_cases hab : (a, b) = ((s : Int), r)
          · rw [if_pos hab, if_pos hab]
            obtain ⟨rfl, rfl⟩ := Prod.mk.inj hab
            rw [hls, ← hol, optL_app, Option.map_some, sumAt_app hy, hsv]
          · rw [if_neg hab, if_neg hab, List.append_nil]
            exact hsl3 a b
      obtain rfl : i = F.length := by omega
      refine C_frzRows (by rw [List.length_map, List.length_map]) ?_
      refine C_sub (S := faS eI (mm.map fun p => p.2.1) (mm.map fun p => p.2.2) :: mapx kpr mS0 km mm :: own 3 eI (.slice GA (gsF G G.length).length gc) (gsF G G.length) :: cel qt [.slice A2 U.length c2, .int .i64 (xs.length : Int), .map (some km), .map (some ks), .slice GA (gsF G G.length).length gc, .int .i64 (sumL U)] 64 :: mapx kpr mI ks sl :: own 3 eI (.slice A2 U.length c2) U :: cel c5 [.slice CA xs.length cc] 59 :: L) Sb ?_
      refine C_sub sub_mapS ?_
      refine C_frz 1 ?_
      have hxg : (xs.length : Int) = ((gsF G G.length).length : Int) := by rw [hgl]; omega
      repeat' (first | refine go ?_ | intro _ | (apply cG; first | refine cT ?_ | refine cF ?_ | refine cS (fun _ => ?_) fun _ => ?_) | (apply gW; refine sW ?_) | (apply gI; refine sI ?_) | (apply gE; refine sE ?_) | (apply gP; refine sP ?_) | (apply gC; refine sC ?_) | (apply gD; refine sD ?_) | fail)
      refine E_sub (S := cel qt [.slice A2 U.length c2, .int .i64 (xs.length : Int), .map (some km), .map (some ks), .slice GA (gsF G G.length).length gc, .int .i64 (sumL U)] 64 :: own 3 eI (.slice A2 U.length c2) U :: mapx kpr mS km mm :: mapx kpr mI ks sl :: rd eI (.slice GA (gsF G G.length).length gc) (gsF G G.length) :: L) Sb ?_
      rw [hxg]
      refine E_res2 (by rfl) (by rfl) (.inl ⟨by first | trivial | rfl, ⟨qt, km, ks, A2, GA, c2, gc, U, gsF G G.length, mm, sl, sumL U⟩, ⟨rfl, rfl, rfl, hmm, hsl2⟩, rfl, rfl⟩) ?_
      exact tbl_sub (t := ⟨qt, km, ks, A2, GA, c2, gc, U, gsF G G.length, mm, sl, sumL U⟩)
end
end Go.Proofs.Ytlmabajgnjiigaa
