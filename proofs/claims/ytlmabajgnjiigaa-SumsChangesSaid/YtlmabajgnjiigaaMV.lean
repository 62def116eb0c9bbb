/-
  Sums: the reference's Check.
-/
import Derived.Test.YtlmabajgnjiigaaMU
import Derived.Test.YtlmabajgnjiigaaMR
namespace Go.Proofs.Ytlmabajgnjiigaa
open Go Go.RowKit
set_option linter.unusedVariables false
set_option linter.unusedSimpArgs false
set_option maxRecDepth 20000
set_option synthInstance.maxSize 100000
set_option synthInstance.maxHeartbeats 400000
/-- a table that fits -/
structure ChkT (U F : List Int) (G : List (List Int)) : Prop where
  len : U.length = F.length
  u : ∀ x ∈ U, 0 ≤ x ∧ x ≤ 1099511627776
  f : ∀ x ∈ F, 0 ≤ x ∧ x ≤ 1099511627776
  many : facF F ≤ (F.length : Int)
  each : ∀ n : Nat, (n : Int) < facF F → (n : Int) ∈ F
  g : ∀ (s : Nat) (x : List Int), G[s]? = some x → (x.length : Int) = facF F ∧ (numF x 0).isSome = true
  co : ∀ (s : Nat) (x y : List Int), G[s]? = some x → G[s + 1]? = some y → CoaOk x y
def chkE29 (U : List Int) (q : Bool) : Int := if q = true then (if sumL U > 1099511627776 then 4 else 0) else 1
section
variable {W0 : World} {L : List HP}
set_option maxHeartbeats 4000000 in
theorem rCheck_ct {t : RT} {G : List (List Int)} {q : Bool} (ht : RTin t L) (hxs : t.xs.map SX.b = G) (hl : t.U.length ≤ 1000) (hF : t.F.length ≤ 1000000) (hG : G.length ≤ 1000000) (hGl : ∀ x ∈ G, x.length ≤ 1000000) (hq : q = true ↔ ChkT t.U t.F G) :
    CT Try.prog 24 #[.pointer (some ⟨t.p, 0, none⟩)] W0 L fun r L' => r = .int .i64 (chkE29 t.U q) ∧ L' = L := by
  obtain ⟨p, A1, B1, C1, ca, cb, cc, U, F, xs⟩ := t
  have ht0 := ht
  obtain ⟨h1, h2, h3, h4⟩ := ht
  dsimp only at h1 h2 h3 h4 hxs hl hF hq ⊢
  have hxl : xs.length = G.length := by rw [← hxs, List.length_map]
  have hip : InC p L _ _ := ⟨h1⟩
  have hsU : ScA A1 L U.length ca eI U := ⟨.inl h2⟩
  have hsF : ScA B1 L F.length cb eI F := ⟨.inl h3⟩
  have hsX : ScA C1 L xs.length cc (eSX eI) xs := ⟨.inl h4⟩
  have hS1 : Sub L [cel p [.slice A1 U.length ca, .slice B1 F.length cb, .slice C1 xs.length cc] 32] := sub_mem1 h1
  have hqf : ¬ ChkT U F G → q = false := fun h => by
    cases q with
    | false => rfl
    | true => exact absurd (hq.1 rfl) h
  have hf1 : chkE29 U false = 1 := rfl
  refine CT_enter Try.func24 rfl ?_; (simp only [Try.ntmps24, List.size_toArray, List.length_cons, List.length_nil, Nat.reduceAdd, Nat.reduceSub, Array.replicate_succ, Array.replicate_zero, List.push_toArray, List.append_toArray, List.nil_append, List.cons_append])
  repeat' (first | refine go ?_ | intro _ | (apply cG; first | refine cT ?_ | refine cF ?_ | refine cS (fun _ => ?_) fun _ => ?_) | (apply gW; refine sW ?_) | (apply gI; refine sI ?_) | (apply gE; refine sE ?_) | (apply gP; refine sP ?_) | (apply gC; refine sC ?_) | (apply gD; refine sD ?_) | fail)
  refine C_draw (n := 99) [cel p [.slice A1 U.length ca, .slice B1 F.length cb, .slice C1 xs.length cc] 32] [(0, 1), (1, 1), (2, 1), (3, 1), (4, 1), (5, 1), (6, 1), (7, 1), (8, 1), (9, 1), (10, 1)] (by kernel_rfl) (by kernel_rfl) hS1 ?_
  by_cases hlen : U.length = F.length
  rotate_left
  · obtain rfl := hqf fun h => hlen h.len
    rw [hf1]
    have : ¬ ((U.length : Int) = (F.length : Int)) := by omega
    repeat' (first | refine go ?_ | intro _ | (apply cG; first | refine cT ?_ | refine cF ?_ | refine cS (fun _ => ?_) fun _ => ?_) | (apply gW; refine sW ?_) | (apply gI; refine sI ?_) | (apply gE; refine sE ?_) | (apply gP; refine sP ?_) | (apply gC; refine sC ?_) | (apply gD; refine sD ?_) | fail)
    refine E_res1 (by rfl) (by rfl) ⟨rfl, rfl⟩ Sb
  have hlen2 : (U.length : Int) = (F.length : Int) := by omega
  repeat' (first | refine go ?_ | intro _ | (apply cG; first | refine cT ?_ | refine cF ?_ | refine cS (fun _ => ?_) fun _ => ?_) | (apply gW; refine sW ?_) | (apply gI; refine sI ?_) | (apply gE; refine sE ?_) | (apply gP; refine sP ?_) | (apply gC; refine sC ?_) | (apply gD; refine sD ?_) | fail)
  refine C_loopS (κ := Nat) [false, false, true, true, false, false, false, false, false, false, false, false, false, false, false, false, false, false, true, true, true, true, true, true, true, true, true, true, true, true, true, true, true, true, true, true, true, true, true, true, true, true, true, true, true, true, true, true, true, true, true, true, true, true, true, true, true, true, true, true, true, true, true, true, true, false, false, false, false, false, false, false, false, false, false, false, false, false, false, false, false, false, false, false, false, false, false, false, false, false, false, false, false, false, false, false, false, false, false, false, false, false, false, false, false, false, false, false, false, false, false, false, false, false, false, false, false, false, false, false, false, false, false, false, false, false, false, false, false, false, false, false, false, false, false, false, false, false, false, false, false, false] (fun k => [(3, .int .i64 (k : Int))]) (fun k => []) (fun k => k ≤ U.length ∧ (∀ j x, j < k → U[j]? = some x → 0 ≤ x ∧ x ≤ 1099511627776) ∧ (∀ j x, j < k → F[j]? = some x → 0 ≤ x ∧ x ≤ 1099511627776)) (fun k => U.length - k) 0 ⟨Nat.zero_le _, fun j x h => absurd h (Nat.not_lt_zero _), fun j x h => absurd h (Nat.not_lt_zero _)⟩ ⟨rfl, trivial⟩ ?_
  rintro i u ⟨hi, hu, hf⟩
  ((try dsimp only); refine C_n ?_; (try simp only [Nat.reduceAdd, Nat.zero_add]))
  by_cases hil : i < U.length
  · obtain ⟨x, hx⟩ : ∃ x, U[i]? = some x := ⟨_, List.getElem?_eq_getElem (by omega)⟩
    obtain ⟨y, hy⟩ : ∃ y, F[i]? = some y := ⟨_, List.getElem?_eq_getElem (by omega)⟩
    have hax : At U i x := ⟨hx⟩
    have hay : At F i y := ⟨hy⟩
    by_cases c1 : x < 0
    · obtain rfl := hqf fun h => by have := h.u x (List.mem_of_getElem? hx); omega
      rw [hf1]
      repeat' (first | refine go ?_ | intro _ | (apply cG; first | refine cT ?_ | refine cF ?_ | refine cS (fun _ => ?_) fun _ => ?_) | (apply gW; refine sW ?_) | (apply gI; refine sI ?_) | (apply gE; refine sE ?_) | (apply gP; refine sP ?_) | (apply gC; refine sC ?_) | (apply gD; refine sD ?_) | fail)
      refine E_res1 (by rfl) (by rfl) ⟨rfl, rfl⟩ Sb
    by_cases c2 : 1099511627776 < x
    · obtain rfl := hqf fun h => by have := h.u x (List.mem_of_getElem? hx); omega
      rw [hf1]
      repeat' (first | refine go ?_ | intro _ | (apply cG; first | refine cT ?_ | refine cF ?_ | refine cS (fun _ => ?_) fun _ => ?_) | (apply gW; refine sW ?_) | (apply gI; refine sI ?_) | (apply gE; refine sE ?_) | (apply gP; refine sP ?_) | (apply gC; refine sC ?_) | (apply gD; refine sD ?_) | fail)
      refine E_res1 (by rfl) (by rfl) ⟨rfl, rfl⟩ Sb
    by_cases c3 : y < 0
    · obtain rfl := hqf fun h => by have := h.f y (List.mem_of_getElem? hy); omega
      rw [hf1]
      repeat' (first | refine go ?_ | intro _ | (apply cG; first | refine cT ?_ | refine cF ?_ | refine cS (fun _ => ?_) fun _ => ?_) | (apply gW; refine sW ?_) | (apply gI; refine sI ?_) | (apply gE; refine sE ?_) | (apply gP; refine sP ?_) | (apply gC; refine sC ?_) | (apply gD; refine sD ?_) | fail)
      refine E_res1 (by rfl) (by rfl) ⟨rfl, rfl⟩ Sb
    by_cases c4 : 1099511627776 < y
    · obtain rfl := hqf fun h => by have := h.f y (List.mem_of_getElem? hy); omega
      rw [hf1]
      repeat' (first | refine go ?_ | intro _ | (apply cG; first | refine cT ?_ | refine cF ?_ | refine cS (fun _ => ?_) fun _ => ?_) | (apply gW; refine sW ?_) | (apply gI; refine sI ?_) | (apply gE; refine sE ?_) | (apply gP; refine sP ?_) | (apply gC; refine sC ?_) | (apply gD; refine sD ?_) | fail)
      refine E_res1 (by rfl) (by rfl) ⟨rfl, rfl⟩ Sb
    repeat' (first | refine go ?_ | intro _ | (apply cG; first | refine cT ?_ | refine cF ?_ | refine cS (fun _ => ?_) fun _ => ?_) | (apply gW; refine sW ?_) | (apply gI; refine sI ?_) | (apply gE; refine sE ?_) | (apply gP; refine sP ?_) | (apply gC; refine sC ?_) | (apply gD; refine sD ?_) | fail)
    exact E_round (i + 1) ⟨hil, fun j z hj hz => by
      rcases Nat.lt_or_eq_of_le (Nat.le_of_lt_succ hj) with h | rfl
      · exact hu j z h hz
      · rw [hx] at hz
        injection hz with hz
        omega, fun j z hj hz => by
      rcases Nat.lt_or_eq_of_le (Nat.le_of_lt_succ hj) with h | rfl
      · exact hf j z h hz
      · rw [hy] at hz
        injection hz with hz
        omega⟩ (by omega) ⟨rfl, trivial⟩ Sb
  have hU : ∀ x ∈ U, 0 ≤ x ∧ x ≤ 1099511627776 := fun x hx => by
    obtain ⟨j, hj⟩ := List.getElem?_of_mem hx
    exact hu j x (by have := (List.getElem?_eq_some_iff.1 hj).1; omega) hj
  have hFF : ∀ x ∈ F, 0 ≤ x ∧ x ≤ 1099511627776 := fun x hx => by
    obtain ⟨j, hj⟩ := List.getElem?_of_mem hx
    exact hf j x (by have := (List.getElem?_eq_some_iff.1 hj).1; omega) hj
  clear hu hf
  repeat' (first | refine go ?_ | intro _ | (apply cG; first | refine cT ?_ | refine cF ?_ | refine cS (fun _ => ?_) fun _ => ?_) | (apply gW; refine sW ?_) | (apply gI; refine sI ?_) | (apply gE; refine sE ?_) | (apply gP; refine sP ?_) | (apply gC; refine sC ?_) | (apply gD; refine sD ?_) | fail)
  refine O_d (dy_call ArgsI.pf (by first | exact rfl | trivial | (intro a b; rfl)) (rFaces_ct ht0 (fun x hx => by have := hFF x hx; omega) hF)) ?_; rintro _ _ ⟨_, ⟨rfl, hLL⟩, rfl⟩; replace hLL := hLL.symm; subst hLL; refine O_n ?_
  have hfb := facF_le (fun x hx => by have := hFF x hx; omega) F.length
  dsimp only
  rw [List.take_length] at hfb
  obtain ⟨n, hn⟩ : ∃ n : Nat, facF F = (n : Int) := ⟨(facF F).toNat, by omega⟩
  rw [hn] at hfb ⊢
  by_cases hnF : (n : Int) ≤ (F.length : Int)
  rotate_left
  · obtain rfl := hqf fun h => hnF (by have := h.many; rw [hn] at this; exact this)
    rw [hf1]
    repeat' (first | refine go ?_ | intro _ | (apply cG; first | refine cT ?_ | refine cF ?_ | refine cS (fun _ => ?_) fun _ => ?_) | (apply gW; refine sW ?_) | (apply gI; refine sI ?_) | (apply gE; refine sE ?_) | (apply gP; refine sP ?_) | (apply gC; refine sC ?_) | (apply gD; refine sD ?_) | fail)
    refine E_res1 (by rfl) (by rfl) ⟨rfl, rfl⟩ Sb
  repeat' (first | refine go ?_ | intro _ | (apply cG; first | refine cT ?_ | refine cF ?_ | refine cS (fun _ => ?_) fun _ => ?_) | (apply gW; refine sW ?_) | (apply gI; refine sI ?_) | (apply gE; refine sE ?_) | (apply gP; refine sP ?_) | (apply gC; refine sC ?_) | (apply gD; refine sD ?_) | fail)
  refine C_loopS (κ := Nat) [false, false, true, false, false, true, false, false, false, false, false, false, false, false, false, false, false, false, false, false, false, false, false, false, false, false, false, false, false, false, false, false, false, false, false, false, false, false, false, false, false, false, false, false, false, false, false, false, false, false, false, false, false, false, false, false, false, false, false, false, false, false, false, false, false, false, false, false, false, false, false, false, false, false, true, true, true, true, true, true, true, true, true, true, true, true, false, false, false, false, false, false, false, false, false, false, false, false, false, false, false, false, false, false, false, false, false, false, false, false, false, false, false, false, false, false, false, false, false, false, false, false, false, false, false, false, false, false, false, false, false, false, false, false, false, false, false, false, false, false, false, false] (fun k => [(5, .int .i64 (k : Int))]) (fun k => []) (fun k => k ≤ n ∧ ∀ j : Nat, j < k → (j : Int) ∈ F) (fun k => n - k) 0 ⟨Nat.zero_le _, fun j h => absurd h (Nat.not_lt_zero _)⟩ ⟨rfl, trivial⟩ ?_
  rintro i2 u2 ⟨hi2, he⟩
  ((try dsimp only); refine C_n ?_; (try simp only [Nat.reduceAdd, Nat.zero_add]))
  by_cases hil2 : i2 < n
  · repeat' (first | refine go ?_ | intro _ | (apply cG; first | refine cT ?_ | refine cF ?_ | refine cS (fun _ => ?_) fun _ => ?_) | (apply gW; refine sW ?_) | (apply gI; refine sI ?_) | (apply gE; refine sE ?_) | (apply gP; refine sP ?_) | (apply gC; refine sC ?_) | (apply gD; refine sD ?_) | fail)
    refine O_d (dy_call ArgsI.pf (by first | exact rfl | trivial | (intro a b; rfl)) (Has_ct (l := F) (n := (i2 : Int)) (.inl h3) (by omega))) ?_; rintro _ _ ⟨_, ⟨rfl, hLL⟩, rfl⟩; replace hLL := hLL.symm; subst hLL; refine O_n ?_
    cases hm : memB F (i2 : Int)
    · obtain rfl := hqf fun h => by
        have := h.each i2 (by rw [hn]; omega)
        exact absurd this (of_decide_eq_false hm)
      rw [hf1]
      repeat' (first | refine go ?_ | intro _ | (apply cG; first | refine cT ?_ | refine cF ?_ | refine cS (fun _ => ?_) fun _ => ?_) | (apply gW; refine sW ?_) | (apply gI; refine sI ?_) | (apply gE; refine sE ?_) | (apply gP; refine sP ?_) | (apply gC; refine sC ?_) | (apply gD; refine sD ?_) | fail)
      refine E_res1 (by rfl) (by rfl) ⟨rfl, rfl⟩ Sb
    · repeat' (first | refine go ?_ | intro _ | (apply cG; first | refine cT ?_ | refine cF ?_ | refine cS (fun _ => ?_) fun _ => ?_) | (apply gW; refine sW ?_) | (apply gI; refine sI ?_) | (apply gE; refine sE ?_) | (apply gP; refine sP ?_) | (apply gC; refine sC ?_) | (apply gD; refine sD ?_) | fail)
      exact E_round (i2 + 1) ⟨hil2, fun j hj => by
        rcases Nat.lt_or_eq_of_le (Nat.le_of_lt_succ hj) with h | rfl
        · exact he j h
        · exact of_decide_eq_true hm⟩ (by omega) ⟨rfl, trivial⟩ Sb
  have hea : ∀ j : Nat, (j : Int) < facF F → (j : Int) ∈ F := fun j hj => he j (by rw [hn] at hj; omega)
  clear he
  repeat' (first | refine go ?_ | intro _ | (apply cG; first | refine cT ?_ | refine cF ?_ | refine cS (fun _ => ?_) fun _ => ?_) | (apply gW; refine sW ?_) | (apply gI; refine sI ?_) | (apply gE; refine sE ?_) | (apply gP; refine sP ?_) | (apply gC; refine sC ?_) | (apply gD; refine sD ?_) | fail)
  refine C_loopS (κ := Nat) [false, false, true, false, false, false, true, false, false, false, false, false, false, false, false, false, false, false, false, false, false, false, false, false, false, false, false, false, false, false, false, false, false, false, false, false, false, false, false, false, false, false, false, false, false, false, false, false, false, false, false, false, false, false, false, false, false, false, false, false, false, false, false, false, false, false, false, false, false, false, false, false, false, false, false, false, false, false, false, false, false, false, false, false, false, false, true, true, true, true, true, true, true, true, true, true, true, true, true, true, true, true, true, true, true, true, true, true, true, true, true, true, true, true, true, true, true, true, true, true, true, true, true, true, true, true, true, true, true, true, true, true, true, true, true, true, true, true, true, false, false, false] (fun k => [(6, .int .i64 (k : Int))]) (fun k => []) (fun k => k ≤ G.length ∧ (∀ (s : Nat) (x : List Int), s < k → G[s]? = some x → (x.length : Int) = facF F ∧ (numF x 0).isSome = true) ∧ (∀ (s : Nat) (x y : List Int), s + 1 < k → G[s]? = some x → G[s + 1]? = some y → CoaOk x y)) (fun k => G.length - k) 0 ⟨Nat.zero_le _, fun j x h => absurd h (Nat.not_lt_zero _), fun j x y h => absurd h (Nat.not_lt_zero _)⟩ ⟨rfl, trivial⟩ ?_
  rintro s u3 ⟨hs, hg1, hg2⟩
  ((try dsimp only); refine C_n ?_; (try simp only [Nat.reduceAdd, Nat.zero_add]))
  by_cases hsl : s < G.length
  rotate_left
  · obtain rfl : q = true := hq.2 ⟨hlen, hU, hFF, by rw [hn]; exact hnF, hea, fun s x h => hg1 s x (by have := (List.getElem?_eq_some_iff.1 h).1; omega) h, fun s x y h h' => hg2 s x y (by have := (List.getElem?_eq_some_iff.1 h').1; omega) h h'⟩
    repeat' (first | refine go ?_ | intro _ | (apply cG; first | refine cT ?_ | refine cF ?_ | refine cS (fun _ => ?_) fun _ => ?_) | (apply gW; refine sW ?_) | (apply gI; refine sI ?_) | (apply gE; refine sE ?_) | (apply gP; refine sP ?_) | (apply gC; refine sC ?_) | (apply gD; refine sD ?_) | fail)
    refine O_d (dy_call ArgsI.pf (by first | exact rfl | trivial | (intro a b; rfl)) (rTotal_ct (U := U) h1 h2 hl hU)) ?_; rintro _ _ ⟨_, ⟨rfl, hLL⟩, rfl⟩; replace hLL := hLL.symm; subst hLL; refine O_n ?_
    by_cases h9 : sumL U > 1099511627776
    · rw [show chkE29 U true = 4 from by unfold chkE29; rw [if_pos rfl, if_pos h9]]
      repeat' (first | refine go ?_ | intro _ | (apply cG; first | refine cT ?_ | refine cF ?_ | refine cS (fun _ => ?_) fun _ => ?_) | (apply gW; refine sW ?_) | (apply gI; refine sI ?_) | (apply gE; refine sE ?_) | (apply gP; refine sP ?_) | (apply gC; refine sC ?_) | (apply gD; refine sD ?_) | fail)
      refine E_res1 (by rfl) (by rfl) ⟨rfl, rfl⟩ Sb
    · rw [show chkE29 U true = 0 from by unfold chkE29; rw [if_pos rfl, if_neg h9]]
      repeat' (first | refine go ?_ | intro _ | (apply cG; first | refine cT ?_ | refine cF ?_ | refine cS (fun _ => ?_) fun _ => ?_) | (apply gW; refine sW ?_) | (apply gI; refine sI ?_) | (apply gE; refine sE ?_) | (apply gP; refine sP ?_) | (apply gC; refine sC ?_) | (apply gD; refine sD ?_) | fail)
      refine E_res1 (by rfl) (by rfl) ⟨rfl, rfl⟩ Sb
  obtain ⟨x, hx⟩ : ∃ x, xs[s]? = some x := ⟨_, List.getElem?_eq_getElem (by omega)⟩
  have hax : At xs s x := ⟨hx⟩
  have hgx := getX hxs hx
  have hxlen := hGl _ (List.mem_of_getElem? hgx)
  match s, hs, hg1, hg2, hsl, hx, hax, hgx with
  | 0, hs, hg1, hg2, hsl, hx, hax, hgx =>
    refine C_sub (sub_peekX h4 hx) ?_
    refine C_form (.head _) fun Ax cx hxv => ?_
    have hec : EncC (eSX eI) x [.slice Ax x.b.length cx] := ⟨fun m cs h => by rw [h.1, hxv]⟩
    rw [hxv]
    have hS : Sub (rd eI (.slice Ax x.b.length cx) x.b :: L) [rd eI (.slice Ax x.b.length cx) x.b, rd (eSX eI) (.slice C1 xs.length cc) xs, cel p [.slice A1 U.length ca, .slice B1 F.length cb, .slice C1 xs.length cc] 32] := sub_skip (Sub.trans (sub_dup h4) (sub_skip (sub_mem1 h1)))
    repeat' (first | refine go ?_ | intro _ | (apply cG; first | refine cT ?_ | refine cF ?_ | refine cS (fun _ => ?_) fun _ => ?_) | (apply gW; refine sW ?_) | (apply gI; refine sI ?_) | (apply gE; refine sE ?_) | (apply gP; refine sP ?_) | (apply gC; refine sC ?_) | (apply gD; refine sD ?_) | fail)
    refine C_draw (n := 99) [rd eI (.slice Ax x.b.length cx) x.b, rd (eSX eI) (.slice C1 xs.length cc) xs, cel p [.slice A1 U.length ca, .slice B1 F.length cb, .slice C1 xs.length cc] 32] [(0, 1), (1, 1), (2, 1), (3, 1), (4, 1), (5, 1), (6, 1), (7, 1), (8, 1), (9, 1), (10, 1), (11, 1), (12, 1), (13, 1), (14, 1), (15, 1), (16, 1), (17, 1), (18, 0), (19, 1), (20, 1), (21, 1), (22, 1), (23, 1), (24, 1), (25, 1), (26, 1), (27, 1), (28, 1), (29, 1), (30, 1), (31, 1), (32, 1), (33, 1), (34, 1), (35, 1), (36, 1), (37, 1), (38, 1), (39, 1), (40, 0), (41, 1), (42, 1), (43, 1)] (by kernel_rfl) (by kernel_rfl) hS ?_
    by_cases cl : (x.b.length : Int) = (n : Int)
    rotate_left
    · obtain rfl := hqf fun h => cl (by have := (h.g 0 _ hgx).1; rw [hn] at this; exact this)
      rw [hf1]
      repeat' (first | refine go ?_ | intro _ | (apply cG; first | refine cT ?_ | refine cF ?_ | refine cS (fun _ => ?_) fun _ => ?_) | (apply gW; refine sW ?_) | (apply gI; refine sI ?_) | (apply gE; refine sE ?_) | (apply gP; refine sP ?_) | (apply gC; refine sC ?_) | (apply gD; refine sD ?_) | fail)
      refine D_op rfl ?_; refine X_o0 hS ?_
      repeat' (first | refine go ?_ | intro _ | (apply cG; first | refine cT ?_ | refine cF ?_ | refine cS (fun _ => ?_) fun _ => ?_) | (apply gW; refine sW ?_) | (apply gI; refine sI ?_) | (apply gE; refine sE ?_) | (apply gP; refine sP ?_) | (apply gC; refine sC ?_) | (apply gD; refine sD ?_) | fail)
      refine D_op rfl ?_; refine X_o0 hS ?_
      repeat' (first | refine go ?_ | intro _ | (apply cG; first | refine cT ?_ | refine cF ?_ | refine cS (fun _ => ?_) fun _ => ?_) | (apply gW; refine sW ?_) | (apply gI; refine sI ?_) | (apply gE; refine sE ?_) | (apply gP; refine sP ?_) | (apply gC; refine sC ?_) | (apply gD; refine sD ?_) | fail)
      refine E_res1 (by rfl) (by rfl) ⟨rfl, rfl⟩ Sb
    repeat' (first | refine go ?_ | intro _ | (apply cG; first | refine cT ?_ | refine cF ?_ | refine cS (fun _ => ?_) fun _ => ?_) | (apply gW; refine sW ?_) | (apply gI; refine sI ?_) | (apply gE; refine sE ?_) | (apply gP; refine sP ?_) | (apply gC; refine sC ?_) | (apply gD; refine sD ?_) | fail)
    refine D_op rfl ?_; refine X_d (dy_call ArgsI.pf (by first | exact rfl | trivial | (intro a b; rfl)) (rNumbered_ct (l := x.b) (.inl (.head _)) (by omega))) ?_; rintro _ _ ⟨_, ⟨rfl, hLL⟩, rfl⟩; replace hLL := hLL.symm; subst hLL; refine ⟨.inr hS, D_n ?_⟩
    cases hnm : (numF x.b 0).isSome
    · obtain rfl := hqf fun h => by
        have := (h.g 0 _ hgx).2
        rw [hnm] at this
        cases this
      rw [hf1]
      repeat' (first | refine go ?_ | intro _ | (apply cG; first | refine cT ?_ | refine cF ?_ | refine cS (fun _ => ?_) fun _ => ?_) | (apply gW; refine sW ?_) | (apply gI; refine sI ?_) | (apply gE; refine sE ?_) | (apply gP; refine sP ?_) | (apply gC; refine sC ?_) | (apply gD; refine sD ?_) | fail)
      refine D_op rfl ?_; refine X_o0 hS ?_
      repeat' (first | refine go ?_ | intro _ | (apply cG; first | refine cT ?_ | refine cF ?_ | refine cS (fun _ => ?_) fun _ => ?_) | (apply gW; refine sW ?_) | (apply gI; refine sI ?_) | (apply gE; refine sE ?_) | (apply gP; refine sP ?_) | (apply gC; refine sC ?_) | (apply gD; refine sD ?_) | fail)
      refine E_res1 (by rfl) (by rfl) ⟨rfl, rfl⟩ Sb
    repeat' (first | refine go ?_ | intro _ | (apply cG; first | refine cT ?_ | refine cF ?_ | refine cS (fun _ => ?_) fun _ => ?_) | (apply gW; refine sW ?_) | (apply gI; refine sI ?_) | (apply gE; refine sE ?_) | (apply gP; refine sP ?_) | (apply gC; refine sC ?_) | (apply gD; refine sD ?_) | fail)
    refine D_op rfl ?_; refine X_o0 hS ?_
    repeat' (first | refine go ?_ | intro _ | (apply cG; first | refine cT ?_ | refine cF ?_ | refine cS (fun _ => ?_) fun _ => ?_) | (apply gW; refine sW ?_) | (apply gI; refine sI ?_) | (apply gE; refine sE ?_) | (apply gP; refine sP ?_) | (apply gC; refine sC ?_) | (apply gD; refine sD ?_) | fail)
    exact E_round (0 + 1) ⟨hsl, fun s2 x2 h h' => by
      obtain rfl : s2 = 0 := by omega
      rw [hgx] at h'
      injection h' with h'
      subst h'
      exact ⟨by rw [hn]; exact cl, hnm⟩, fun s2 x2 y2 h => by omega⟩ (by omega) ⟨rfl, trivial⟩ Sb
  | m + 1, hs, hg1, hg2, hsl, hx, hax, hgx =>
    obtain ⟨y, hy⟩ : ∃ x, xs[m]? = some x := ⟨_, List.getElem?_eq_getElem (by omega)⟩
    have hay : At xs m y := ⟨hy⟩
    have hgy := getX hxs hy
    have hylen := hGl _ (List.mem_of_getElem? hgy)
    have hyl := (hg1 m _ (by omega) hgy).1
    have en : ((m + 1 : Nat) : Int) - 1 = (m : Int) := by omega
    have hay0 : At xs (((m + 1 : Nat) : Int) - 1).toNat y := ⟨by rw [en, Int.toNat_natCast]; exact hy⟩
    have hay1 := hay0
    unfold Int.toNat at hay1
    refine C_sub (sub_peekX h4 hx) ?_
    refine C_form (.head _) fun Ax cx hxv => ?_
    refine C_sub (sub_peekX (.tail _ h4) hy) ?_
    refine C_form (.head _) fun Ay cy hyv => ?_
    have hec : EncC (eSX eI) x [.slice Ax x.b.length cx] := ⟨fun m cs h => by rw [h.1, hxv]⟩
    have hec2 : EncC (eSX eI) y [.slice Ay y.b.length cy] := ⟨fun m cs h => by rw [h.1, hyv]⟩
    rw [hxv, hyv]
    have hS : Sub (rd eI (.slice Ay y.b.length cy) y.b :: rd eI (.slice Ax x.b.length cx) x.b :: L) [rd eI (.slice Ay y.b.length cy) y.b, rd eI (.slice Ax x.b.length cx) x.b, rd (eSX eI) (.slice C1 xs.length cc) xs, cel p [.slice A1 U.length ca, .slice B1 F.length cb, .slice C1 xs.length cc] 32] := sub_skip (sub_skip (Sub.trans (sub_dup h4) (sub_skip (sub_mem1 h1))))
    obtain ⟨q2, hq2⟩ : ∃ q2 : Bool, q2 = true ↔ CoaOk y.b x.b := ⟨@decide (CoaOk y.b x.b) (Classical.propDecidable _), by simp⟩
    repeat' (first | refine go ?_ | intro _ | (apply cG; first | refine cT ?_ | refine cF ?_ | refine cS (fun _ => ?_) fun _ => ?_) | (apply gW; refine sW ?_) | (apply gI; refine sI ?_) | (apply gE; refine sE ?_) | (apply gP; refine sP ?_) | (apply gC; refine sC ?_) | (apply gD; refine sD ?_) | fail)
    refine C_draw (n := 99) [rd eI (.slice Ay y.b.length cy) y.b, rd eI (.slice Ax x.b.length cx) x.b, rd (eSX eI) (.slice C1 xs.length cc) xs, cel p [.slice A1 U.length ca, .slice B1 F.length cb, .slice C1 xs.length cc] 32] [(0, 1), (1, 1), (2, 1), (3, 1), (4, 1), (5, 1), (6, 1), (7, 1), (8, 1), (9, 1), (10, 1), (11, 1), (12, 1), (13, 1), (14, 1), (15, 1), (16, 1), (17, 1), (18, 0), (19, 1), (20, 1), (21, 1), (22, 1), (23, 1), (24, 1), (25, 1), (26, 1), (27, 1), (28, 1), (29, 1), (30, 1), (31, 1), (32, 1), (33, 1), (34, 1), (35, 1), (36, 1), (37, 1), (38, 1), (39, 1), (40, 0), (41, 1), (42, 1), (43, 1)] (by kernel_rfl) (by kernel_rfl) hS ?_
    by_cases cl : (x.b.length : Int) = (n : Int)
    rotate_left
    · obtain rfl := hqf fun h => cl (by have := (h.g (m + 1) _ hgx).1; rw [hn] at this; exact this)
      rw [hf1]
      repeat' (first | refine go ?_ | intro _ | (apply cG; first | refine cT ?_ | refine cF ?_ | refine cS (fun _ => ?_) fun _ => ?_) | (apply gW; refine sW ?_) | (apply gI; refine sI ?_) | (apply gE; refine sE ?_) | (apply gP; refine sP ?_) | (apply gC; refine sC ?_) | (apply gD; refine sD ?_) | fail)
      refine D_op rfl ?_; refine X_o0 hS ?_
      repeat' (first | refine go ?_ | intro _ | (apply cG; first | refine cT ?_ | refine cF ?_ | refine cS (fun _ => ?_) fun _ => ?_) | (apply gW; refine sW ?_) | (apply gI; refine sI ?_) | (apply gE; refine sE ?_) | (apply gP; refine sP ?_) | (apply gC; refine sC ?_) | (apply gD; refine sD ?_) | fail)
      refine D_op rfl ?_; refine X_o0 hS ?_
      repeat' (first | refine go ?_ | intro _ | (apply cG; first | refine cT ?_ | refine cF ?_ | refine cS (fun _ => ?_) fun _ => ?_) | (apply gW; refine sW ?_) | (apply gI; refine sI ?_) | (apply gE; refine sE ?_) | (apply gP; refine sP ?_) | (apply gC; refine sC ?_) | (apply gD; refine sD ?_) | fail)
      refine E_res1 (by rfl) (by rfl) ⟨rfl, rfl⟩ Sb
    repeat' (first | refine go ?_ | intro _ | (apply cG; first | refine cT ?_ | refine cF ?_ | refine cS (fun _ => ?_) fun _ => ?_) | (apply gW; refine sW ?_) | (apply gI; refine sI ?_) | (apply gE; refine sE ?_) | (apply gP; refine sP ?_) | (apply gC; refine sC ?_) | (apply gD; refine sD ?_) | fail)
    refine D_op rfl ?_; refine X_d (dy_call ArgsI.pf (by first | exact rfl | trivial | (intro a b; rfl)) (rNumbered_ct (l := x.b) (.inl (.tail _ (.head _))) (by omega))) ?_; rintro _ _ ⟨_, ⟨rfl, hLL⟩, rfl⟩; replace hLL := hLL.symm; subst hLL; refine ⟨.inr hS, D_n ?_⟩
    cases hnm : (numF x.b 0).isSome
    · obtain rfl := hqf fun h => by
        have := (h.g (m + 1) _ hgx).2
        rw [hnm] at this
        cases this
      rw [hf1]
      repeat' (first | refine go ?_ | intro _ | (apply cG; first | refine cT ?_ | refine cF ?_ | refine cS (fun _ => ?_) fun _ => ?_) | (apply gW; refine sW ?_) | (apply gI; refine sI ?_) | (apply gE; refine sE ?_) | (apply gP; refine sP ?_) | (apply gC; refine sC ?_) | (apply gD; refine sD ?_) | fail)
      refine D_op rfl ?_; refine X_o0 hS ?_
      repeat' (first | refine go ?_ | intro _ | (apply cG; first | refine cT ?_ | refine cF ?_ | refine cS (fun _ => ?_) fun _ => ?_) | (apply gW; refine sW ?_) | (apply gI; refine sI ?_) | (apply gE; refine sE ?_) | (apply gP; refine sP ?_) | (apply gC; refine sC ?_) | (apply gD; refine sD ?_) | fail)
      refine E_res1 (by rfl) (by rfl) ⟨rfl, rfl⟩ Sb
    repeat' (first | refine go ?_ | intro _ | (apply cG; first | refine cT ?_ | refine cF ?_ | refine cS (fun _ => ?_) fun _ => ?_) | (apply gW; refine sW ?_) | (apply gI; refine sI ?_) | (apply gE; refine sE ?_) | (apply gP; refine sP ?_) | (apply gC; refine sC ?_) | (apply gD; refine sD ?_) | fail)
    refine D_op rfl ?_; refine X_d (dy_call ArgsI.pf (by first | exact rfl | trivial | (intro a b; rfl)) (rCoarser_ct (a := y.b) (b := x.b) (.head _) (.tail _ (.head _)) (by omega) (by omega) hq2)) ?_; rintro _ _ ⟨_, ⟨rfl, hLL⟩, rfl⟩; replace hLL := hLL.symm; subst hLL; refine ⟨.inr hS, D_n ?_⟩
    cases q2
    · obtain rfl := hqf fun h => absurd (hq2.2 (h.co m _ _ hgy hgx)) (by decide)
      rw [hf1]
      repeat' (first | refine go ?_ | intro _ | (apply cG; first | refine cT ?_ | refine cF ?_ | refine cS (fun _ => ?_) fun _ => ?_) | (apply gW; refine sW ?_) | (apply gI; refine sI ?_) | (apply gE; refine sE ?_) | (apply gP; refine sP ?_) | (apply gC; refine sC ?_) | (apply gD; refine sD ?_) | fail)
      refine E_res1 (by rfl) (by rfl) ⟨rfl, rfl⟩ Sb
    repeat' (first | refine go ?_ | intro _ | (apply cG; first | refine cT ?_ | refine cF ?_ | refine cS (fun _ => ?_) fun _ => ?_) | (apply gW; refine sW ?_) | (apply gI; refine sI ?_) | (apply gE; refine sE ?_) | (apply gP; refine sP ?_) | (apply gC; refine sC ?_) | (apply gD; refine sD ?_) | fail)
    exact E_round (m + 1 + 1) ⟨hsl, fun s2 x2 h h' => by
      rcases Nat.lt_or_eq_of_le (Nat.le_of_lt_succ h) with h | rfl
      · exact hg1 s2 x2 h h'
      · rw [hgx] at h'
        injection h' with h'
        subst h'
        exact ⟨by rw [hn]; exact cl, hnm⟩, fun s2 x2 y2 h h' h'' => by
      rcases Nat.lt_or_eq_of_le (Nat.le_of_lt_succ h) with h | h
      · exact hg2 s2 x2 y2 h h' h''
      · obtain rfl : s2 = m := by omega
        rw [hgy] at h'
        rw [hgx] at h''
        injection h' with h'
        injection h'' with h''
        subst h' h''
        exact hq2.1 rfl⟩ (by omega) ⟨rfl, trivial⟩ Sb
end
end Go.Proofs.Ytlmabajgnjiigaa
namespace Go.Proofs.Ytlmabajgnjiigaa
open Go Go.RowKit
set_option linter.unusedVariables false
set_option linter.unusedSimpArgs false
/-- the members among the first n atoms -/
def mbrN (F : List Int) (G : List (List Int)) (a b : Int) (n : Nat) : List Int := if 0 ≤ a ∧ a < (G.length : Int) then memN F (G.getD a.toNat []) b n else []
def optL (l : List Int) : Option (List Int) := if l = [] then none else some l
theorem optL_app {l : List Int} {x : Int} : optL (l ++ [x]) = some (l ++ [x]) := by
  unfold optL
  rw [if_neg (by simp)]
theorem optL_getD {l : List Int} : (optL l).getD [] = l := by
  unfold optL
  split
  · rename_i h; rw [h]; rfl
  · rfl
theorem mbrN_zero {F : List Int} {G : List (List Int)} {a b : Int} : mbrN F G a b 0 = [] := by
  unfold mbrN
  split <;> rfl
theorem mbrN_at {F : List Int} {G : List (List Int)} {s n : Nat} {R : List Int} {b : Int} (h : G[s]? = some R) : mbrN F G (s : Int) b n = memN F R b n := by
  have hs := (List.getElem?_eq_some_iff.1 h).1
  unfold mbrN
  rw [if_pos (by omega), Int.toNat_natCast, List.getD_eq_getElem?_getD, h, Option.getD_some]
theorem mbrN_succ {F : List Int} {G : List (List Int)} {s n k : Nat} {R : List Int} {r : Int} (h : G[s]? = some R) (hf : F[n]? = some (k : Int)) (hr : R[k]? = some r) (a b : Int) :
    mbrN F G a b (if a < (s : Int) + 1 then n + 1 else n) = mbrN F G a b (if a < (s : Int) then n + 1 else n) ++ (if (a, b) = ((s : Int), r) then [(n : Int)] else []) := by
  by_cases ha : a = (s : Int)
  · subst ha
    rw [if_pos (by omega), if_neg (by omega), mbrN_at h, mbrN_at h, memN_succ hf (by simpa using hr)]
    congr 1
    by_cases hb : b = r
    · rw [if_pos hb.symm, if_pos (by rw [hb])]
    · rw [if_neg (fun e => hb e.symm), if_neg (fun e => hb (Prod.mk.inj e).2)]
  · rw [if_neg (fun e : (a, b) = ((s : Int), r) => ha (Prod.mk.inj e).1), List.append_nil]
    congr 1
    by_cases h2 : a < (s : Int)
    · rw [if_pos (by omega), if_pos h2]
    · rw [if_neg (by omega), if_neg h2]
theorem sumAt_app {U l : List Int} {n : Nat} {y : Int} (h : U[n]? = some y) : sumAt U (l ++ [(n : Int)]) = sumAt U l + y := by
  unfold sumAt
  rw [List.foldl_append]
  show _ + U.getD (n : Int).toNat 0 = _
  rw [Int.toNat_natCast, List.getD_eq_getElem?_getD, h, Option.getD_some]
theorem mbrN_in {F : List Int} {G : List (List Int)} {a b : Int} {n : Nat} : ∀ x ∈ mbrN F G a b n, 0 ≤ x ∧ x < (n : Int) := by
  intro x hx
  unfold mbrN at hx
  split at hx
  · unfold memN at hx
    obtain ⟨i, hi, rfl⟩ := List.mem_map.1 hx
    have := (List.mem_filter.1 hi).1
    rw [List.mem_range] at this
    omega
  · cases hx
theorem mbrN_len {F : List Int} {G : List (List Int)} {a b : Int} {n : Nat} : (mbrN F G a b n).length ≤ n := by
  unfold mbrN
  split
  · exact memN_len n
  · exact Nat.zero_le _
/-- the sum over atoms that there are -/
theorem sumAt_bd {U l : List Int} {n : Nat} (hu : ∀ x ∈ U, 0 ≤ x ∧ x ≤ 1099511627776) (hl : ∀ x ∈ l, 0 ≤ x ∧ x < (n : Int)) (hn : n ≤ U.length) (hll : l.length ≤ 1000) : 0 ≤ sumAt U l ∧ sumAt U l ≤ 1099511627776000 := by
  have := sumAt_le hu (fun x hx => by have := hl x hx; omega) l.length
  rw [List.take_length] at this
  omega
/-- the numbers of groups of the first scales -/
def gsF (G : List (List Int)) (s : Nat) : List Int := (G.take s).map fun x => (((numF x 0).getD 0 : Nat) : Int)
theorem gsF_succ {G : List (List Int)} {s : Nat} {x : List Int} (h : G[s]? = some x) : gsF G (s + 1) = gsF G s ++ [(((numF x 0).getD 0 : Nat) : Int)] := by
  unfold gsF
  rw [List.take_add_one, h, List.map_append]
  rfl
theorem gsF_len {G : List (List Int)} {s : Nat} (h : s ≤ G.length) : (gsF G s).length = s := by
  unfold gsF
  rw [List.length_map, List.length_take]
  omega
theorem sumL_mono {U : List Int} (hu : ∀ x ∈ U, 0 ≤ x) : ∀ (i : Nat), sumL (U.take i) ≤ sumL U := by
  intro i
  have : ∀ (l : List Int) (n : Int), (∀ x ∈ l, 0 ≤ x) → n ≤ l.foldl (· + ·) n := by
    intro l
    induction l with
    | nil => intro n _; exact Int.le_refl _
    | cons x r ih =>
      intro n h
      have h1 := ih (n + x) fun y hy => h y (.tail _ hy)
      have h2 := h x (.head _)
      rw [List.foldl_cons]
      omega
  have h2 := this (U.drop i) (sumL (U.take i)) fun x hx => hu x (List.mem_of_mem_drop hx)
  have h3 : sumL U = (U.drop i).foldl (· + ·) (sumL (U.take i)) := by
    conv => lhs; rw [← List.take_append_drop i U]
    unfold sumL
    rw [List.foldl_append]
  omega
/-! ### rows -/
def rowsM (mm : List ((Int × Int) × SR)) : HP := rows 3 eI (mm.map fun p => p.2.1) (mm.map fun p => p.2.2)
theorem sub_ownnil {L : List HP} {α : Type} {E : TypeId} {R : Enc α} : Sub L (own E R (.slice none 0 0) ([] : List α) :: L) := fun m h s => ⟨Hp.none, h, Hp.none_dj _, Hp.none_le _, Hp.le_refl _, ⟨[], trivial, .inl ⟨rfl, rfl⟩⟩, s⟩
def nilE : SR := ((none, 0, 0), [])
theorem rowsM_step (k : Int × Int) (mm : List ((Int × Int) × SR)) : ∃ rest : HP, (∀ L, Sub (rowsM mm :: L) (own 3 eI (svV ((gvX k mm).getD nilE)) ((gvX k mm).getD nilE).2 :: rest :: L)) ∧ ∀ A n c x L, Sub (own 3 eI (.slice A n c) x :: rest :: L) (rowsM (putX k ((A, n, c), x) mm) :: L) := by
  unfold gvX
  cases hp : posX k mm 0 with
  | none =>
    refine ⟨rowsM mm, fun L => sub_ownnil, fun A n c x L => ?_⟩
    have := sub_rowsSnoc (L := L) (E := 3) (R := eI) (vs := mm.map fun p => p.2.1) (ls := mm.map fun p => p.2.2) (A := A) (n := n) (c := c) (x := x) (by rw [List.length_map, List.length_map])
    unfold rowsM putX
    rw [hp]
    dsimp only
    rw [List.map_append, List.map_append]
    exact this
  | some q =>
    have hq2 : mm[q.1]? = some (k, q.2) := by simpa using (posX_lt hp).2.2
    have hlt := (List.getElem?_eq_some_iff.1 hq2).1
    have e1 : mm = mm.take q.1 ++ (k, q.2) :: mm.drop (q.1 + 1) := by
      conv => lhs; rw [← List.take_append_drop q.1 mm]
      rw [List.drop_eq_getElem_cons hlt, (List.getElem?_eq_some_iff.1 hq2).2]
    have e2 : ∀ y, putX k y mm = mm.take q.1 ++ (k, y) :: mm.drop (q.1 + 1) := fun y => by
      unfold putX
      rw [hp]
      dsimp only
      rw [List.set_eq_take_append_cons_drop, if_pos hlt]
    obtain ⟨d1, hd1⟩ : ∃ d, mm.take q.1 = d := ⟨_, rfl⟩
    obtain ⟨d2, hd2⟩ : ∃ d, mm.drop (q.1 + 1) = d := ⟨_, rfl⟩
    rw [hd1, hd2] at e1
    simp only [hd1, hd2] at e2
    refine ⟨rows 3 eI (d1.map (fun p => p.2.1) ++ d2.map (fun p => p.2.1)) (d1.map (fun p => p.2.2) ++ d2.map (fun p => p.2.2)), fun L => ?_, fun A n c x L => ?_⟩
    · show Sub (rowsM mm :: L) (own 3 eI (.slice q.2.1.1 q.2.1.2.1 q.2.1.2.2) q.2.2 :: _ :: L)
      unfold rowsM
      rw [e1, List.map_append, List.map_cons, List.map_append, List.map_cons]
      exact sub_rowsOut (by rw [List.length_map, List.length_map])
    · rw [e2]
      unfold rowsM
      rw [List.map_append, List.map_cons, List.map_append, List.map_cons]
      exact sub_rowsIn (by rw [List.length_map, List.length_map])
/-- the rows, frozen, make the map's slices readable for good -/
theorem sub_mapS {L : List HP} {km : Nat} {mm : List ((Int × Int) × SR)} : Sub (faS eI (mm.map fun p => p.2.1) (mm.map fun p => p.2.2) :: mapx kpr mS0 km mm :: L) (mapx kpr mS km mm :: L) := by
  rintro m h ⟨a, b, d, ha, hb, hA, c, e, d2, hc, he, ⟨es, clock, h1, h2, h3, h4⟩, hL⟩
  refine ⟨c, e, d2, hc.trans hb, he.trans hb, ⟨es, clock, h1, ?_, h3, h4⟩, hL⟩
  have hA : All2 (fun q l => Sl m eI (.slice q.1 q.2.1 q.2.2) l) (mm.map fun p => p.2.1) (mm.map fun p => p.2.2) := hA
  have : ∀ {mm : List ((Int × Int) × SR)} {es : List MapEntry}, All2 (fun (q : SlV) l => Sl m eI (.slice q.1 q.2.1 q.2.2) l) (mm.map fun p => p.2.1) (mm.map fun p => p.2.2) → All2 (entX kpr mS0 m) mm es → All2 (entX kpr mS m) mm es := by
    intro mm
    induction mm with
    | nil => intro es _ h; cases es with
      | nil => trivial
      | cons => exact h.elim
    | cons p r ih => intro es h k; cases es with
      | nil => exact k.elim
      | cons e es => exact ⟨⟨k.1.1, k.1.2.1, h.1⟩, ih h.2 k.2⟩
  exact this hA h2
end Go.Proofs.Ytlmabajgnjiigaa
