/-
  Sums: the reference's Some.
-/
import Derived.Test.YtlmabajgnjiigaaMZC
namespace Go.Proofs.Ytlmabajgnjiigaa
open Go Go.RowKit
set_option linter.unusedVariables false
set_option linter.unusedSimpArgs false
set_option maxRecDepth 20000
set_option synthInstance.maxSize 100000
set_option synthInstance.maxHeartbeats 400000
section
variable {W0 : World} {L : List HP}
theorem PickZ_ct {A : Option Addr} {c : Nat} {l : List Int} {z zm : Int} {j m : Nat} (hz : z = (j : Int)) (hzm : zm = (m : Int)) (hv : rd eI (.slice A l.length c) l ∈ L) (hr : ∀ n ∈ l, -9223372036854775808 ≤ n ∧ n ≤ 9223372036854775807) (hl : l.length ≤ 9223372036854775807) (hj : j ≤ 1000) (hm : 1 ≤ m) (hm2 : m ≤ 1000000000) : CT Try.prog 12 #[.slice A l.length c, .int .i64 z, .int .i64 zm] W0 L fun r L' => ∃ x : Nat, r = .int .i64 (x : Int) ∧ x < m ∧ L' = L := by
  subst hz hzm
  exact PickN_ct hv hr hl hj hm hm2
set_option maxHeartbeats 4000000 in
theorem rSome_ct {A : Option Addr} {c : Nat} {l : List Int} (hv : rd eI (.slice A l.length c) l ∈ L) (hr : ∀ n ∈ l, -9223372036854775808 ≤ n ∧ n ≤ 9223372036854775807) (hl : l.length ≤ 9223372036854775807) :
    CT Try.prog 9 #[.slice A l.length c] W0 L fun r L' => ∃ (t : RT) (G : List (List Int)), r = .pointer (some ⟨t.p, 0, none⟩) ∧ (ChkT t.U t.F G ∧ t.xs.map SX.b = G ∧ t.U.length ≤ 9 ∧ G.length ≤ 3 ∧ (∀ x ∈ t.U, x ≤ 49)) ∧ L' = cel t.p [.slice t.A t.U.length t.ca, .slice t.B t.F.length t.cb, .slice t.C t.xs.length t.cc] 32 :: rd eI (.slice t.A t.U.length t.ca) t.U :: rd eI (.slice t.B t.F.length t.cb) t.F :: rd (eSX eI) (.slice t.C t.xs.length t.cc) t.xs :: L := by
  refine CT_enter Try.func9 rfl ?_; (simp only [Try.ntmps9, List.size_toArray, List.length_cons, List.length_nil, Nat.reduceAdd, Nat.reduceSub, Array.replicate_succ, Array.replicate_zero, List.push_toArray, List.append_toArray, List.nil_append, List.cons_append])
  repeat' (first | refine go ?_ | intro _ | (apply cG; first | refine cT ?_ | refine cF ?_ | refine cS (fun _ => ?_) fun _ => ?_) | (apply gW; refine sW ?_) | (apply gI; refine sI ?_) | (apply gE; refine sE ?_) | (apply gP; refine sP ?_) | (apply gC; refine sC ?_) | (apply gD; refine sD ?_) | fail)
  rename_i p
  refine O_d (dy_call ArgsI.pf (by first | exact rfl | trivial | (intro a b; rfl)) (PickZ_ct (j := 0) (m := 10) rfl rfl (.tail _ hv) hr hl (by decide) (by decide) (by decide))) ?_; rintro _ _ ⟨_, ⟨at_, rfl, hat, rfl⟩, rfl⟩; refine O_n ?_
  repeat' (first | refine go ?_ | intro _ | (apply cG; first | refine cT ?_ | refine cF ?_ | refine cS (fun _ => ?_) fun _ => ?_) | (apply gW; refine sW ?_) | (apply gI; refine sI ?_) | (apply gE; refine sE ?_) | (apply gP; refine sP ?_) | (apply gC; refine sC ?_) | (apply gD; refine sD ?_) | fail)
  refine C_ownnil 3 eI ?_
  refine C_ownnil 3 eI ?_
  refine C_loopS (κ := (Nat × Nat) × (Option Addr × Nat × List Int) × Option Addr × Nat × List Int) [false, false, false, false, false, true, true, true, true, false, false, false, false, false, false, false, false, false, false, false, false, false, false, false, false, true, true, true, true, true, true, true, true, true, true, true, true, true, true, true, true, true, true, true, true, true, true, true, true, true, true, true, true, true, true, true, true, true, true, true, true, true, true, true, true, true, true, true, true, true, true, true, false, false, false, false, false, false, false, false, false, false, false, false, false, false, false, false, false, false, false, false, false, false, false, false, false, false, false, false, false, false, false, false, false, false, false, false, false, false, false, false, false, false, false, false, false, false, false, false, false, false, false, false, false, false, false, false, false, false, false, false, false, false, false, false, false, false, false, false, false, false, false, false, false, false, false, false, false, false, false, false, false, false, false, false, false, false, false, false, false, false] (fun k => [(5, .int .i64 (k.1.2 : Int)), (6, .int .i64 (k.1.1 : Int))]) (fun k => [(0, own 3 eI (.slice k.2.1.1 k.2.1.2.2.length k.2.1.2.1) k.2.1.2.2), (1, own 3 eI (.slice k.2.2.1 k.2.2.2.2.length k.2.2.2.1) k.2.2.2.2), (2, cel p [.slice k.2.1.1 k.2.1.2.2.length k.2.1.2.1, .slice k.2.2.1 k.2.2.2.2.length k.2.2.2.1, .slice none 0 0] 32)]) (fun k => k.1.1 ≤ at_ ∧ k.1.2 ≤ k.1.1 ∧ k.2.1.2.2.length = k.1.1 ∧ k.2.2.2.2.length = k.1.1 ∧ numF k.2.2.2.2 0 = some k.1.2 ∧ ∀ x ∈ k.2.1.2.2, 0 ≤ x ∧ x ≤ 49) (fun k => at_ - k.1.1) ((0, 0), (none, 0, []), none, 0, []) ⟨Nat.zero_le _, Nat.le_refl _, rfl, rfl, rfl, fun _ h => (by cases h)⟩ ⟨rfl, rfl, trivial⟩ ?_
  rintro ⟨⟨i, n⟩, ⟨A1, c1, U⟩, A2, c2, F⟩ u ⟨hi, hn, hU, hF, hf, hu⟩
  dsimp only at hi hn hU hF hf hu
  dsimp only
  ((try dsimp only); refine C_n ?_; (try simp only [Nat.reduceAdd, Nat.zero_add]))
  by_cases hil : i < at_
  · repeat' (first | refine go ?_ | intro _ | (apply cG; first | refine cT ?_ | refine cF ?_ | refine cS (fun _ => ?_) fun _ => ?_) | (apply gW; refine sW ?_) | (apply gI; refine sI ?_) | (apply gE; refine sE ?_) | (apply gP; refine sP ?_) | (apply gC; refine sC ?_) | (apply gD; refine sD ?_) | fail)
    refine O_d (dy_call ArgsI.pf (by first | exact rfl | trivial | (intro a b; rfl)) (PickZ_ct (j := 1 + i) (m := 1048576) (by omega) rfl (.tail _ (.tail _ (.tail _ hv))) hr hl (by omega) (by decide) (by decide))) ?_; rintro _ _ ⟨_, ⟨k, rfl, hk, rfl⟩, rfl⟩; refine O_n ?_
    repeat' (first | ((fail_if_success apply AtE); refine go ?_) | intro _ | (apply cG; first | refine cT ?_ | refine cF ?_ | refine cS (fun _ => ?_) fun _ => ?_) | (apply gW; refine sW ?_) | (apply gI; refine sI ?_) | (apply gE; refine sE ?_) | (apply gP; refine sP ?_) | (apply gC; refine sC ?_) | (apply gD; refine sD ?_) | fail)
    refine go ?_
    repeat' (first | ((fail_if_success apply AtE); refine go ?_) | intro _ | (apply cG; first | refine cT ?_ | refine cF ?_ | refine cS (fun _ => ?_) fun _ => ?_) | (apply gW; refine sW ?_) | (apply gI; refine sI ?_) | (apply gE; refine sE ?_) | (apply gP; refine sP ?_) | (apply gC; refine sC ?_) | (apply gD; refine sD ?_) | fail)
    refine go ?_
    refine go ?_
    refine C_joinL (κ := Nat) (fun f => own 3 eI (.slice A1 U.length c1) U :: own 3 eI (.slice A2 F.length c2) F :: cel p [.slice A1 U.length c1, .slice A2 F.length c2, .slice none 0 0] 32 :: L) [false, false, false, false, false, false, false, false, true, false, false, false, false, false, false, false, false, false, false, false, false, false, false, false, false, false, false, false, false, false, false, false, false, false, false, true, true, true, true, true, true, true, true, true, true, true, false, false, false, false, false, false, false, false, false, false, false, false, false, false, false, false, false, false, false, false, false, false, false, false, false, false, false, false, false, false, false, false, false, false, false, false, false, false, false, false, false, false, false, false, false, false, false, false, false, false, false, false, false, false, false, false, false, false, false, false, false, false, false, false, false, false, false, false, false, false, false, false, false, false, false, false, false, false, false, false, false, false, false, false, false, false, false, false, false, false, false, false, false, false, false, false, false, false, false, false, false, false, false, false, false, false, false, false, false, false, false, false, false, false, false, false] (fun f => [(8, .int .i64 (f : Int))]) (fun f => f ≤ n) ?_ ?_
    · by_cases d1 : 0 < n
      rotate_left
      · repeat' (first | refine go ?_ | intro _ | (apply cG; first | refine cT ?_ | refine cF ?_ | refine cS (fun _ => ?_) fun _ => ?_) | (apply gW; refine sW ?_) | (apply gI; refine sI ?_) | (apply gE; refine sE ?_) | (apply gP; refine sP ?_) | (apply gC; refine sC ?_) | (apply gD; refine sD ?_) | fail)
        exact E_join n (Nat.le_refl _) ⟨rfl, trivial⟩
      repeat' (first | refine go ?_ | intro _ | (apply cG; first | refine cT ?_ | refine cF ?_ | refine cS (fun _ => ?_) fun _ => ?_) | (apply gI; refine sI ?_) | (apply gE; refine sE ?_) | (apply gP; refine sP ?_) | (apply gC; refine sC ?_) | (apply gD; refine sD ?_) | fail)
      apply gW; refine sW (r := ((k % 3 : Nat) : Int)) ?_ ⟨by decide, rfl⟩
      by_cases d2 : k % 3 = 0
      rotate_left
      · repeat' (first | refine go ?_ | intro _ | (apply cG; first | refine cT ?_ | refine cF ?_ | refine cS (fun _ => ?_) fun _ => ?_) | (apply gW; refine sW ?_) | (apply gI; refine sI ?_) | (apply gE; refine sE ?_) | (apply gP; refine sP ?_) | (apply gC; refine sC ?_) | (apply gD; refine sD ?_) | fail)
        exact E_join n (Nat.le_refl _) ⟨rfl, trivial⟩
      repeat' (first | refine go ?_ | intro _ | (apply cG; first | refine cT ?_ | refine cF ?_ | refine cS (fun _ => ?_) fun _ => ?_) | (apply gI; refine sI ?_) | (apply gE; refine sE ?_) | (apply gP; refine sP ?_) | (apply gC; refine sC ?_) | (apply gD; refine sD ?_) | fail)
      apply gW; refine sW (r := ((k / 3 : Nat) : Int)) ?_ ⟨by decide, by show IntKind.i64.wrap ((k / 3 : Nat) : Int) = ((k / 3 : Nat) : Int); exact wr_i64 (by omega) (by omega)⟩
      repeat' (first | refine go ?_ | intro _ | (apply cG; first | refine cT ?_ | refine cF ?_ | refine cS (fun _ => ?_) fun _ => ?_) | (apply gI; refine sI ?_) | (apply gE; refine sE ?_) | (apply gP; refine sP ?_) | (apply gC; refine sC ?_) | (apply gD; refine sD ?_) | fail)
      apply gW; refine sW (r := ((k / 3 % n : Nat) : Int)) ?_ ⟨by omega, rfl⟩
      repeat' (first | refine go ?_ | intro _ | (apply cG; first | refine cT ?_ | refine cF ?_ | refine cS (fun _ => ?_) fun _ => ?_) | (apply gW; refine sW ?_) | (apply gI; refine sI ?_) | (apply gE; refine sE ?_) | (apply gP; refine sP ?_) | (apply gC; refine sC ?_) | (apply gD; refine sD ?_) | fail)
      exact E_join (k / 3 % n) (Nat.le_of_lt (Nat.mod_lt _ d1)) ⟨rfl, trivial⟩
    rintro f u2 hfn
    ((try dsimp only); refine C_n ?_; (try simp only [Nat.reduceAdd, Nat.zero_add]))
    have hsn := numF_snoc hf hfn
    have hk50 : k / 64 % 50 < 50 := Nat.mod_lt _ (by decide)
    by_cases d3 : f + 1 > n
    · rw [Nat.max_eq_right (by omega)] at hsn
      have d4 : (f : Int) + 1 > (n : Int) := by omega
      repeat' (first | refine go ?_ | intro _ | (apply cG; first | refine cT ?_ | refine cF ?_ | refine cS (fun _ => ?_) fun _ => ?_) | (apply gW; refine sW ?_) | (apply gI; refine sI ?_) | (apply gE; refine sE ?_) | (apply gP; refine sP ?_) | (apply gC; refine sC ?_) | (apply gD; refine sD ?_) | fail)
      refine O_d (dy_lit1 (R := eI) (f : Int) (hcs := by rfl) (hel := fun _ _ _ => by rfl)) ?_; rintro _ _ ⟨_, rfl, rfl⟩; refine O_n ?_
      repeat' (first | refine go ?_ | intro _ | (apply cG; first | refine cT ?_ | refine cF ?_ | refine cS (fun _ => ?_) fun _ => ?_) | (apply gI; refine sI ?_) | (apply gE; refine sE ?_) | (apply gP; refine sP ?_) | (apply gC; refine sC ?_) | (apply gD; refine sD ?_) | fail)
      apply gW; refine sW (r := ((k / 64 : Nat) : Int)) ?_ ⟨by decide, by show IntKind.i64.wrap ((k / 64 : Nat) : Int) = ((k / 64 : Nat) : Int); exact wr_i64 (by omega) (by omega)⟩
      repeat' (first | refine go ?_ | intro _ | (apply cG; first | refine cT ?_ | refine cF ?_ | refine cS (fun _ => ?_) fun _ => ?_) | (apply gI; refine sI ?_) | (apply gE; refine sE ?_) | (apply gP; refine sP ?_) | (apply gC; refine sC ?_) | (apply gD; refine sD ?_) | fail)
      apply gW; refine sW (r := ((k / 64 % 50 : Nat) : Int)) ?_ ⟨by decide, rfl⟩
      repeat' (first | refine go ?_ | intro _ | (apply cG; first | refine cT ?_ | refine cF ?_ | refine cS (fun _ => ?_) fun _ => ?_) | (apply gI; refine sI ?_) | (apply gE; refine sE ?_) | (apply gP; refine sP ?_) | (apply gC; refine sC ?_) | (apply gD; refine sD ?_) | fail)
      refine O_d (dy_lit1 (R := eI) ((k / 64 % 50 : Nat) : Int) (hcs := by rfl) (hel := fun _ _ _ => by rfl)) ?_; rintro _ _ ⟨_, rfl, rfl⟩; refine O_n ?_
      repeat' (first | refine go ?_ | intro _ | (apply cG; first | refine cT ?_ | refine cF ?_ | refine cS (fun _ => ?_) fun _ => ?_) | (apply gW; refine sW ?_) | (apply gI; refine sI ?_) | (apply gE; refine sE ?_) | (apply gP; refine sP ?_) | (apply gC; refine sC ?_) | (apply gD; refine sD ?_) | fail)
      rename_i g1 A3 c3 g2 A4 c4
      refine E_round ((i + 1, f + 1), (A4, c4, U ++ [((k / 64 % 50 : Nat) : Int)]), A3, c3, F ++ [(f : Int)]) ⟨hil, by dsimp only; omega, by dsimp only; rw [List.length_append, hU]; rfl, by dsimp only; rw [List.length_append, hF]; rfl, hsn, fun x hx => ?_⟩ (by dsimp only; omega) ⟨rfl, rfl, trivial⟩ ?_
      · rcases List.mem_append.1 hx with hx | hx
        · exact hu x hx
        · simp only [List.mem_cons, List.not_mem_nil, or_false] at hx
          subst hx
          omega
      · dsimp only
        rw [List.length_append, List.length_append]
        exact Sb
    · rw [Nat.max_eq_left (by omega)] at hsn
      have d4 : ¬ (f : Int) + 1 > (n : Int) := by omega
      repeat' (first | refine go ?_ | intro _ | (apply cG; first | refine cT ?_ | refine cF ?_ | refine cS (fun _ => ?_) fun _ => ?_) | (apply gW; refine sW ?_) | (apply gI; refine sI ?_) | (apply gE; refine sE ?_) | (apply gP; refine sP ?_) | (apply gC; refine sC ?_) | (apply gD; refine sD ?_) | fail)
      refine O_d (dy_lit1 (R := eI) (f : Int) (hcs := by rfl) (hel := fun _ _ _ => by rfl)) ?_; rintro _ _ ⟨_, rfl, rfl⟩; refine O_n ?_
      repeat' (first | refine go ?_ | intro _ | (apply cG; first | refine cT ?_ | refine cF ?_ | refine cS (fun _ => ?_) fun _ => ?_) | (apply gI; refine sI ?_) | (apply gE; refine sE ?_) | (apply gP; refine sP ?_) | (apply gC; refine sC ?_) | (apply gD; refine sD ?_) | fail)
      apply gW; refine sW (r := ((k / 64 : Nat) : Int)) ?_ ⟨by decide, by show IntKind.i64.wrap ((k / 64 : Nat) : Int) = ((k / 64 : Nat) : Int); exact wr_i64 (by omega) (by omega)⟩
      repeat' (first | refine go ?_ | intro _ | (apply cG; first | refine cT ?_ | refine cF ?_ | refine cS (fun _ => ?_) fun _ => ?_) | (apply gI; refine sI ?_) | (apply gE; refine sE ?_) | (apply gP; refine sP ?_) | (apply gC; refine sC ?_) | (apply gD; refine sD ?_) | fail)
      apply gW; refine sW (r := ((k / 64 % 50 : Nat) : Int)) ?_ ⟨by decide, rfl⟩
      repeat' (first | refine go ?_ | intro _ | (apply cG; first | refine cT ?_ | refine cF ?_ | refine cS (fun _ => ?_) fun _ => ?_) | (apply gI; refine sI ?_) | (apply gE; refine sE ?_) | (apply gP; refine sP ?_) | (apply gC; refine sC ?_) | (apply gD; refine sD ?_) | fail)
      refine O_d (dy_lit1 (R := eI) ((k / 64 % 50 : Nat) : Int) (hcs := by rfl) (hel := fun _ _ _ => by rfl)) ?_; rintro _ _ ⟨_, rfl, rfl⟩; refine O_n ?_
      repeat' (first | refine go ?_ | intro _ | (apply cG; first | refine cT ?_ | refine cF ?_ | refine cS (fun _ => ?_) fun _ => ?_) | (apply gW; refine sW ?_) | (apply gI; refine sI ?_) | (apply gE; refine sE ?_) | (apply gP; refine sP ?_) | (apply gC; refine sC ?_) | (apply gD; refine sD ?_) | fail)
      rename_i g1 A3 c3 g2 A4 c4
      refine E_round ((i + 1, n), (A4, c4, U ++ [((k / 64 % 50 : Nat) : Int)]), A3, c3, F ++ [(f : Int)]) ⟨hil, by dsimp only; omega, by dsimp only; rw [List.length_append, hU]; rfl, by dsimp only; rw [List.length_append, hF]; rfl, hsn, fun x hx => ?_⟩ (by dsimp only; omega) ⟨rfl, rfl, trivial⟩ ?_
      · rcases List.mem_append.1 hx with hx | hx
        · exact hu x hx
        · simp only [List.mem_cons, List.not_mem_nil, or_false] at hx
          subst hx
          omega
      · dsimp only
        rw [List.length_append, List.length_append]
        exact Sb
  obtain rfl : i = at_ := by omega
  repeat' (first | refine go ?_ | intro _ | (apply cG; first | refine cT ?_ | refine cF ?_ | refine cS (fun _ => ?_) fun _ => ?_) | (apply gW; refine sW ?_) | (apply gI; refine sI ?_) | (apply gE; refine sE ?_) | (apply gP; refine sP ?_) | (apply gC; refine sC ?_) | (apply gD; refine sD ?_) | fail)
  refine O_d (dy_call ArgsI.pf (by first | exact rfl | trivial | (intro a b; rfl)) (PickZ_ct (j := 11) (m := 4) rfl rfl (.tail _ (.tail _ (.tail _ hv))) hr hl (by decide) (by decide) (by decide))) ?_; rintro _ _ ⟨_, ⟨sc, rfl, hsc, rfl⟩, rfl⟩; refine O_n ?_
  repeat' (first | refine go ?_ | intro _ | (apply cG; first | refine cT ?_ | refine cF ?_ | refine cS (fun _ => ?_) fun _ => ?_) | (apply gW; refine sW ?_) | (apply gI; refine sI ?_) | (apply gE; refine sE ?_) | (apply gP; refine sP ?_) | (apply gC; refine sC ?_) | (apply gD; refine sD ?_) | fail)
  refine C_ownnil 3 eI ?_
  refine C_loopS (κ := Nat × Option Addr × Nat × List Int) [false, false, false, false, false, false, false, false, false, false, true, true, false, false, false, false, false, false, false, false, false, false, false, false, false, false, false, false, false, false, false, false, false, false, false, false, false, false, false, false, false, false, false, false, false, false, false, false, false, false, false, false, false, false, false, false, false, false, false, false, false, false, false, false, false, false, false, false, false, false, false, false, false, false, true, true, true, true, true, true, true, true, true, false, false, false, false, false, false, false, false, false, false, false, false, false, false, false, false, false, false, false, false, false, false, false, false, false, false, false, false, false, false, false, false, false, false, false, false, false, false, false, false, false, false, false, false, false, false, false, false, false, false, false, false, false, false, false, false, false, false, false, false, false, false, false, false, false, false, false, false, false, false, false, false, false, false, false, false, false, false, false] (fun k => [(10, .slice k.2.1 k.2.2.2.length k.2.2.1), (11, .int .i64 (k.1 : Int))]) (fun k => [(0, own 3 eI (.slice k.2.1 k.2.2.2.length k.2.2.1) k.2.2.2)]) (fun k => k.1 ≤ n ∧ k.2.2.2 = (List.range k.1).map fun (i : Nat) => (i : Int)) (fun k => n - k.1) (0, none, 0, []) ⟨Nat.zero_le _, rfl⟩ ⟨rfl, rfl, trivial⟩ ?_
  rintro ⟨j, A3, c3, la⟩ u2 ⟨hj, hla⟩
  dsimp only at hj hla
  dsimp only
  ((try dsimp only); refine C_n ?_; (try simp only [Nat.reduceAdd, Nat.zero_add]))
  by_cases hjn : j < n
  · have hll : la.length = j := by rw [hla, List.length_map, List.length_range]
    repeat' (first | refine go ?_ | intro _ | (apply cG; first | refine cT ?_ | refine cF ?_ | refine cS (fun _ => ?_) fun _ => ?_) | (apply gW; refine sW ?_) | (apply gI; refine sI ?_) | (apply gE; refine sE ?_) | (apply gP; refine sP ?_) | (apply gC; refine sC ?_) | (apply gD; refine sD ?_) | fail)
    refine O_d (dy_lit1 (R := eI) (j : Int) (hcs := by rfl) (hel := fun _ _ _ => by rfl)) ?_; rintro _ _ ⟨_, rfl, rfl⟩; refine O_n ?_
    repeat' (first | refine go ?_ | intro _ | (apply cG; first | refine cT ?_ | refine cF ?_ | refine cS (fun _ => ?_) fun _ => ?_) | (apply gW; refine sW ?_) | (apply gI; refine sI ?_) | (apply gE; refine sE ?_) | (apply gP; refine sP ?_) | (apply gC; refine sC ?_) | (apply gD; refine sD ?_) | fail)
    rename_i g1 A4 c4
    exact E_round (j + 1, A4, c4, la ++ [(j : Int)]) ⟨hjn, by dsimp only; rw [hla, List.range_succ, List.map_append]; rfl⟩ (by dsimp only; omega) ⟨by dsimp only; rw [List.length_append]; rfl, rfl, trivial⟩ (by dsimp only; rw [List.length_append]; exact Sb)
  obtain rfl : j = n := by omega
  have hln : numF la 0 = some j := by rw [hla]; exact numF_range j
  have hll : la.length = j := by rw [hla, List.length_map, List.length_range]
  repeat' (first | refine go ?_ | intro _ | (apply cG; first | refine cT ?_ | refine cF ?_ | refine cS (fun _ => ?_) fun _ => ?_) | (apply gW; refine sW ?_) | (apply gI; refine sI ?_) | (apply gE; refine sE ?_) | (apply gP; refine sP ?_) | (apply gC; refine sC ?_) | (apply gD; refine sD ?_) | fail)
  refine C_sub (S := own 3 eI (.slice A3 la.length c3) la :: own 3 eI (.slice A1 U.length c1) U :: own 3 eI (.slice A2 F.length c2) F :: cel p [.slice A1 U.length c1, .slice A2 F.length c2, .slice none 0 0] 32 :: L) Sb ?_
  refine C_frz 0 ?_
  refine C_frz 1 ?_
  refine C_frz 2 ?_
  refine C_ownnil 22 (eSX eI) ?_
  refine C_loopS (κ := Nat × (Option Addr × Nat × List Int) × Option Addr × Nat × List (SX Int)) [false, false, false, false, false, false, false, false, false, false, true, false, true, true, true, true, true, true, true, true, true, false, false, false, false, false, false, false, false, false, false, false, false, false, false, false, false, false, false, false, false, false, false, false, false, false, false, false, false, false, false, false, false, false, false, false, false, false, false, false, false, false, false, false, false, false, false, false, false, false, false, false, false, false, false, false, false, false, false, false, false, false, false, true, true, true, true, true, true, true, true, true, true, true, true, true, true, true, true, true, true, true, true, true, true, true, true, true, true, true, true, true, true, true, true, true, true, true, true, true, true, true, true, true, true, true, true, true, true, true, true, true, true, true, true, true, true, true, true, true, true, true, true, true, true, true, true, true, true, true, true, true, true, true, true, true, true, true, true, true, true, false] (fun k => [(10, .slice k.2.1.1 k.2.1.2.2.length k.2.1.2.1), (12, .int .i64 (k.1 : Int))]) (fun k => [(0, own 22 (eSX eI) (.slice k.2.2.1 k.2.2.2.2.length k.2.2.2.1) k.2.2.2.2), (1, rd eI (.slice k.2.1.1 k.2.1.2.2.length k.2.1.2.1) k.2.1.2.2), (4, cel p [.slice A1 U.length c1, .slice A2 F.length c2, .slice k.2.2.1 k.2.2.2.2.length k.2.2.2.1] 32)]) (fun k => k.1 ≤ sc ∧ k.2.1.2.2.length = j ∧ (numF k.2.1.2.2 0).isSome = true ∧ k.2.2.2.2.length = k.1 ∧ (∀ x ∈ k.2.2.2.2, x.b.length = j ∧ (numF x.b 0).isSome = true) ∧ (∀ (s : Nat) (x y : SX Int), k.2.2.2.2[s]? = some x → k.2.2.2.2[s + 1]? = some y → CoaOk x.b y.b) ∧ ∀ (x : SX Int), k.2.2.2.2[k.1 - 1]? = some x → x.b = k.2.1.2.2) (fun k => sc - k.1) (0, (A3, c3, la), none, 0, []) ⟨Nat.zero_le _, hll, by dsimp only; rw [hln]; rfl, rfl, (fun _ h => (by cases h)), (fun s x y h => by simp at h), fun x h => by simp at h⟩ ⟨rfl, rfl, trivial⟩ ?_
  rintro ⟨s, ⟨A4, c4, last⟩, A5, c5, xs⟩ u3 ⟨hs, hlal, hlan, hxl, hxb, hco, hlx⟩
  dsimp only at hs hlal hlan hxl hxb hco hlx
  dsimp only
  ((try dsimp only); refine C_n ?_; (try simp only [Nat.reduceAdd, Nat.zero_add]))
  by_cases hss : s < sc
  rotate_left
  · obtain rfl : s = sc := by omega
    have hchk : ChkT U F (xs.map SX.b) := by
      have hfj := facF_num hf
      refine ⟨by omega, fun x hx => by have := hu x hx; omega, fun x hx => by have := (numF_mem hf).2 x hx; omega, by rw [hfj]; omega, fun m hm => numF_each hf m (Nat.zero_le _) (by rw [hfj] at hm; omega), fun s2 x hx => ?_, fun s2 x y hx hy => ?_⟩
      · obtain ⟨z, hz, rfl⟩ := List.mem_map.1 (List.mem_of_getElem? hx)
        obtain ⟨k1, k2⟩ := hxb z hz
        exact ⟨by rw [hfj, k1], k2⟩
      · rw [List.getElem?_map] at hx hy
        obtain ⟨x', hx', rfl⟩ := Option.map_eq_some_iff.1 hx
        obtain ⟨y', hy', rfl⟩ := Option.map_eq_some_iff.1 hy
        exact hco s2 x' y' hx' hy'
    repeat' (first | refine go ?_ | intro _ | (apply cG; first | refine cT ?_ | refine cF ?_ | refine cS (fun _ => ?_) fun _ => ?_) | (apply gW; refine sW ?_) | (apply gI; refine sI ?_) | (apply gE; refine sE ?_) | (apply gP; refine sP ?_) | (apply gC; refine sC ?_) | (apply gD; refine sD ?_) | fail)
    refine E_frz 0 ?_
    refine E_res1 (by rfl) (by rfl) ⟨⟨p, A1, A2, A5, c1, c2, c5, U, F, xs⟩, xs.map SX.b, rfl, ⟨hchk, rfl, by dsimp only; omega, by rw [List.length_map]; omega, fun x hx => (hu x hx).2⟩, rfl⟩ Sb
  repeat' (first | refine go ?_ | intro _ | (apply cG; first | refine cT ?_ | refine cF ?_ | refine cS (fun _ => ?_) fun _ => ?_) | (apply gW; refine sW ?_) | (apply gI; refine sI ?_) | (apply gE; refine sE ?_) | (apply gP; refine sP ?_) | (apply gC; refine sC ?_) | (apply gD; refine sD ?_) | fail)
  refine O_d (dy_call ArgsI.pf (by first | exact rfl | trivial | (intro a b; rfl)) (PickZ_ct (j := 12 + s) (m := 1048576) (by omega) rfl (.tail _ (.tail _ (.tail _ (.tail _ (.tail _ hv))))) hr hl (by omega) (by decide) (by decide))) ?_; rintro _ _ ⟨_, ⟨kk, rfl, hkk, rfl⟩, rfl⟩; refine O_n ?_
  repeat' (first | refine go ?_ | intro _ | (apply cG; first | refine cT ?_ | refine cF ?_ | refine cS (fun _ => ?_) fun _ => ?_) | (apply gW; refine sW ?_) | (apply gI; refine sI ?_) | (apply gE; refine sE ?_) | (apply gP; refine sP ?_) | (apply gC; refine sC ?_) | (apply gD; refine sD ?_) | fail)
  obtain ⟨m, hm⟩ : ∃ m, numF last 0 = some m := Option.isSome_iff_exists.1 hlan
  have hmj : m ≤ j := by have := numF_le hm; omega
  refine C_loopS (κ := Nat) [false, false, false, false, false, false, false, false, false, false, false, false, false, false, true, true, false, false, false, false, false, false, false, false, false, false, false, false, false, false, false, false, false, false, false, false, false, false, false, false, false, false, false, false, false, false, false, false, false, false, false, false, false, false, false, false, false, false, false, false, false, false, false, false, false, false, false, false, false, false, false, false, false, false, false, false, false, false, false, false, false, false, false, false, false, false, false, false, false, false, false, false, true, true, true, true, true, true, true, true, true, true, true, true, false, false, false, false, false, false, false, false, false, false, false, false, false, false, false, false, false, false, false, false, false, false, false, false, false, false, false, false, false, false, false, false, false, false, false, false, false, false, false, false, false, false, false, false, false, false, false, false, false, false, false, false, false, false, false, false, false, false] (fun k => [(14, .int .i64 (facF (last.take k))), (15, .int .i64 (k : Int))]) (fun k => []) (fun k => k ≤ j) (fun k => j - k) 0 (Nat.zero_le _) ⟨rfl, rfl, trivial⟩ ?_
  rintro a1 u4 ha1
  ((try dsimp only); refine C_n ?_; (try simp only [Nat.reduceAdd, Nat.zero_add]))
  have hfb := facF_le (fun x hx => by have := (numF_mem hm).2 x hx; have := (numF_mem hm).1; omega) a1
  by_cases haj : a1 < j
  · obtain ⟨x, hx⟩ : ∃ x, last[a1]? = some x := ⟨_, List.getElem?_eq_getElem (by omega)⟩
    have hax : At last a1 x := ⟨hx⟩
    have hx2 := (numF_mem hm).2 x (List.mem_of_getElem? hx)
    have hnx := facF_take hx
    obtain ⟨g0, hg0⟩ : ∃ n, facF (last.take a1) = n := ⟨_, rfl⟩
    rw [hg0] at hfb hnx ⊢
    by_cases hc : x + 1 > g0
    · repeat' (first | refine go ?_ | intro _ | (apply cG; first | refine cT ?_ | refine cF ?_ | refine cS (fun _ => ?_) fun _ => ?_) | (apply gW; refine sW ?_) | (apply gI; refine sI ?_) | (apply gE; refine sE ?_) | (apply gP; refine sP ?_) | (apply gC; refine sC ?_) | (apply gD; refine sD ?_) | fail)
      exact E_round (a1 + 1) haj (by omega) ⟨by rw [hnx, Int.max_eq_right (by omega)]; rfl, rfl, trivial⟩ Sb
    · repeat' (first | refine go ?_ | intro _ | (apply cG; first | refine cT ?_ | refine cF ?_ | refine cS (fun _ => ?_) fun _ => ?_) | (apply gW; refine sW ?_) | (apply gI; refine sI ?_) | (apply gE; refine sE ?_) | (apply gP; refine sP ?_) | (apply gC; refine sC ?_) | (apply gD; refine sD ?_) | fail)
      exact E_round (a1 + 1) haj (by omega) ⟨by rw [hnx, Int.max_eq_left (by omega)]; rfl, rfl, trivial⟩ Sb
  obtain rfl : a1 = j := by omega
  rw [show last.take a1 = last from by rw [← hlal]; exact List.take_length, facF_num hm]
  clear hfb
  repeat' (first | refine go ?_ | intro _ | (apply cG; first | refine cT ?_ | refine cF ?_ | refine cS (fun _ => ?_) fun _ => ?_) | (apply gW; refine sW ?_) | (apply gI; refine sI ?_) | (apply gE; refine sE ?_) | (apply gP; refine sP ?_) | (apply gC; refine sC ?_) | (apply gD; refine sD ?_) | fail)
  refine C_ownnil 3 eI ?_
  refine C_loopS (κ := (Nat × Nat) × Option Addr × Nat × List Int) [false, false, false, false, false, false, false, false, false, false, false, false, false, false, false, false, true, true, true, false, false, false, false, false, false, false, false, false, false, false, false, false, false, false, false, false, false, false, false, false, false, false, false, false, false, false, false, false, false, false, false, false, false, false, false, false, false, false, false, false, false, false, false, false, false, false, false, false, false, false, false, false, false, false, false, false, false, false, false, false, false, false, false, false, false, false, false, false, false, false, false, false, false, false, false, false, false, false, false, false, false, false, false, false, true, true, true, true, true, true, true, true, true, true, true, true, true, true, true, true, true, true, true, true, true, true, true, true, true, true, true, true, true, true, true, false, false, false, false, false, false, false, false, false, false, false, false, false, false, false, false, false, false, false, false, false, false, false, false, false, false, false] (fun k => [(16, .slice k.2.1 k.2.2.2.length k.2.2.1), (17, .int .i64 (k.1.2 : Int)), (18, .int .i64 (k.1.1 : Int))]) (fun k => [(0, own 3 eI (.slice k.2.1 k.2.2.2.length k.2.2.1) k.2.2.2)]) (fun k => k.1.1 ≤ m ∧ k.2.2.2.length = k.1.1 ∧ numF k.2.2.2 0 = some k.1.2) (fun k => m - k.1.1) ((0, 0), none, 0, []) ⟨Nat.zero_le _, rfl, rfl⟩ ⟨rfl, rfl, rfl, trivial⟩ ?_
  rintro ⟨⟨g, nx⟩, A6, c6, into⟩ u5 ⟨hg, hil6, hin⟩
  dsimp only at hg hil6 hin
  dsimp only
  ((try dsimp only); refine C_n ?_; (try simp only [Nat.reduceAdd, Nat.zero_add]))
  by_cases hgm : g < m
  · have hnx := numF_le hin
    by_cases e1 : g = 0
    · have e2 : ¬ (0 : Int) < (g : Int) := by omega
      repeat' (first | refine go ?_ | intro _ | (apply cG; first | refine cT ?_ | refine cF ?_ | refine cS (fun _ => ?_) fun _ => ?_) | (apply gW; refine sW ?_) | (apply gI; refine sI ?_) | (apply gE; refine sE ?_) | (apply gP; refine sP ?_) | (apply gC; refine sC ?_) | (apply gD; refine sD ?_) | fail)
      refine O_d (dy_lit1 (R := eI) (nx : Int) (hcs := by rfl) (hel := fun _ _ _ => by rfl)) ?_; rintro _ _ ⟨_, rfl, rfl⟩; refine O_n ?_
      repeat' (first | refine go ?_ | intro _ | (apply cG; first | refine cT ?_ | refine cF ?_ | refine cS (fun _ => ?_) fun _ => ?_) | (apply gW; refine sW ?_) | (apply gI; refine sI ?_) | (apply gE; refine sE ?_) | (apply gP; refine sP ?_) | (apply gC; refine sC ?_) | (apply gD; refine sD ?_) | fail)
      rename_i g1 A7 c7
      exact E_round ((g + 1, nx + 1), A7, c7, into ++ [(nx : Int)]) ⟨hgm, by dsimp only; rw [List.length_append, hil6]; rfl, by dsimp only; rw [numF_snoc hin (Nat.le_refl _), Nat.max_eq_right (by omega)]⟩ (by dsimp only; omega) ⟨by dsimp only; rw [List.length_append]; rfl, rfl, rfl, trivial⟩ (by dsimp only; rw [List.length_append]; exact Sb)
    · have e2 : (0 : Int) < (g : Int) := by omega
      repeat' (first | refine go ?_ | intro _ | (apply cG; first | refine cT ?_ | refine cF ?_ | refine cS (fun _ => ?_) fun _ => ?_) | (apply gW; refine sW ?_) | (apply gI; refine sI ?_) | (apply gE; refine sE ?_) | (apply gP; refine sP ?_) | (apply gC; refine sC ?_) | (apply gD; refine sD ?_) | fail)
      have hz0 : 0 ≤ (kk : Int) / 2 ^ g := Int.ediv_nonneg (by omega) (by exact Int.le_of_lt (Int.pow_pos (by decide)))
      refine O_s (sv_shr (r := (kk : Int) / 2 ^ g) (hr := by congr 2)) ?_
      obtain ⟨z, hz⟩ : ∃ z, (kk : Int) / 2 ^ g = z := ⟨_, rfl⟩
      rw [hz] at hz0 ⊢
      by_cases e3 : z % 2 = 1
      rotate_left
      · repeat' (first | refine go ?_ | intro _ | (apply cG; first | refine cT ?_ | refine cF ?_ | refine cS (fun _ => ?_) fun _ => ?_) | (apply gW; refine sW ?_) | (apply gI; refine sI ?_) | (apply gE; refine sE ?_) | (apply gP; refine sP ?_) | (apply gC; refine sC ?_) | (apply gD; refine sD ?_) | fail)
        refine O_d (dy_lit1 (R := eI) (nx : Int) (hcs := by rfl) (hel := fun _ _ _ => by rfl)) ?_; rintro _ _ ⟨_, rfl, rfl⟩; refine O_n ?_
        repeat' (first | refine go ?_ | intro _ | (apply cG; first | refine cT ?_ | refine cF ?_ | refine cS (fun _ => ?_) fun _ => ?_) | (apply gW; refine sW ?_) | (apply gI; refine sI ?_) | (apply gE; refine sE ?_) | (apply gP; refine sP ?_) | (apply gC; refine sC ?_) | (apply gD; refine sD ?_) | fail)
        rename_i g1 A7 c7
        exact E_round ((g + 1, nx + 1), A7, c7, into ++ [(nx : Int)]) ⟨hgm, by dsimp only; rw [List.length_append, hil6]; rfl, by dsimp only; rw [numF_snoc hin (Nat.le_refl _), Nat.max_eq_right (by omega)]⟩ (by dsimp only; omega) ⟨by dsimp only; rw [List.length_append]; rfl, rfl, rfl, trivial⟩ (by dsimp only; rw [List.length_append]; exact Sb)
      have hxg : kk / 32 % g < g := Nat.mod_lt _ (by omega)
      obtain ⟨x, hx⟩ : ∃ x, into[kk / 32 % g]? = some x := ⟨_, List.getElem?_eq_getElem (by omega)⟩
      have hax : At into (kk / 32 % g) x := ⟨hx⟩
      obtain ⟨hx0, hx1⟩ := (numF_mem hin).2 x (List.mem_of_getElem? hx)
      obtain ⟨f9, rfl⟩ : ∃ n : Nat, x = (n : Int) := ⟨x.toNat, by omega⟩
      repeat' (first | refine go ?_ | intro _ | (apply cG; first | refine cT ?_ | refine cF ?_ | refine cS (fun _ => ?_) fun _ => ?_) | (apply gI; refine sI ?_) | (apply gE; refine sE ?_) | (apply gP; refine sP ?_) | (apply gC; refine sC ?_) | (apply gD; refine sD ?_) | fail)
      apply gW; refine sW (r := z % 2) ?_ ⟨by decide, Int.tmod_eq_emod_of_nonneg hz0⟩
      repeat' (first | refine go ?_ | intro _ | (apply cG; first | refine cT ?_ | refine cF ?_ | refine cS (fun _ => ?_) fun _ => ?_) | (apply gI; refine sI ?_) | (apply gE; refine sE ?_) | (apply gP; refine sP ?_) | (apply gC; refine sC ?_) | (apply gD; refine sD ?_) | fail)
      apply gW; refine sW (r := ((kk / 32 : Nat) : Int)) ?_ ⟨by decide, by show IntKind.i64.wrap ((kk / 32 : Nat) : Int) = ((kk / 32 : Nat) : Int); exact wr_i64 (by omega) (by omega)⟩
      repeat' (first | refine go ?_ | intro _ | (apply cG; first | refine cT ?_ | refine cF ?_ | refine cS (fun _ => ?_) fun _ => ?_) | (apply gI; refine sI ?_) | (apply gE; refine sE ?_) | (apply gP; refine sP ?_) | (apply gC; refine sC ?_) | (apply gD; refine sD ?_) | fail)
      apply gW; refine sW (r := ((kk / 32 % g : Nat) : Int)) ?_ ⟨by omega, rfl⟩
      repeat' (first | refine go ?_ | intro _ | (apply cG; first | refine cT ?_ | refine cF ?_ | refine cS (fun _ => ?_) fun _ => ?_) | (apply gW; refine sW ?_) | (apply gI; refine sI ?_) | (apply gE; refine sE ?_) | (apply gP; refine sP ?_) | (apply gC; refine sC ?_) | (apply gD; refine sD ?_) | fail)
      refine O_d (dy_lit1 (R := eI) (f9 : Int) (hcs := by rfl) (hel := fun _ _ _ => by rfl)) ?_; rintro _ _ ⟨_, rfl, rfl⟩; refine O_n ?_
      repeat' (first | refine go ?_ | intro _ | (apply cG; first | refine cT ?_ | refine cF ?_ | refine cS (fun _ => ?_) fun _ => ?_) | (apply gW; refine sW ?_) | (apply gI; refine sI ?_) | (apply gE; refine sE ?_) | (apply gP; refine sP ?_) | (apply gC; refine sC ?_) | (apply gD; refine sD ?_) | fail)
      rename_i g1 A7 c7
      exact E_round ((g + 1, nx), A7, c7, into ++ [(f9 : Int)]) ⟨hgm, by dsimp only; rw [List.length_append, hil6]; rfl, by dsimp only; rw [numF_snoc hin (by omega), Nat.max_eq_left (by omega)]⟩ (by dsimp only; omega) ⟨by dsimp only; rw [List.length_append]; rfl, rfl, rfl, trivial⟩ (by dsimp only; rw [List.length_append]; exact Sb)
  obtain rfl : g = m := by omega
  repeat' (first | refine go ?_ | intro _ | (apply cG; first | refine cT ?_ | refine cF ?_ | refine cS (fun _ => ?_) fun _ => ?_) | (apply gW; refine sW ?_) | (apply gI; refine sI ?_) | (apply gE; refine sE ?_) | (apply gP; refine sP ?_) | (apply gC; refine sC ?_) | (apply gD; refine sD ?_) | fail)
  refine C_ownnil 3 eI ?_
  refine C_loopS (κ := Nat × Option Addr × Nat × List Int) [false, false, false, false, false, false, false, false, false, false, false, false, false, false, false, false, false, false, false, true, true, false, false, false, false, false, false, false, false, false, false, false, false, false, false, false, false, false, false, false, false, false, false, false, false, false, false, false, false, false, false, false, false, false, false, false, false, false, false, false, false, false, false, false, false, false, false, false, false, false, false, false, false, false, false, false, false, false, false, false, false, false, false, false, false, false, false, false, false, false, false, false, false, false, false, false, false, false, false, false, false, false, false, false, false, false, false, false, false, false, false, false, false, false, false, false, false, false, false, false, false, false, false, false, false, false, false, false, false, false, false, false, false, false, false, true, true, true, true, true, true, true, true, true, true, true, true, true, true, true, false, false, false, false, false, false, false, false, false, false, false, false] (fun k => [(19, .slice k.2.1 k.2.2.2.length k.2.2.1), (20, .int .i64 (k.1 : Int))]) (fun k => [(0, own 3 eI (.slice k.2.1 k.2.2.2.length k.2.2.1) k.2.2.2)]) (fun k => k.1 ≤ a1 ∧ k.2.2.2 = (last.take k.1).map fun x => into.getD x.toNat 0) (fun k => a1 - k.1) (0, none, 0, []) ⟨Nat.zero_le _, rfl⟩ ⟨rfl, rfl, trivial⟩ ?_
  rintro ⟨b1, A7, c7, ow⟩ u6 ⟨hb1, how⟩
  dsimp only at hb1 how
  dsimp only
  ((try dsimp only); refine C_n ?_; (try simp only [Nat.reduceAdd, Nat.zero_add]))
  have hol : ow.length = b1 := by rw [how, List.length_map, List.length_take]; omega
  by_cases hbj : b1 < a1
  · obtain ⟨x, hx⟩ : ∃ x, last[b1]? = some x := ⟨_, List.getElem?_eq_getElem (by omega)⟩
    obtain ⟨hx0, hx1⟩ := (numF_mem hm).2 x (List.mem_of_getElem? hx)
    obtain ⟨y, rfl⟩ : ∃ n : Nat, x = (n : Int) := ⟨x.toNat, by omega⟩
    obtain ⟨w, hw⟩ : ∃ w, into[y]? = some w := ⟨_, List.getElem?_eq_getElem (by omega)⟩
    have hax : At last b1 (y : Int) := ⟨hx⟩
    have haw : At into y w := ⟨hw⟩
    have hst : (last.take (b1 + 1)).map (fun x => into.getD x.toNat 0) = (last.take b1).map (fun x => into.getD x.toNat 0) ++ [w] := by
      rw [List.take_add_one, hx, List.map_append]
      simp [hw]
    repeat' (first | refine go ?_ | intro _ | (apply cG; first | refine cT ?_ | refine cF ?_ | refine cS (fun _ => ?_) fun _ => ?_) | (apply gW; refine sW ?_) | (apply gI; refine sI ?_) | (apply gE; refine sE ?_) | (apply gP; refine sP ?_) | (apply gC; refine sC ?_) | (apply gD; refine sD ?_) | fail)
    refine O_d (dy_lit1 (R := eI) w (hcs := by rfl) (hel := fun _ _ _ => by rfl)) ?_; rintro _ _ ⟨_, rfl, rfl⟩; refine O_n ?_
    repeat' (first | refine go ?_ | intro _ | (apply cG; first | refine cT ?_ | refine cF ?_ | refine cS (fun _ => ?_) fun _ => ?_) | (apply gW; refine sW ?_) | (apply gI; refine sI ?_) | (apply gE; refine sE ?_) | (apply gP; refine sP ?_) | (apply gC; refine sC ?_) | (apply gD; refine sD ?_) | fail)
    rename_i g1 A8 c8
    exact E_round (b1 + 1, A8, c8, ow ++ [w]) ⟨hbj, by dsimp only; rw [hst, how]⟩ (by dsimp only; omega) ⟨by dsimp only; rw [List.length_append]; rfl, rfl, trivial⟩ (by dsimp only; rw [List.length_append]; exact Sb)
  obtain rfl : b1 = a1 := by omega
  rw [show last.take b1 = last from by rw [← hlal]; exact List.take_length] at how
  obtain ⟨h9, _, hn9⟩ := numF_comp hin last 0 g 0 hm (by omega) rfl
  rw [← how] at hn9
  have hcoa : CoaOk last ow := by rw [how]; exact coa_map
  refine C_frz 0 ?_
  repeat' (first | refine go ?_ | intro _ | (apply cG; first | refine cT ?_ | refine cF ?_ | refine cS (fun _ => ?_) fun _ => ?_) | (apply gW; refine sW ?_) | (apply gI; refine sI ?_) | (apply gE; refine sE ?_) | (apply gP; refine sP ?_) | (apply gC; refine sC ?_) | (apply gD; refine sD ?_) | fail)
  refine O_d (dy_lit1 (R := eSX eI) (⟨.slice A7 ow.length c7, ow⟩ : SX Int) (hcs := by rfl) (hel := fun m h hs => ⟨rfl, rd_mem hs (by repeat (first | exact .head _ | refine .tail _ ?_))⟩)) ?_; rintro _ _ ⟨_, rfl, rfl⟩; refine O_n ?_
  repeat' (first | refine go ?_ | intro _ | (apply cG; first | refine cT ?_ | refine cF ?_ | refine cS (fun _ => ?_) fun _ => ?_) | (apply gW; refine sW ?_) | (apply gI; refine sI ?_) | (apply gE; refine sE ?_) | (apply gP; refine sP ?_) | (apply gC; refine sC ?_) | (apply gD; refine sD ?_) | fail)
  rename_i g1 A8 c8
  have hlst : (xs ++ [(⟨.slice A7 ow.length c7, ow⟩ : SX Int)])[s]? = some ⟨.slice A7 ow.length c7, ow⟩ := by
    rw [List.getElem?_append_right (by omega), hxl, Nat.sub_self]
    rfl
  refine E_round (s + 1, (A7, c7, ow), A8, c8, xs ++ [⟨.slice A7 ow.length c7, ow⟩]) ⟨hss, hol, by dsimp only; rw [hn9]; rfl, by dsimp only; rw [List.length_append, hxl]; rfl, fun x hx => ?_, fun s2 x y hx hy => ?_, fun x hx => ?_⟩ (by dsimp only; omega) ⟨rfl, rfl, trivial⟩ (by dsimp only; rw [List.length_append]; exact Sb)
  · rcases List.mem_append.1 hx with hx | hx
    · exact hxb x hx
    · simp only [List.mem_cons, List.not_mem_nil, or_false] at hx
      subst hx
      exact ⟨hol, by dsimp only; rw [hn9]; rfl⟩
  · have h8 := (List.getElem?_eq_some_iff.1 hy).1
    rw [List.length_append, List.length_cons, List.length_nil] at h8
    rw [List.getElem?_append_left (by omega)] at hx
    by_cases h7 : s2 + 1 < xs.length
    · rw [List.getElem?_append_left h7] at hy
      exact hco s2 x y hx hy
    · have h6 : s2 + 1 = s := by omega
      rw [h6, hlst] at hy
      injection hy with hy
      subst hy
      rw [hlx x (by rw [← h6]; exact hx)]
      exact hcoa
  · have hx' : (xs ++ [(⟨.slice A7 ow.length c7, ow⟩ : SX Int)])[s]? = some x := hx
    rw [hlst] at hx'
    injection hx' with hx'
    rw [← hx']
end
end Go.Proofs.Ytlmabajgnjiigaa
