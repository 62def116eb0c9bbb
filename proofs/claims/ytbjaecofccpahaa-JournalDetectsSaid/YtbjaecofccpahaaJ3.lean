/-
  Walks: the reference's Scan, Records, SameLists.
-/
import Derived.Test.YtbjaecofccpahaaJ2
namespace Go.Proofs.Ytbjaecofccpahaa
open Go Go.RowKit
set_option linter.unusedVariables false
set_option linter.unusedSimpArgs false
set_option maxRecDepth 20000
set_option synthInstance.maxSize 100000
set_option synthInstance.maxHeartbeats 400000
section
variable {W0 : World} {L : List HP}
/-- what a scan has still to do -/
def ScI (b : List UInt8) (xs : List (List UInt8)) (N : Nat) (out : List (List UInt8)) (n : Nat) : Prop := n ≤ b.length ∧ out.length ≤ n ∧ scanF b.length 0 b = (xs, N) ∧ (out ++ (scanF (b.length - out.length) (out.length : Int) (b.drop n)).1, n + (scanF (b.length - out.length) (out.length : Int) (b.drop n)).2) = (xs, N)
theorem ScI.zero {b : List UInt8} {xs : List (List UInt8)} {N : Nat} (h : scanF b.length 0 b = (xs, N)) : ScI b xs N [] 0 := ⟨Nat.zero_le _, Nat.zero_le _, h, by
  simp only [List.nil_append, List.length_nil, Nat.sub_zero, List.drop_zero, Nat.zero_add]
  exact h⟩
theorem ScI.fin {b : List UInt8} {xs out : List (List UInt8)} {N n : Nat} (h : ScI b xs N out n) (hn : b.length ≤ n) : out = xs ∧ n = N := by
  obtain ⟨h1, h2, h3, h4⟩ := h
  rw [List.drop_of_length_le hn, scanF_nil] at h4
  simpa using h4
theorem ScI.no {b : List UInt8} {xs out : List (List UInt8)} {N n : Nat} (h : ScI b xs N out n) (hf : isF (out.length : Int) (b.drop n) = false) : out = xs ∧ n = N := by
  obtain ⟨h1, h2, h3, h4⟩ := h
  cases hk : b.length - out.length with
  | zero =>
    rw [hk] at h4
    simpa [scanF] using h4
  | succ k =>
    rw [hk, scanF_no hf] at h4
    simpa using h4
theorem ScI.yes {b x : List UInt8} {xs out : List (List UInt8)} {N n : Nat} (h : ScI b xs N out n) (hn : n < b.length) (hf : isF (out.length : Int) (b.drop n) = true) (hx : recF (b.drop n) = x) : ScI b xs N (out ++ [x]) (n + (frameF (out.length : Int) x).length) := by
  obtain ⟨h1, h2, h3, h4⟩ := h
  have hfl : (frameF (out.length : Int) x).length ≤ (b.drop n).length := by
    obtain ⟨t, ht⟩ := isF_iff.1 hf
    rw [hx] at ht
    rw [← ht, List.length_append]; omega
  have hmin := frameF_min (out.length : Int) x
  rw [List.length_drop] at hfl
  obtain ⟨k, hk⟩ : ∃ k, b.length - out.length = k + 1 := ⟨b.length - out.length - 1, by omega⟩
  have hk' : b.length - (out.length + 1) = k := by omega
  have hb : b.drop n ≠ [] := by
    intro h
    have := congrArg List.length h
    rw [List.length_drop, List.length_nil] at this
    omega
  rw [hk, scanF_yes hb hf, hx, List.drop_drop] at h4
  refine ⟨by omega, by rw [List.length_append, List.length_singleton]; omega, h3, ?_⟩
  rw [← h4, List.length_append, List.length_singleton, hk']
  have hp : ((out.length + 1 : Nat) : Int) = (out.length : Int) + 1 := by push_cast; rfl
  rw [hp]
  simp only [List.append_assoc, List.cons_append, List.nil_append, Prod.mk.injEq, true_and]
  omega
theorem fScan_ct {v : Value} {b : List UInt8} {xs : List (List UInt8)} {N : Nat} (hb : rd eB v b ∈ L) (hl : b.length ≤ 1000000) (h : scanF b.length 0 b = (xs, N)) :
    CT Try.prog 26 #[v] W0 L fun r L' => ∃ A c, r = .tuple #[.slice A xs.length c, .int .i64 (N : Int)] ∧ L' = own 23 (eSl eB) (.slice A xs.length c) xs :: L := by
  refine CT_fact (fun w s => ((Src.sl (.inl hb) s).form)) ?_
  rintro ⟨Aa, ca, rfl, hca⟩
  have hI := ScI.zero h
  clear h
  refine CT_enter Try.func26 rfl ?_; (simp only [Try.ntmps26, List.size_toArray, List.length_cons, List.length_nil, Nat.reduceAdd, Nat.reduceSub, Array.replicate_succ, Array.replicate_zero, List.push_toArray, List.append_toArray, List.nil_append, List.cons_append])
  refine C_sub (sub_dup hb) ?_
  repeat' (first | refine go ?_ | intro _ | (apply cG; first | refine cT ?_ | refine cF ?_ | refine cS (fun _ => ?_) fun _ => ?_) | (apply gW; refine sW ?_) | (apply gI; refine sI ?_) | (apply gE; refine sE ?_) | (apply gP; refine sP ?_) | (apply gC; refine sC ?_) | (apply gD; refine sD ?_) | fail)
  refine C_ownnil 23 (eSl eB) ?_
  refine C_loopS (κ := Value × List (List UInt8) × Nat) [false, false, false, false, true, true, true, true, true, true, true, true, true, true, true, true, true, true, true, true, true, true, true, true, true, true, true, true, true, true, true, true, true, true, false, false] (fun k => [(4, k.1), (5, .int .i64 (k.2.2 : Int))]) (fun k => [(0, own 23 (eSl eB) k.1 k.2.1)]) (fun k => (∃ A c, k.1 = .slice A k.2.1.length c) ∧ ScI b xs N k.2.1 k.2.2) (fun k => b.length - k.2.2) (.slice none 0 0, [], 0) ⟨⟨none, 0, rfl⟩, hI⟩ ⟨rfl, rfl, trivial⟩ ?_
  rintro ⟨vo, out, n⟩ u ⟨⟨A, c, hv⟩, hI⟩
  dsimp only at hv hI
  subst hv
  ((try dsimp only); refine C_n ?_; (try simp only [Nat.reduceAdd, Nat.zero_add]))
  have hn := hI.1
  have ho := hI.2.1
  by_cases hlt : n < b.length
  · obtain ⟨ok, hok⟩ : ∃ ok, isF (out.length : Int) (b.drop n) = ok := ⟨_, rfl⟩
    obtain ⟨x, hx⟩ : ∃ x, recF (b.drop n) = x := ⟨_, rfl⟩
    have hxl := recF_len (b.drop n)
    rw [hx, List.length_drop] at hxl
    have hd : (b.drop n).take (b.length - n) = b.drop n := List.take_of_length_le (by rw [List.length_drop]; omega)
    repeat' (first | refine go ?_ | intro _ | (apply cG; first | refine cT ?_ | refine cF ?_ | refine cS (fun _ => ?_) fun _ => ?_) | (apply gW; refine sW ?_) | (apply gI; refine sI ?_) | (apply gE; refine sE ?_) | (apply gP; refine sP ?_) | (apply gC; refine sC ?_) | (apply gD; refine sD ?_) | fail)
    rw [hd]
    refine O_d (dy_call ArgsI.pf (by first | exact rfl | trivial | (intro a b; rfl)) (first_ct (.head _) (by rw [List.length_drop]; omega) (by omega) (by omega) hx hok)) ?_; rintro _ _ ⟨_, ⟨A1, c1, y, rfl, rfl, hy⟩, rfl⟩; refine O_n ?_
    cases ok
    · obtain ⟨rfl, rfl⟩ := hI.no hok
      repeat' (first | refine go ?_ | intro _ | (apply cG; first | refine cT ?_ | refine cF ?_ | refine cS (fun _ => ?_) fun _ => ?_) | (apply gW; refine sW ?_) | (apply gI; refine sI ?_) | (apply gE; refine sE ?_) | (apply gP; refine sP ?_) | (apply gC; refine sC ?_) | (apply gD; refine sD ?_) | fail)
      refine E_res2 (by rfl) (by rfl) ⟨_, _, rfl, rfl⟩ Sb
    · obtain rfl := hy rfl
      have hnext := hI.yes hlt hok hx
      have hlen := hnext.1
      have hfl := frameF_len (i := (out.length : Int)) (x := y) (by omega) (by omega) (by omega)
      repeat' (first | refine go ?_ | intro _ | (apply cG; first | refine cT ?_ | refine cF ?_ | refine cS (fun _ => ?_) fun _ => ?_) | (apply gW; refine sW ?_) | (apply gI; refine sI ?_) | (apply gE; refine sE ?_) | (apply gP; refine sP ?_) | (apply gC; refine sC ?_) | (apply gD; refine sD ?_) | fail)
      refine O_d (dy_call ArgsI.pf (by first | exact rfl | trivial | (intro a b; rfl)) (fFrame_ct (x := y) Sc.pf (by omega) (by omega) (by omega))) ?_; rintro _ _ ⟨_, ⟨A2, c2, rfl, rfl⟩, rfl⟩; refine O_n ?_
      repeat' (first | refine go ?_ | intro _ | (apply cG; first | refine cT ?_ | refine cF ?_ | refine cS (fun _ => ?_) fun _ => ?_) | (apply gW; refine sW ?_) | (apply gI; refine sI ?_) | (apply gE; refine sE ?_) | (apply gP; refine sP ?_) | (apply gC; refine sC ?_) | (apply gD; refine sD ?_) | fail)
      refine O_d (dy_litS (R := eSl eB) [y] [.slice A1 y.length c1] (by rfl) (fun m h hs => ⟨⟨_, rfl, rd_mem hs (by repeat (first | exact .head _ | refine .tail _ ?_))⟩, trivial⟩)) ?_; rintro _ _ ⟨_, rfl, rfl⟩; refine O_n ?_
      refine O_d dy_append ?_; rintro _ _ ⟨A3, c3, rfl, rfl⟩; refine O_n ?_
      repeat' (first | refine go ?_ | intro _ | (apply cG; first | refine cT ?_ | refine cF ?_ | refine cS (fun _ => ?_) fun _ => ?_) | (apply gW; refine sW ?_) | (apply gI; refine sI ?_) | (apply gE; refine sE ?_) | (apply gP; refine sP ?_) | (apply gC; refine sC ?_) | (apply gD; refine sD ?_) | fail)
      exact E_round (.slice A3 (out.length + 1) c3, out ++ [y], n + (frameF (out.length : Int) y).length) ⟨⟨A3, c3, by rw [List.length_append]; rfl⟩, hnext⟩ (by have := frameF_min (out.length : Int) y; show b.length - (n + _) < b.length - n; omega) ⟨rfl, rfl, trivial⟩ Sb
  · obtain ⟨rfl, rfl⟩ := hI.fin (by omega)
    repeat' (first | refine go ?_ | intro _ | (apply cG; first | refine cT ?_ | refine cF ?_ | refine cS (fun _ => ?_) fun _ => ?_) | (apply gW; refine sW ?_) | (apply gI; refine sI ?_) | (apply gE; refine sE ?_) | (apply gP; refine sP ?_) | (apply gC; refine sC ?_) | (apply gD; refine sD ?_) | fail)
    refine E_res2 (by rfl) (by rfl) ⟨_, _, rfl, rfl⟩ Sb
end
end Go.Proofs.Ytbjaecofccpahaa
