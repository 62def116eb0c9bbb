/-
  Walks: the reference's Records, the examples.
-/
import Derived.Test.YtbjaecofccpahaaJ4
import Derived.Test.YtbjaecofccpahaaJs
namespace Go.Proofs.Ytbjaecofccpahaa
open Go Go.RowKit
set_option linter.unusedVariables false
set_option linter.unusedSimpArgs false
set_option maxRecDepth 20000
set_option synthInstance.maxSize 100000
set_option synthInstance.maxHeartbeats 400000
theorem u8_any' (z : Int) : ∃ b : UInt8, IntKind.u8.wrap z = (b.toNat : Int) := by
  have h0 : 0 ≤ IntKind.u8.wrap z ∧ IntKind.u8.wrap z < 256 := by
    rw [show IntKind.u8.wrap z = z % 256 from IntKind.wrap_u8 z]
    omega
  refine ⟨UInt8.ofNat (IntKind.u8.wrap z).toNat, ?_⟩
  rw [UInt8.toNat_ofNat']
  omega
section
variable {W0 : World} {L : List HP}
theorem Records_ct {v : Value} {li : List Int} (hv : rd eI v li ∈ L) (hl : li.length ≤ 9223372036854775807) (hr : ∀ n ∈ li, -9223372036854775808 ≤ n ∧ n ≤ 9223372036854775807) :
    CT Try.prog 14 #[v] W0 L fun r L' => ∃ A c xs, r = .slice A (List.length xs) c ∧ L' = own 23 (eSl eB) (.slice A (List.length xs) c) xs :: L ∧ (∀ x ∈ xs, x.length ≤ 10) ∧ xs.length ≤ 6 := by
  refine CT_fact (fun w s => ((Src.sl (.inl hv) s).form)) ?_
  rintro ⟨A, cap, rfl, hcap⟩
  refine CT_enter Try.func14 rfl ?_; (simp only [Try.ntmps14, List.size_toArray, List.length_cons, List.length_nil, Nat.reduceAdd, Nat.reduceSub, Array.replicate_succ, Array.replicate_zero, List.push_toArray, List.append_toArray, List.nil_append, List.cons_append])
  refine C_sub (sub_dup hv) ?_
  repeat' (first | refine go ?_ | intro _ | (apply cG; first | refine cT ?_ | refine cF ?_ | refine cS (fun _ => ?_) fun _ => ?_) | (apply gW; refine sW ?_) | (apply gI; refine sI ?_) | (apply gE; refine sE ?_) | (apply gP; refine sP ?_) | (apply gC; refine sC ?_) | (apply gD; refine sD ?_) | fail)
  refine C_ownnil 23 (eSl eB) ?_
  refine C_loopS (κ := Nat × Value × List (List UInt8)) [false, false, false, true, true, true, true, true, true, true, true, true, true, true, true, true, true, true, true, true, true, true, true, true, true, true, true, true, true, true, true, true, true, true, true, true, true, true, true, true, true, true, true, false] (fun k => [(3, k.2.1), (4, .int .i64 (k.1 : Int))]) (fun k => [(0, own 23 (eSl eB) k.2.1 k.2.2)]) (fun k => k.1 ≤ 6 ∧ k.1 ≤ li.length ∧ (∃ A c, k.2.1 = .slice A k.2.2.length c) ∧ k.2.2.length = k.1 ∧ ∀ x ∈ k.2.2, x.length ≤ 10) (fun k => 6 - k.1) (0, .slice none 0 0, []) ⟨by decide, Nat.zero_le _, ⟨none, 0, rfl⟩, rfl, fun x hx => by cases hx⟩ ⟨rfl, rfl, trivial⟩ ?_
  rintro ⟨i, vo, out⟩ u ⟨h6, hi, ⟨A1, c1, hvo⟩, hlen, hall⟩
  dsimp only at h6 hi hvo hlen hall
  subst hvo
  ((try dsimp only); refine C_n ?_; (try simp only [Nat.reduceAdd, Nat.zero_add]))
  by_cases hlt : i < li.length ∧ i < 6
  · obtain ⟨hlt1, hlt2⟩ := hlt
    obtain ⟨x, hx⟩ : ∃ x, li[i]? = some x := ⟨_, List.getElem?_eq_getElem hlt1⟩
    have hxi := hr x (List.mem_of_getElem? hx)
    have hax : At li i x := ⟨hx⟩
    repeat' (first | refine go ?_ | intro _ | (apply cG; first | refine cT ?_ | refine cF ?_ | refine cS (fun _ => ?_) fun _ => ?_) | (apply gW; refine sW ?_) | (apply gI; refine sI ?_) | (apply gE; refine sE ?_) | (apply gP; refine sP ?_) | (apply gC; refine sC ?_) | (apply gD; refine sD ?_) | fail)
    refine O_d (dy_call ArgsI.pf (by first | exact rfl | trivial | (intro a b; rfl)) (Around_ct hxi.1 hxi.2 (by decide) (by decide))) ?_; rintro _ _ ⟨_, ⟨rfl, hLL⟩, rfl⟩; replace hLL := hLL.symm; subst hLL; refine O_n ?_
    obtain ⟨n, hn, hnl⟩ : ∃ n : Nat, around x 1000 = (n : Int) ∧ n < 1000 := by
      have := around_in (n := x) (most := 1000) (by decide)
      exact ⟨(around x 1000).toNat, by omega, by omega⟩
    rw [hn]
    repeat' (first | refine go ?_ | intro _ | (apply cG; first | refine cT ?_ | refine cF ?_ | refine cS (fun _ => ?_) fun _ => ?_) | (apply gW; refine sW ?_) | (apply gI; refine sI ?_) | (apply gE; refine sE ?_) | (apply gP; refine sP ?_) | (apply gC; refine sC ?_) | (apply gD; refine sD ?_) | fail)
    refine C_ownnil 5 eB ?_
    refine C_loopS (κ := Nat × Value × List UInt8) [false, false, false, false, false, false, true, true, false, false, false, false, false, false, false, false, false, false, false, false, false, false, false, true, true, true, true, true, true, true, true, true, true, true, true, true, true, true, true, false, false, false, false, false] (fun k => [(6, k.2.1), (7, .int .i64 (k.1 : Int))]) (fun k => [(0, own 5 eB k.2.1 k.2.2)]) (fun k => k.1 ≤ 10 ∧ (∃ A c, k.2.1 = .slice A k.2.2.length c) ∧ k.2.2.length = k.1) (fun k => 10 - k.1) (0, .slice none 0 0, []) ⟨by decide, ⟨none, 0, rfl⟩, rfl⟩ ⟨rfl, rfl, trivial⟩ ?_
    rintro ⟨j, vb, lb⟩ u2 ⟨g1, ⟨A3, c3, hvb⟩, hlb⟩
    dsimp only at g1 hvb hlb
    subst hvb
    ((try dsimp only); refine C_n ?_; (try simp only [Nat.reduceAdd, Nat.zero_add]))
    by_cases hjm : (j : Int) < (n : Int) % 11
    · have hmul : (j : Int) * (n : Int) = ((j * n : Nat) : Int) := by push_cast; rfl
      have hmb : j * n ≤ 10 * 1000 := Nat.mul_le_mul g1 (by omega)
      obtain ⟨y, hy⟩ : ∃ y, j * n = y := ⟨_, rfl⟩
      rw [hy] at hmul hmb
      obtain ⟨b, hb⟩ := u8_any' ((n : Int) / 11 + (j : Int) * (n : Int))
      repeat' (first | refine go ?_ | intro _ | (apply cG; first | refine cT ?_ | refine cF ?_ | refine cS (fun _ => ?_) fun _ => ?_) | (apply gW; refine sW ?_) | (apply gI; refine sI ?_) | (apply gE; refine sE ?_) | (apply gP; refine sP ?_) | (apply gC; refine sC ?_) | (apply gD; refine sD ?_) | fail)
      rw [hb]
      refine O_d (dy_lit1 (R := eB) b (hcs := by rfl) (hel := fun _ _ _ => by rfl)) ?_; rintro _ _ ⟨_, rfl, rfl⟩; refine O_n ?_
      refine O_d dy_append ?_; rintro _ _ ⟨A4, c4, rfl, rfl⟩; refine O_n ?_
      repeat' (first | refine go ?_ | intro _ | (apply cG; first | refine cT ?_ | refine cF ?_ | refine cS (fun _ => ?_) fun _ => ?_) | (apply gW; refine sW ?_) | (apply gI; refine sI ?_) | (apply gE; refine sE ?_) | (apply gP; refine sP ?_) | (apply gC; refine sC ?_) | (apply gD; refine sD ?_) | fail)
      exact E_round (j + 1, .slice A4 (lb.length + 1) c4, lb ++ [b]) ⟨by omega, ⟨A4, c4, by rw [List.length_append]; rfl⟩, by rw [List.length_append, hlb]; rfl⟩ (by show 10 - (j + 1) < 10 - j; omega) ⟨rfl, rfl, trivial⟩ Sb
    · repeat' (first | refine go ?_ | intro _ | (apply cG; first | refine cT ?_ | refine cF ?_ | refine cS (fun _ => ?_) fun _ => ?_) | (apply gW; refine sW ?_) | (apply gI; refine sI ?_) | (apply gE; refine sE ?_) | (apply gP; refine sP ?_) | (apply gC; refine sC ?_) | (apply gD; refine sD ?_) | fail)
      refine O_frz 0 ?_
      refine O_d (dy_litS (R := eSl eB) [lb] [.slice A3 lb.length c3] (by rfl) (fun m h hs => ⟨⟨_, rfl, rd_mem hs (by repeat (first | exact .head _ | refine .tail _ ?_))⟩, trivial⟩)) ?_; rintro _ _ ⟨_, rfl, rfl⟩; refine O_n ?_
      refine O_d dy_append ?_; rintro _ _ ⟨A4, c4, rfl, rfl⟩; refine O_n ?_
      repeat' (first | refine go ?_ | intro _ | (apply cG; first | refine cT ?_ | refine cF ?_ | refine cS (fun _ => ?_) fun _ => ?_) | (apply gW; refine sW ?_) | (apply gI; refine sI ?_) | (apply gE; refine sE ?_) | (apply gP; refine sP ?_) | (apply gC; refine sC ?_) | (apply gD; refine sD ?_) | fail)
      exact E_round (i + 1, .slice A4 (out.length + 1) c4, out ++ [lb]) ⟨by omega, by omega, ⟨A4, c4, by rw [List.length_append]; rfl⟩, by rw [List.length_append, hlen]; rfl, fun z hz => by
        rcases List.mem_append.1 hz with hz | hz
        · exact hall z hz
        · simp only [List.mem_cons, List.not_mem_nil, or_false] at hz
          subst hz
          omega⟩ (by show 6 - (i + 1) < 6 - i; omega) ⟨rfl, rfl, trivial⟩ Sb
  · by_cases hlt1 : i < li.length
    · have hlt2 : ¬ i < 6 := fun h => hlt ⟨hlt1, h⟩
      repeat' (first | refine go ?_ | intro _ | (apply cG; first | refine cT ?_ | refine cF ?_ | refine cS (fun _ => ?_) fun _ => ?_) | (apply gW; refine sW ?_) | (apply gI; refine sI ?_) | (apply gE; refine sE ?_) | (apply gP; refine sP ?_) | (apply gC; refine sC ?_) | (apply gD; refine sD ?_) | fail)
      refine E_res1 (by rfl) (by rfl) ⟨_, _, _, rfl, rfl, hall, by omega⟩ Sb
    · repeat' (first | refine go ?_ | intro _ | (apply cG; first | refine cT ?_ | refine cF ?_ | refine cS (fun _ => ?_) fun _ => ?_) | (apply gW; refine sW ?_) | (apply gI; refine sI ?_) | (apply gE; refine sE ?_) | (apply gP; refine sP ?_) | (apply gC; refine sC ?_) | (apply gD; refine sD ?_) | fail)
      refine E_res1 (by rfl) (by rfl) ⟨_, _, _, rfl, rfl, hall, by omega⟩ Sb
end
end Go.Proofs.Ytbjaecofccpahaa
