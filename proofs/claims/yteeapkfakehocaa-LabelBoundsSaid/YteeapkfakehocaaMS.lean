/-
  Walks: labels and boxes made from numbers.
-/
import Derived.Test.YteeapkfakehocaaMR
import Derived.Test.YteeapkfakehocaaMP
namespace Go.Proofs.Yteeapkfakehocaa
open Go Go.RowKit
set_option linter.unusedVariables false
set_option linter.unusedSimpArgs false
set_option maxRecDepth 20000
set_option synthInstance.maxSize 100000
set_option synthInstance.maxHeartbeats 400000
instance : EncF eAK (fun a => [.int .i64 a.x, .int .i64 a.y, .int .i64 a.w, .int .i64 a.h, .int .i64 a.g]) := ⟨fun _ _ _ => Iff.rfl⟩
abbrev I64 (n : Int) : Prop := -9223372036854775808 ≤ n ∧ n ≤ 9223372036854775807
section
variable {W0 : World} {L : List HP}
theorem Grid_ct {n : Int} (h1 : -9223372036854775808 ≤ n) (h2 : n ≤ 9223372036854775807) : CT Try.prog 34 #[.int .i64 n] W0 L fun r L' => ∃ x y : Nat, r = .agg #[.int .i64 (x : Int), .int .i64 (y : Int)] ∧ x ≤ 32 ∧ y ≤ 32 ∧ L' = L := by
  have ha := around_in (n := n) (most := 1048576) (by decide)
  obtain ⟨N, hN⟩ : ∃ N : Nat, around n 1048576 = (N : Int) := ⟨(around n 1048576).toNat, by omega⟩
  rw [hN] at ha
  refine CT_enter Try.func34 rfl ?_; (simp only [Try.ntmps34, List.size_toArray, List.length_cons, List.length_nil, Nat.reduceAdd, Nat.reduceSub, Array.replicate_succ, Array.replicate_zero, List.push_toArray, List.append_toArray, List.nil_append, List.cons_append])
  repeat' (first | refine go ?_ | intro _ | (apply cG; first | refine cT ?_ | refine cF ?_ | refine cS (fun _ => ?_) fun _ => ?_) | (apply gW; refine sW ?_) | (apply gI; refine sI ?_) | (apply gE; refine sE ?_) | (apply gP; refine sP ?_) | (apply gC; refine sC ?_) | (apply gD; refine sD ?_) | fail)
  refine O_d (dy_call ArgsI.pf (by first | exact rfl | trivial | (intro a b; rfl)) (Around_ct (most := 1048576) h1 h2 (by decide) (by decide))) ?_; rintro _ _ ⟨_, ⟨rfl, hLL⟩, rfl⟩; replace hLL := hLL.symm; subst hLL; refine O_n ?_
  rw [hN]
  by_cases h0 : N % 3 = 0
  · repeat' (first | refine go ?_ | intro _ | (apply cG; first | refine cT ?_ | refine cF ?_ | refine cS (fun _ => ?_) fun _ => ?_) | (apply gI; refine sI ?_) | (apply gE; refine sE ?_) | (apply gP; refine sP ?_) | (apply gC; refine sC ?_) | (apply gD; refine sD ?_) | fail)
    apply gW; refine sW (r := ((N % 3 : Nat) : Int)) ?_ ⟨by decide, rfl⟩
    repeat' (first | refine go ?_ | intro _ | (apply cG; first | refine cT ?_ | refine cF ?_ | refine cS (fun _ => ?_) fun _ => ?_) | (apply gI; refine sI ?_) | (apply gE; refine sE ?_) | (apply gP; refine sP ?_) | (apply gC; refine sC ?_) | (apply gD; refine sD ?_) | fail)
    apply gW; refine sW (r := ((N / 3 : Nat) : Int)) ?_ ⟨by decide, by show IntKind.i64.wrap ((N / 3 : Nat) : Int) = ((N / 3 : Nat) : Int); exact wr_i64 (by omega) (by omega)⟩
    repeat' (first | refine go ?_ | intro _ | (apply cG; first | refine cT ?_ | refine cF ?_ | refine cS (fun _ => ?_) fun _ => ?_) | (apply gI; refine sI ?_) | (apply gE; refine sE ?_) | (apply gP; refine sP ?_) | (apply gC; refine sC ?_) | (apply gD; refine sD ?_) | fail)
    apply gW; refine sW (r := (((N / 3) % 5 : Nat) : Int)) ?_ ⟨by decide, rfl⟩
    repeat' (first | refine go ?_ | intro _ | (apply cG; first | refine cT ?_ | refine cF ?_ | refine cS (fun _ => ?_) fun _ => ?_) | (apply gI; refine sI ?_) | (apply gE; refine sE ?_) | (apply gP; refine sP ?_) | (apply gC; refine sC ?_) | (apply gD; refine sD ?_) | fail)
    apply gW; refine sW (r := ((8 * (N / 3 % 5) : Nat) : Int)) ?_ (by show IntKind.i64.wrap _ = _; rw [Int.natCast_mul]; exact wr_i64 (by omega) (by omega))
    repeat' (first | refine go ?_ | intro _ | (apply cG; first | refine cT ?_ | refine cF ?_ | refine cS (fun _ => ?_) fun _ => ?_) | (apply gI; refine sI ?_) | (apply gE; refine sE ?_) | (apply gP; refine sP ?_) | (apply gC; refine sC ?_) | (apply gD; refine sD ?_) | fail)
    apply gW; refine sW (r := ((N / 15 : Nat) : Int)) ?_ ⟨by decide, by show IntKind.i64.wrap ((N / 15 : Nat) : Int) = ((N / 15 : Nat) : Int); exact wr_i64 (by omega) (by omega)⟩
    repeat' (first | refine go ?_ | intro _ | (apply cG; first | refine cT ?_ | refine cF ?_ | refine cS (fun _ => ?_) fun _ => ?_) | (apply gI; refine sI ?_) | (apply gE; refine sE ?_) | (apply gP; refine sP ?_) | (apply gC; refine sC ?_) | (apply gD; refine sD ?_) | fail)
    apply gW; refine sW (r := (((N / 15) % 5 : Nat) : Int)) ?_ ⟨by decide, rfl⟩
    repeat' (first | refine go ?_ | intro _ | (apply cG; first | refine cT ?_ | refine cF ?_ | refine cS (fun _ => ?_) fun _ => ?_) | (apply gI; refine sI ?_) | (apply gE; refine sE ?_) | (apply gP; refine sP ?_) | (apply gC; refine sC ?_) | (apply gD; refine sD ?_) | fail)
    apply gW; refine sW (r := ((8 * (N / 15 % 5) : Nat) : Int)) ?_ (by show IntKind.i64.wrap _ = _; rw [Int.natCast_mul]; exact wr_i64 (by omega) (by omega))
    repeat' (first | refine go ?_ | intro _ | (apply cG; first | refine cT ?_ | refine cF ?_ | refine cS (fun _ => ?_) fun _ => ?_) | (apply gW; refine sW ?_) | (apply gI; refine sI ?_) | (apply gE; refine sE ?_) | (apply gP; refine sP ?_) | (apply gC; refine sC ?_) | (apply gD; refine sD ?_) | fail)
    refine E_res1 (by rfl) (by rfl) ⟨8 * (N / 3 % 5), 8 * (N / 15 % 5), rfl, by omega, by omega, rfl⟩ Sb
  · repeat' (first | refine go ?_ | intro _ | (apply cG; first | refine cT ?_ | refine cF ?_ | refine cS (fun _ => ?_) fun _ => ?_) | (apply gI; refine sI ?_) | (apply gE; refine sE ?_) | (apply gP; refine sP ?_) | (apply gC; refine sC ?_) | (apply gD; refine sD ?_) | fail)
    apply gW; refine sW (r := ((N % 3 : Nat) : Int)) ?_ ⟨by decide, rfl⟩
    repeat' (first | refine go ?_ | intro _ | (apply cG; first | refine cT ?_ | refine cF ?_ | refine cS (fun _ => ?_) fun _ => ?_) | (apply gI; refine sI ?_) | (apply gE; refine sE ?_) | (apply gP; refine sP ?_) | (apply gC; refine sC ?_) | (apply gD; refine sD ?_) | fail)
    apply gW; refine sW (r := ((N / 3 : Nat) : Int)) ?_ ⟨by decide, by show IntKind.i64.wrap ((N / 3 : Nat) : Int) = ((N / 3 : Nat) : Int); exact wr_i64 (by omega) (by omega)⟩
    repeat' (first | refine go ?_ | intro _ | (apply cG; first | refine cT ?_ | refine cF ?_ | refine cS (fun _ => ?_) fun _ => ?_) | (apply gI; refine sI ?_) | (apply gE; refine sE ?_) | (apply gP; refine sP ?_) | (apply gC; refine sC ?_) | (apply gD; refine sD ?_) | fail)
    apply gW; refine sW (r := (((N / 3) % 33 : Nat) : Int)) ?_ ⟨by decide, rfl⟩
    repeat' (first | refine go ?_ | intro _ | (apply cG; first | refine cT ?_ | refine cF ?_ | refine cS (fun _ => ?_) fun _ => ?_) | (apply gI; refine sI ?_) | (apply gE; refine sE ?_) | (apply gP; refine sP ?_) | (apply gC; refine sC ?_) | (apply gD; refine sD ?_) | fail)
    apply gW; refine sW (r := ((N / 99 : Nat) : Int)) ?_ ⟨by decide, by show IntKind.i64.wrap ((N / 99 : Nat) : Int) = ((N / 99 : Nat) : Int); exact wr_i64 (by omega) (by omega)⟩
    repeat' (first | refine go ?_ | intro _ | (apply cG; first | refine cT ?_ | refine cF ?_ | refine cS (fun _ => ?_) fun _ => ?_) | (apply gI; refine sI ?_) | (apply gE; refine sE ?_) | (apply gP; refine sP ?_) | (apply gC; refine sC ?_) | (apply gD; refine sD ?_) | fail)
    apply gW; refine sW (r := (((N / 99) % 33 : Nat) : Int)) ?_ ⟨by decide, rfl⟩
    repeat' (first | refine go ?_ | intro _ | (apply cG; first | refine cT ?_ | refine cF ?_ | refine cS (fun _ => ?_) fun _ => ?_) | (apply gW; refine sW ?_) | (apply gI; refine sI ?_) | (apply gE; refine sE ?_) | (apply gP; refine sP ?_) | (apply gC; refine sC ?_) | (apply gD; refine sD ?_) | fail)
    refine E_res1 (by rfl) (by rfl) ⟨N / 3 % 33, N / 99 % 33, rfl, by omega, by omega, rfl⟩ Sb
theorem Pick_ct {A : Option Addr} {c : Nat} {l : List Int} {j : Int} (hv : rd eI (.slice A l.length c) l ∈ L) (hr : ∀ n ∈ l, I64 n) (h0 : 0 ≤ j) (h1 : j < l.length) : CT Try.prog 33 #[.slice A l.length c, .int .i64 j, .int .i64 1048576] W0 L fun r L' => ∃ N : Nat, r = .int .i64 (N : Int) ∧ N < 1048576 ∧ L' = L := by
  refine CT.sub ?_ (sub_dup hv)
  obtain ⟨k, rfl⟩ : ∃ k : Nat, j = (k : Int) := ⟨j.toNat, by omega⟩
  have hk : k < l.length := by omega
  obtain ⟨x, hx⟩ : ∃ x, l[k]? = some x := ⟨_, List.getElem?_eq_getElem hk⟩
  have hax : At l k x := ⟨hx⟩
  have hxr := hr x (List.mem_of_getElem? hx)
  have ha := around_in (n := x) (most := 1048576) (by decide)
  obtain ⟨N, hN⟩ : ∃ N : Nat, around x 1048576 = (N : Int) := ⟨(around x 1048576).toNat, by omega⟩
  rw [hN] at ha
  refine CT_enter Try.func33 rfl ?_; (simp only [Try.ntmps33, List.size_toArray, List.length_cons, List.length_nil, Nat.reduceAdd, Nat.reduceSub, Array.replicate_succ, Array.replicate_zero, List.push_toArray, List.append_toArray, List.nil_append, List.cons_append])
  repeat' (first | refine go ?_ | intro _ | (apply cG; first | refine cT ?_ | refine cF ?_ | refine cS (fun _ => ?_) fun _ => ?_) | (apply gW; refine sW ?_) | (apply gI; refine sI ?_) | (apply gE; refine sE ?_) | (apply gP; refine sP ?_) | (apply gC; refine sC ?_) | (apply gD; refine sD ?_) | fail)
  refine O_d (dy_call ArgsI.pf (by first | exact rfl | trivial | (intro a b; rfl)) (Around_ct (most := 1048576) hxr.1 hxr.2 (by decide) (by decide))) ?_; rintro _ _ ⟨_, ⟨rfl, hLL⟩, rfl⟩; replace hLL := hLL.symm; subst hLL; refine O_n ?_
  rw [hN]
  repeat' (first | refine go ?_ | intro _ | (apply cG; first | refine cT ?_ | refine cF ?_ | refine cS (fun _ => ?_) fun _ => ?_) | (apply gW; refine sW ?_) | (apply gI; refine sI ?_) | (apply gE; refine sE ?_) | (apply gP; refine sP ?_) | (apply gC; refine sC ?_) | (apply gD; refine sD ?_) | fail)
  refine E_res1 (by rfl) (by rfl) ⟨N, rfl, by omega, rfl⟩ Sb
/-- what the labels made from numbers are -/
abbrev SomeOk (a : AK) : Prop := (0 ≤ a.x ∧ a.x ≤ 16) ∧ (0 ≤ a.y ∧ a.y ≤ 16) ∧ (1 ≤ a.w ∧ a.w ≤ 12) ∧ (1 ≤ a.h ∧ a.h ≤ 5) ∧ 1 ≤ a.g ∧ a.g ≤ 6
theorem Some_ct {A : Option Addr} {c : Nat} {l : List Int} {m : Nat} (hv : rd eI (.slice A l.length c) l ∈ L) (hr : ∀ n ∈ l, I64 n) (hl : l.length ≤ 9223372036854775807) (hm : m ≤ 1000) : CT Try.prog 11 #[.slice A l.length c, .int .i64 (m : Int)] W0 L fun r L' => ∃ A2 c2 x, r = .slice A2 x.length c2 ∧ x.length ≤ m ∧ (∀ a ∈ x, SomeOk a) ∧ L' = own 39 eAK (.slice A2 x.length c2) x :: L := by
  refine CT.sub ?_ (sub_dup hv)
  refine CT_enter Try.func11 rfl ?_; (simp only [Try.ntmps11, List.size_toArray, List.length_cons, List.length_nil, Nat.reduceAdd, Nat.reduceSub, Array.replicate_succ, Array.replicate_zero, List.push_toArray, List.append_toArray, List.nil_append, List.cons_append])
  repeat' (first | refine go ?_ | intro _ | (apply cG; first | refine cT ?_ | refine cF ?_ | refine cS (fun _ => ?_) fun _ => ?_) | (apply gW; refine sW ?_) | (apply gI; refine sI ?_) | (apply gE; refine sE ?_) | (apply gP; refine sP ?_) | (apply gC; refine sC ?_) | (apply gD; refine sD ?_) | fail)
  refine C_ownnil 39 eAK ?_
  refine C_loopS (κ := Nat × Option Addr × Nat × List AK) [false, false, false, false, false, true, true, true, true, true, true, true, true, true, true, true, true, true, true, true, true, true, true, true, true, true, true, true, true, true, true, true, true, true, true, true, true, true, true, true, true, true, true, true, true, true, true, true, true, true, true, true, true, true, false] (fun k => [(5, .slice k.2.1 k.2.2.2.length k.2.2.1), (6, .int .i64 (k.1 : Int))]) (fun k => [(0, own 39 eAK (.slice k.2.1 k.2.2.2.length k.2.2.1) k.2.2.2)]) (fun k => k.2.2.2.length = k.1 ∧ k.1 ≤ m ∧ ∀ a ∈ k.2.2.2, SomeOk a) (fun k => m - k.1) (0, none, 0, []) ⟨rfl, Nat.zero_le _, fun _ h => (by cases h)⟩ ⟨rfl, rfl, trivial⟩ ?_
  rintro ⟨i, A2, c2, x⟩ u ⟨hx, hi, hok⟩
  dsimp only at hx hi hok
  subst hx
  dsimp only
  ((try dsimp only); refine C_n ?_; (try simp only [Nat.reduceAdd, Nat.zero_add]))
  by_cases h1 : 2 * (x.length : Int) + 1 < l.length
  rotate_left
  · repeat' (first | refine go ?_ | intro _ | (apply cG; first | refine cT ?_ | refine cF ?_ | refine cS (fun _ => ?_) fun _ => ?_) | (apply gW; refine sW ?_) | (apply gI; refine sI ?_) | (apply gE; refine sE ?_) | (apply gP; refine sP ?_) | (apply gC; refine sC ?_) | (apply gD; refine sD ?_) | fail)
    refine E_res1 (by rfl) (by rfl) ⟨A2, c2, x, rfl, hi, hok, rfl⟩ Sb
  by_cases h2 : x.length < m
  rotate_left
  · repeat' (first | refine go ?_ | intro _ | (apply cG; first | refine cT ?_ | refine cF ?_ | refine cS (fun _ => ?_) fun _ => ?_) | (apply gW; refine sW ?_) | (apply gI; refine sI ?_) | (apply gE; refine sE ?_) | (apply gP; refine sP ?_) | (apply gC; refine sC ?_) | (apply gD; refine sD ?_) | fail)
    refine E_res1 (by rfl) (by rfl) ⟨A2, c2, x, rfl, hi, hok, rfl⟩ Sb
  repeat' (first | refine go ?_ | intro _ | (apply cG; first | refine cT ?_ | refine cF ?_ | refine cS (fun _ => ?_) fun _ => ?_) | (apply gW; refine sW ?_) | (apply gI; refine sI ?_) | (apply gE; refine sE ?_) | (apply gP; refine sP ?_) | (apply gC; refine sC ?_) | (apply gD; refine sD ?_) | fail)
  refine O_d (dy_call ArgsI.pf (by first | exact rfl | trivial | (intro a b; rfl)) (Pick_ct (.tail _ (.head _)) hr (by omega) h1)) ?_; rintro _ _ ⟨_, ⟨N, rfl, hN, hLL⟩, rfl⟩; replace hLL := hLL.symm; subst hLL; refine O_n ?_
  repeat' (first | refine go ?_ | intro _ | (apply cG; first | refine cT ?_ | refine cF ?_ | refine cS (fun _ => ?_) fun _ => ?_) | (apply gW; refine sW ?_) | (apply gI; refine sI ?_) | (apply gE; refine sE ?_) | (apply gP; refine sP ?_) | (apply gC; refine sC ?_) | (apply gD; refine sD ?_) | fail)
  refine O_d (dy_call ArgsI.pf (by first | exact rfl | trivial | (intro a b; rfl)) (Pick_ct (.tail _ (.head _)) hr (by omega) (by omega))) ?_; rintro _ _ ⟨_, ⟨N2, rfl, hN2, hLL⟩, rfl⟩; replace hLL := hLL.symm; subst hLL; refine O_n ?_
  repeat' (first | refine go ?_ | intro _ | (apply cG; first | refine cT ?_ | refine cF ?_ | refine cS (fun _ => ?_) fun _ => ?_) | (apply gW; refine sW ?_) | (apply gI; refine sI ?_) | (apply gE; refine sE ?_) | (apply gP; refine sP ?_) | (apply gC; refine sC ?_) | (apply gD; refine sD ?_) | fail)
  refine O_d (dy_call ArgsI.pf (by first | exact rfl | trivial | (intro a b; rfl)) (Grid_ct (by omega) (by omega))) ?_; rintro _ _ ⟨_, ⟨x0, y0, rfl, hx0, hy0, hLL⟩, rfl⟩; replace hLL := hLL.symm; subst hLL; refine O_n ?_
  repeat' (first | refine go ?_ | intro _ | (apply cG; first | refine cT ?_ | refine cF ?_ | refine cS (fun _ => ?_) fun _ => ?_) | (apply gI; refine sI ?_) | (apply gE; refine sE ?_) | (apply gP; refine sP ?_) | (apply gC; refine sC ?_) | (apply gD; refine sD ?_) | fail)
  apply gW; refine sW (r := ((x0 / 2 : Nat) : Int)) ?_ ⟨by decide, by show IntKind.i64.wrap ((x0 / 2 : Nat) : Int) = ((x0 / 2 : Nat) : Int); exact wr_i64 (by omega) (by omega)⟩
  repeat' (first | refine go ?_ | intro _ | (apply cG; first | refine cT ?_ | refine cF ?_ | refine cS (fun _ => ?_) fun _ => ?_) | (apply gI; refine sI ?_) | (apply gE; refine sE ?_) | (apply gP; refine sP ?_) | (apply gC; refine sC ?_) | (apply gD; refine sD ?_) | fail)
  apply gW; refine sW (r := ((y0 / 2 : Nat) : Int)) ?_ ⟨by decide, by show IntKind.i64.wrap ((y0 / 2 : Nat) : Int) = ((y0 / 2 : Nat) : Int); exact wr_i64 (by omega) (by omega)⟩
  repeat' (first | refine go ?_ | intro _ | (apply cG; first | refine cT ?_ | refine cF ?_ | refine cS (fun _ => ?_) fun _ => ?_) | (apply gI; refine sI ?_) | (apply gE; refine sE ?_) | (apply gP; refine sP ?_) | (apply gC; refine sC ?_) | (apply gD; refine sD ?_) | fail)
  apply gW; refine sW (r := ((N % 12 : Nat) : Int)) ?_ ⟨by decide, rfl⟩
  repeat' (first | refine go ?_ | intro _ | (apply cG; first | refine cT ?_ | refine cF ?_ | refine cS (fun _ => ?_) fun _ => ?_) | (apply gI; refine sI ?_) | (apply gE; refine sE ?_) | (apply gP; refine sP ?_) | (apply gC; refine sC ?_) | (apply gD; refine sD ?_) | fail)
  apply gW; refine sW (r := ((1 + N % 12 : Nat) : Int)) ?_ (by rw [Int.natCast_add]; exact wr_i64 (by omega) (by omega))
  repeat' (first | refine go ?_ | intro _ | (apply cG; first | refine cT ?_ | refine cF ?_ | refine cS (fun _ => ?_) fun _ => ?_) | (apply gI; refine sI ?_) | (apply gE; refine sE ?_) | (apply gP; refine sP ?_) | (apply gC; refine sC ?_) | (apply gD; refine sD ?_) | fail)
  apply gW; refine sW (r := ((N / 12 : Nat) : Int)) ?_ ⟨by decide, by show IntKind.i64.wrap ((N / 12 : Nat) : Int) = ((N / 12 : Nat) : Int); exact wr_i64 (by omega) (by omega)⟩
  repeat' (first | refine go ?_ | intro _ | (apply cG; first | refine cT ?_ | refine cF ?_ | refine cS (fun _ => ?_) fun _ => ?_) | (apply gI; refine sI ?_) | (apply gE; refine sE ?_) | (apply gP; refine sP ?_) | (apply gC; refine sC ?_) | (apply gD; refine sD ?_) | fail)
  apply gW; refine sW (r := (((N / 12) % 5 : Nat) : Int)) ?_ ⟨by decide, rfl⟩
  repeat' (first | refine go ?_ | intro _ | (apply cG; first | refine cT ?_ | refine cF ?_ | refine cS (fun _ => ?_) fun _ => ?_) | (apply gI; refine sI ?_) | (apply gE; refine sE ?_) | (apply gP; refine sP ?_) | (apply gC; refine sC ?_) | (apply gD; refine sD ?_) | fail)
  apply gW; refine sW (r := ((1 + N / 12 % 5 : Nat) : Int)) ?_ (by rw [Int.natCast_add]; exact wr_i64 (by omega) (by omega))
  repeat' (first | refine go ?_ | intro _ | (apply cG; first | refine cT ?_ | refine cF ?_ | refine cS (fun _ => ?_) fun _ => ?_) | (apply gI; refine sI ?_) | (apply gE; refine sE ?_) | (apply gP; refine sP ?_) | (apply gC; refine sC ?_) | (apply gD; refine sD ?_) | fail)
  apply gW; refine sW (r := ((N / 60 : Nat) : Int)) ?_ ⟨by decide, by show IntKind.i64.wrap ((N / 60 : Nat) : Int) = ((N / 60 : Nat) : Int); exact wr_i64 (by omega) (by omega)⟩
  repeat' (first | refine go ?_ | intro _ | (apply cG; first | refine cT ?_ | refine cF ?_ | refine cS (fun _ => ?_) fun _ => ?_) | (apply gI; refine sI ?_) | (apply gE; refine sE ?_) | (apply gP; refine sP ?_) | (apply gC; refine sC ?_) | (apply gD; refine sD ?_) | fail)
  apply gW; refine sW (r := (((N / 60) % 6 : Nat) : Int)) ?_ ⟨by decide, rfl⟩
  repeat' (first | refine go ?_ | intro _ | (apply cG; first | refine cT ?_ | refine cF ?_ | refine cS (fun _ => ?_) fun _ => ?_) | (apply gI; refine sI ?_) | (apply gE; refine sE ?_) | (apply gP; refine sP ?_) | (apply gC; refine sC ?_) | (apply gD; refine sD ?_) | fail)
  apply gW; refine sW (r := ((1 + N / 60 % 6 : Nat) : Int)) ?_ (by rw [Int.natCast_add]; exact wr_i64 (by omega) (by omega))
  repeat' (first | refine go ?_ | intro _ | (apply cG; first | refine cT ?_ | refine cF ?_ | refine cS (fun _ => ?_) fun _ => ?_) | (apply gW; refine sW ?_) | (apply gI; refine sI ?_) | (apply gE; refine sE ?_) | (apply gP; refine sP ?_) | (apply gC; refine sC ?_) | (apply gD; refine sD ?_) | fail)
  refine O_d (dy_lit1 (R := eAK) ⟨((x0 / 2 : Nat) : Int), ((y0 / 2 : Nat) : Int), ((1 + N % 12 : Nat) : Int), ((1 + N / 12 % 5 : Nat) : Int), ((1 + N / 60 % 6 : Nat) : Int)⟩ (hcs := by rfl) (hel := fun _ _ _ => by rfl)) ?_; rintro _ _ ⟨_, rfl, rfl⟩; refine O_n ?_
  repeat' (first | refine go ?_ | intro _ | (apply cG; first | refine cT ?_ | refine cF ?_ | refine cS (fun _ => ?_) fun _ => ?_) | (apply gW; refine sW ?_) | (apply gI; refine sI ?_) | (apply gE; refine sE ?_) | (apply gP; refine sP ?_) | (apply gC; refine sC ?_) | (apply gD; refine sD ?_) | fail)
  rename_i A9 c9
  refine E_round (x.length + 1, A9, c9, x ++ [⟨((x0 / 2 : Nat) : Int), ((y0 / 2 : Nat) : Int), ((1 + N % 12 : Nat) : Int), ((1 + N / 12 % 5 : Nat) : Int), ((1 + N / 60 % 6 : Nat) : Int)⟩]) ⟨List.length_append, h2, fun a ha => ?_⟩ (by dsimp only; omega) ⟨by dsimp only; rw [List.length_append]; rfl, rfl, trivial⟩ (by dsimp only; rw [List.length_append]; exact Sb)
  rcases List.mem_append.1 ha with ha | ha
  · exact hok a ha
  · simp only [List.mem_cons, List.not_mem_nil, or_false] at ha
    subst ha
    dsimp only [SomeOk]
    omega
/-- what the boxes made from numbers are -/
abbrev BxOk (b : BX) : Prop := -7 ≤ b.x0 ∧ b.x0 ≤ b.x1 ∧ b.x1 ≤ 27 ∧ -7 ≤ b.y0 ∧ b.y0 ≤ b.y1 ∧ b.y1 ≤ 16
theorem Boxes_ct {A : Option Addr} {c : Nat} {l : List Int} {m : Nat} (hv : rd eI (.slice A l.length c) l ∈ L) (hr : ∀ n ∈ l, I64 n) (hl : l.length ≤ 9223372036854775807) (hm : m ≤ 1000) : CT Try.prog 17 #[.slice A l.length c, .int .i64 (m : Int)] W0 L fun r L' => ∃ A2 c2 x, r = .slice A2 x.length c2 ∧ x.length ≤ m ∧ (∀ a ∈ x, BxOk a) ∧ L' = own 32 eBX (.slice A2 x.length c2) x :: L := by
  refine CT.sub ?_ (sub_dup hv)
  refine CT_enter Try.func17 rfl ?_; (simp only [Try.ntmps17, List.size_toArray, List.length_cons, List.length_nil, Nat.reduceAdd, Nat.reduceSub, Array.replicate_succ, Array.replicate_zero, List.push_toArray, List.append_toArray, List.nil_append, List.cons_append])
  repeat' (first | refine go ?_ | intro _ | (apply cG; first | refine cT ?_ | refine cF ?_ | refine cS (fun _ => ?_) fun _ => ?_) | (apply gW; refine sW ?_) | (apply gI; refine sI ?_) | (apply gE; refine sE ?_) | (apply gP; refine sP ?_) | (apply gC; refine sC ?_) | (apply gD; refine sD ?_) | fail)
  refine C_ownnil 32 eBX ?_
  refine C_loopS (κ := Nat × Option Addr × Nat × List BX) [false, false, false, false, false, true, true, true, true, true, true, true, true, true, true, true, true, true, true, true, true, true, true, true, true, true, true, true, true, true, true, true, true, true, true, true, true, true, true, true, true, true, true, true, true, true, true, true, true, true, true, true, true, true, true, false] (fun k => [(5, .slice k.2.1 k.2.2.2.length k.2.2.1), (6, .int .i64 (k.1 : Int))]) (fun k => [(0, own 32 eBX (.slice k.2.1 k.2.2.2.length k.2.2.1) k.2.2.2)]) (fun k => k.2.2.2.length = k.1 ∧ k.1 ≤ m ∧ ∀ a ∈ k.2.2.2, BxOk a) (fun k => m - k.1) (0, none, 0, []) ⟨rfl, Nat.zero_le _, fun _ h => (by cases h)⟩ ⟨rfl, rfl, trivial⟩ ?_
  rintro ⟨i, A2, c2, x⟩ u ⟨hx, hi, hok⟩
  dsimp only at hx hi hok
  subst hx
  dsimp only
  ((try dsimp only); refine C_n ?_; (try simp only [Nat.reduceAdd, Nat.zero_add]))
  by_cases h1 : (x.length : Int) < l.length
  rotate_left
  · repeat' (first | refine go ?_ | intro _ | (apply cG; first | refine cT ?_ | refine cF ?_ | refine cS (fun _ => ?_) fun _ => ?_) | (apply gW; refine sW ?_) | (apply gI; refine sI ?_) | (apply gE; refine sE ?_) | (apply gP; refine sP ?_) | (apply gC; refine sC ?_) | (apply gD; refine sD ?_) | fail)
    refine E_res1 (by rfl) (by rfl) ⟨A2, c2, x, rfl, hi, hok, rfl⟩ Sb
  by_cases h2 : x.length < m
  rotate_left
  · repeat' (first | refine go ?_ | intro _ | (apply cG; first | refine cT ?_ | refine cF ?_ | refine cS (fun _ => ?_) fun _ => ?_) | (apply gW; refine sW ?_) | (apply gI; refine sI ?_) | (apply gE; refine sE ?_) | (apply gP; refine sP ?_) | (apply gC; refine sC ?_) | (apply gD; refine sD ?_) | fail)
    refine E_res1 (by rfl) (by rfl) ⟨A2, c2, x, rfl, hi, hok, rfl⟩ Sb
  repeat' (first | refine go ?_ | intro _ | (apply cG; first | refine cT ?_ | refine cF ?_ | refine cS (fun _ => ?_) fun _ => ?_) | (apply gW; refine sW ?_) | (apply gI; refine sI ?_) | (apply gE; refine sE ?_) | (apply gP; refine sP ?_) | (apply gC; refine sC ?_) | (apply gD; refine sD ?_) | fail)
  refine O_d (dy_call ArgsI.pf (by first | exact rfl | trivial | (intro a b; rfl)) (Pick_ct (.tail _ (.head _)) hr (by omega) h1)) ?_; rintro _ _ ⟨_, ⟨N, rfl, hN, hLL⟩, rfl⟩; replace hLL := hLL.symm; subst hLL; refine O_n ?_
  repeat' (first | refine go ?_ | intro _ | (apply cG; first | refine cT ?_ | refine cF ?_ | refine cS (fun _ => ?_) fun _ => ?_) | (apply gI; refine sI ?_) | (apply gE; refine sE ?_) | (apply gP; refine sP ?_) | (apply gC; refine sC ?_) | (apply gD; refine sD ?_) | fail)
  apply gW; refine sW (r := ((N / 64 : Nat) : Int)) ?_ ⟨by decide, by show IntKind.i64.wrap ((N / 64 : Nat) : Int) = ((N / 64 : Nat) : Int); exact wr_i64 (by omega) (by omega)⟩
  repeat' (first | refine go ?_ | intro _ | (apply cG; first | refine cT ?_ | refine cF ?_ | refine cS (fun _ => ?_) fun _ => ?_) | (apply gW; refine sW ?_) | (apply gI; refine sI ?_) | (apply gE; refine sE ?_) | (apply gP; refine sP ?_) | (apply gC; refine sC ?_) | (apply gD; refine sD ?_) | fail)
  refine O_d (dy_call ArgsI.pf (by first | exact rfl | trivial | (intro a b; rfl)) (Grid_ct (by omega) (by omega))) ?_; rintro _ _ ⟨_, ⟨x0, y0, rfl, hx0, hy0, hLL⟩, rfl⟩; replace hLL := hLL.symm; subst hLL; refine O_n ?_
  repeat' (first | refine go ?_ | intro _ | (apply cG; first | refine cT ?_ | refine cF ?_ | refine cS (fun _ => ?_) fun _ => ?_) | (apply gI; refine sI ?_) | (apply gE; refine sE ?_) | (apply gP; refine sP ?_) | (apply gC; refine sC ?_) | (apply gD; refine sD ?_) | fail)
  apply gW; refine sW (r := ((x0 / 2 : Nat) : Int)) ?_ ⟨by decide, by show IntKind.i64.wrap ((x0 / 2 : Nat) : Int) = ((x0 / 2 : Nat) : Int); exact wr_i64 (by omega) (by omega)⟩
  repeat' (first | refine go ?_ | intro _ | (apply cG; first | refine cT ?_ | refine cF ?_ | refine cS (fun _ => ?_) fun _ => ?_) | (apply gI; refine sI ?_) | (apply gE; refine sE ?_) | (apply gP; refine sP ?_) | (apply gC; refine sC ?_) | (apply gD; refine sD ?_) | fail)
  apply gW; refine sW (r := ((N % 8 : Nat) : Int)) ?_ ⟨by decide, rfl⟩
  repeat' (first | refine go ?_ | intro _ | (apply cG; first | refine cT ?_ | refine cF ?_ | refine cS (fun _ => ?_) fun _ => ?_) | (apply gI; refine sI ?_) | (apply gE; refine sE ?_) | (apply gP; refine sP ?_) | (apply gC; refine sC ?_) | (apply gD; refine sD ?_) | fail)
  apply gW; refine sW (r := ((x0 / 2 : Nat) : Int) - ((N % 8 : Nat) : Int)) ?_ (wr_i64 (by omega) (by omega))
  repeat' (first | refine go ?_ | intro _ | (apply cG; first | refine cT ?_ | refine cF ?_ | refine cS (fun _ => ?_) fun _ => ?_) | (apply gI; refine sI ?_) | (apply gE; refine sE ?_) | (apply gP; refine sP ?_) | (apply gC; refine sC ?_) | (apply gD; refine sD ?_) | fail)
  apply gW; refine sW (r := ((y0 / 2 : Nat) : Int)) ?_ ⟨by decide, by show IntKind.i64.wrap ((y0 / 2 : Nat) : Int) = ((y0 / 2 : Nat) : Int); exact wr_i64 (by omega) (by omega)⟩
  repeat' (first | refine go ?_ | intro _ | (apply cG; first | refine cT ?_ | refine cF ?_ | refine cS (fun _ => ?_) fun _ => ?_) | (apply gI; refine sI ?_) | (apply gE; refine sE ?_) | (apply gP; refine sP ?_) | (apply gC; refine sC ?_) | (apply gD; refine sD ?_) | fail)
  apply gW; refine sW (r := ((N / 8 : Nat) : Int)) ?_ ⟨by decide, by show IntKind.i64.wrap ((N / 8 : Nat) : Int) = ((N / 8 : Nat) : Int); exact wr_i64 (by omega) (by omega)⟩
  repeat' (first | refine go ?_ | intro _ | (apply cG; first | refine cT ?_ | refine cF ?_ | refine cS (fun _ => ?_) fun _ => ?_) | (apply gI; refine sI ?_) | (apply gE; refine sE ?_) | (apply gP; refine sP ?_) | (apply gC; refine sC ?_) | (apply gD; refine sD ?_) | fail)
  apply gW; refine sW (r := (((N / 8) % 8 : Nat) : Int)) ?_ ⟨by decide, rfl⟩
  repeat' (first | refine go ?_ | intro _ | (apply cG; first | refine cT ?_ | refine cF ?_ | refine cS (fun _ => ?_) fun _ => ?_) | (apply gI; refine sI ?_) | (apply gE; refine sE ?_) | (apply gP; refine sP ?_) | (apply gC; refine sC ?_) | (apply gD; refine sD ?_) | fail)
  apply gW; refine sW (r := ((y0 / 2 : Nat) : Int) - ((N / 8 % 8 : Nat) : Int)) ?_ (wr_i64 (by omega) (by omega))
  repeat' (first | refine go ?_ | intro _ | (apply cG; first | refine cT ?_ | refine cF ?_ | refine cS (fun _ => ?_) fun _ => ?_) | (apply gI; refine sI ?_) | (apply gE; refine sE ?_) | (apply gP; refine sP ?_) | (apply gC; refine sC ?_) | (apply gD; refine sD ?_) | fail)
  apply gW; refine sW (r := ((x0 / 2 : Nat) : Int)) ?_ ⟨by decide, by show IntKind.i64.wrap ((x0 / 2 : Nat) : Int) = ((x0 / 2 : Nat) : Int); exact wr_i64 (by omega) (by omega)⟩
  repeat' (first | refine go ?_ | intro _ | (apply cG; first | refine cT ?_ | refine cF ?_ | refine cS (fun _ => ?_) fun _ => ?_) | (apply gI; refine sI ?_) | (apply gE; refine sE ?_) | (apply gP; refine sP ?_) | (apply gC; refine sC ?_) | (apply gD; refine sD ?_) | fail)
  apply gW; refine sW (r := ((N / 64 : Nat) : Int)) ?_ ⟨by decide, by show IntKind.i64.wrap ((N / 64 : Nat) : Int) = ((N / 64 : Nat) : Int); exact wr_i64 (by omega) (by omega)⟩
  repeat' (first | refine go ?_ | intro _ | (apply cG; first | refine cT ?_ | refine cF ?_ | refine cS (fun _ => ?_) fun _ => ?_) | (apply gI; refine sI ?_) | (apply gE; refine sE ?_) | (apply gP; refine sP ?_) | (apply gC; refine sC ?_) | (apply gD; refine sD ?_) | fail)
  apply gW; refine sW (r := (((N / 64) % 12 : Nat) : Int)) ?_ ⟨by decide, rfl⟩
  repeat' (first | refine go ?_ | intro _ | (apply cG; first | refine cT ?_ | refine cF ?_ | refine cS (fun _ => ?_) fun _ => ?_) | (apply gI; refine sI ?_) | (apply gE; refine sE ?_) | (apply gP; refine sP ?_) | (apply gC; refine sC ?_) | (apply gD; refine sD ?_) | fail)
  apply gW; refine sW (r := ((x0 / 2 : Nat) : Int) + ((N / 64 % 12 : Nat) : Int)) ?_ (wr_i64 (by omega) (by omega))
  repeat' (first | refine go ?_ | intro _ | (apply cG; first | refine cT ?_ | refine cF ?_ | refine cS (fun _ => ?_) fun _ => ?_) | (apply gI; refine sI ?_) | (apply gE; refine sE ?_) | (apply gP; refine sP ?_) | (apply gC; refine sC ?_) | (apply gD; refine sD ?_) | fail)
  apply gW; refine sW (r := ((y0 / 2 : Nat) : Int)) ?_ ⟨by decide, by show IntKind.i64.wrap ((y0 / 2 : Nat) : Int) = ((y0 / 2 : Nat) : Int); exact wr_i64 (by omega) (by omega)⟩
  repeat' (first | refine go ?_ | intro _ | (apply cG; first | refine cT ?_ | refine cF ?_ | refine cS (fun _ => ?_) fun _ => ?_) | (apply gW; refine sW ?_) | (apply gI; refine sI ?_) | (apply gE; refine sE ?_) | (apply gP; refine sP ?_) | (apply gC; refine sC ?_) | (apply gD; refine sD ?_) | fail)
  refine O_d (dy_lit1 (R := eBX) ⟨((x0 / 2 : Nat) : Int) - ((N % 8 : Nat) : Int), ((y0 / 2 : Nat) : Int) - ((N / 8 % 8 : Nat) : Int), ((x0 / 2 : Nat) : Int) + ((N / 64 % 12 : Nat) : Int), ((y0 / 2 : Nat) : Int)⟩ (hcs := by rfl) (hel := fun _ _ _ => by rfl)) ?_; rintro _ _ ⟨_, rfl, rfl⟩; refine O_n ?_
  repeat' (first | refine go ?_ | intro _ | (apply cG; first | refine cT ?_ | refine cF ?_ | refine cS (fun _ => ?_) fun _ => ?_) | (apply gW; refine sW ?_) | (apply gI; refine sI ?_) | (apply gE; refine sE ?_) | (apply gP; refine sP ?_) | (apply gC; refine sC ?_) | (apply gD; refine sD ?_) | fail)
  rename_i A9 c9
  refine E_round (x.length + 1, A9, c9, x ++ [⟨((x0 / 2 : Nat) : Int) - ((N % 8 : Nat) : Int), ((y0 / 2 : Nat) : Int) - ((N / 8 % 8 : Nat) : Int), ((x0 / 2 : Nat) : Int) + ((N / 64 % 12 : Nat) : Int), ((y0 / 2 : Nat) : Int)⟩]) ⟨List.length_append, h2, fun a ha => ?_⟩ (by dsimp only; omega) ⟨by dsimp only; rw [List.length_append]; rfl, rfl, trivial⟩ (by dsimp only; rw [List.length_append]; exact Sb)
  rcases List.mem_append.1 ha with ha | ha
  · exact hok a ha
  · simp only [List.mem_cons, List.not_mem_nil, or_false] at ha
    subst ha
    dsimp only [BxOk]
    omega
end
end Go.Proofs.Yteeapkfakehocaa
namespace Go.Proofs.Yteeapkfakehocaa
open Go Go.RowKit
set_option linter.unusedVariables false
set_option linter.unusedSimpArgs false
set_option maxRecDepth 20000
set_option synthInstance.maxSize 100000
set_option synthInstance.maxHeartbeats 400000
theorem tdiv_in {n : Int} {k : Nat} (h : I64 n) (hk : 2 ≤ k) : I64 (n.tdiv k) := by
  have h1 : (n.tdiv k).natAbs = n.natAbs / (k : Int).natAbs := Int.natAbs_tdiv n k
  have h2 : (n.natAbs / (k : Int).natAbs) * 2 ≤ n.natAbs := by
    rw [Int.natAbs_natCast]
    exact Nat.le_trans (Nat.mul_le_mul_left _ hk) (Nat.div_mul_le_self _ _)
  rw [← h1] at h2
  omega
section
variable {W0 : World} {L : List HP}
theorem CT_into {P : Program} {f : FuncId} {args : Array Value} {R R' : Value → List HP → Prop} (h : CT P f args W0 L R) (k : ∀ v L', R v L' → ∃ L2, R' v L2 ∧ Sub L' L2) : CT P f args W0 L R' :=
  ⟨fun w s => (h.run w s).mono fun e w' ⟨v, L', he, hR, hs⟩ => by
    obtain ⟨L2, h1, h2⟩ := k v L' hR
    exact ⟨v, L2, he, h1, h2.st hs⟩⟩
theorem Spoilt0_ct {A : Option Addr} {c : Nat} {l : List AK} {at_ how by_ : Int} (hv : rd eAK (.slice A l.length c) l ∈ L) (hl : l.length ≤ 1000000) (ha : I64 at_) (hh : I64 how) (hb : I64 by_) : CT Try.prog 12 #[.slice A l.length c, .int .i64 at_, .int .i64 how, .int .i64 by_] W0 L fun r L' => ∃ A2 c2 l2, r = .slice A2 l.length c2 ∧ l2.length = l.length ∧ L' = own 39 eAK (.slice A2 l.length c2) l2 :: L := by
  refine CT.sub ?_ (sub_dup hv)
  refine CT_enter Try.func12 rfl ?_; (simp only [Try.ntmps12, List.size_toArray, List.length_cons, List.length_nil, Nat.reduceAdd, Nat.reduceSub, Array.replicate_succ, Array.replicate_zero, List.push_toArray, List.append_toArray, List.nil_append, List.cons_append])
  repeat' (first | refine go ?_ | intro _ | (apply cG; first | refine cT ?_ | refine cF ?_ | refine cS (fun _ => ?_) fun _ => ?_) | (apply gW; refine sW ?_) | (apply gI; refine sI ?_) | (apply gE; refine sE ?_) | (apply gP; refine sP ?_) | (apply gC; refine sC ?_) | (apply gD; refine sD ?_) | fail)
  refine O_d (dy_lit0 eAK rfl) ?_; rintro _ _ ⟨_, rfl, rfl⟩; refine O_n ?_
  by_cases h0 : l = []
  · subst h0
    repeat' (first | refine go ?_ | intro _ | (apply cG; first | refine cT ?_ | refine cF ?_ | refine cS (fun _ => ?_) fun _ => ?_) | (apply gW; refine sW ?_) | (apply gI; refine sI ?_) | (apply gE; refine sE ?_) | (apply gP; refine sP ?_) | (apply gC; refine sC ?_) | (apply gD; refine sD ?_) | fail)
    rename_i A9 c9
    refine E_res1 (by rfl) (by rfl) ⟨A9, c9, [], rfl, rfl, rfl⟩ Sb
  have h1 : 0 < l.length := List.length_pos_iff.2 h0
  have h1' : l.length ≠ 0 := by omega
  have hk2 := around_in (n := at_) (most := (l.length : Int)) (by omega)
  obtain ⟨k, hk⟩ : ∃ k : Nat, around at_ (l.length : Int) = (k : Int) := ⟨(around at_ (l.length : Int)).toNat, by omega⟩
  rw [hk] at hk2
  have hkl : k < l.length := by omega
  obtain ⟨x, hx⟩ : ∃ x, l[k]? = some x := ⟨_, List.getElem?_eq_getElem hkl⟩
  have hax : At l k x := ⟨hx⟩
  obtain ⟨y, hy⟩ : ∃ y, l[0]? = some y := ⟨_, List.getElem?_eq_getElem h1⟩
  have hay : At l 0 y := ⟨hy⟩
  repeat' (first | refine go ?_ | intro _ | (apply cG; first | refine cT ?_ | refine cF ?_ | refine cS (fun _ => ?_) fun _ => ?_) | (apply gW; refine sW ?_) | (apply gI; refine sI ?_) | (apply gE; refine sE ?_) | (apply gP; refine sP ?_) | (apply gC; refine sC ?_) | (apply gD; refine sD ?_) | fail)
  rename_i A9 c9
  rw [show ([] : List AK) ++ l = l from List.nil_append l]
  refine O_d (dy_call ArgsI.pf (by first | exact rfl | trivial | (intro a b; rfl)) (Around_ct ha.1 ha.2 (by omega) (by omega))) ?_; rintro _ _ ⟨_, ⟨rfl, hLL⟩, rfl⟩; replace hLL := hLL.symm; subst hLL; refine O_n ?_
  rw [hk]
  repeat' (first | refine go ?_ | intro _ | (apply cG; first | refine cT ?_ | refine cF ?_ | refine cS (fun _ => ?_) fun _ => ?_) | (apply gW; refine sW ?_) | (apply gI; refine sI ?_) | (apply gE; refine sE ?_) | (apply gP; refine sP ?_) | (apply gC; refine sC ?_) | (apply gD; refine sD ?_) | fail)
  refine O_d (dy_litP (f := iv) (hf := fun _ => rfl) [by_, 0, -1, 1048576, 1048577, 1073741824, 1073741825] (by rfl)) ?_; rintro _ LI' ⟨_, rfl, hLL⟩; replace hLL : LI' = own _ eI _ _ :: _ := hLL; subst hLL; refine O_n ?_
  have hz := tdiv_in (k := 7) ha (by decide)
  repeat' (first | refine go ?_ | intro _ | (apply cG; first | refine cT ?_ | refine cF ?_ | refine cS (fun _ => ?_) fun _ => ?_) | (apply gI; refine sI ?_) | (apply gE; refine sE ?_) | (apply gP; refine sP ?_) | (apply gC; refine sC ?_) | (apply gD; refine sD ?_) | fail)
  apply gW; refine sW (r := at_.tdiv 7) ?_ ⟨by decide, wr_i64 hz.1 hz.2⟩
  repeat' (first | refine go ?_ | intro _ | (apply cG; first | refine cT ?_ | refine cF ?_ | refine cS (fun _ => ?_) fun _ => ?_) | (apply gW; refine sW ?_) | (apply gI; refine sI ?_) | (apply gE; refine sE ?_) | (apply gP; refine sP ?_) | (apply gC; refine sC ?_) | (apply gD; refine sD ?_) | fail)
  have hs2 := around_in (n := at_.tdiv 7) (most := 7) (by decide)
  refine O_d (dy_call ArgsI.pf (by first | exact rfl | trivial | (intro a b; rfl)) (Around_ct (most := 7) hz.1 hz.2 (by decide) (by decide))) ?_; rintro _ _ ⟨_, ⟨rfl, hLL⟩, rfl⟩; replace hLL := hLL.symm; subst hLL; refine O_n ?_
  obtain ⟨s, hs⟩ : ∃ s : Nat, around (at_.tdiv 7) 7 = (s : Int) := ⟨(around (at_.tdiv 7) 7).toNat, by omega⟩
  rw [hs] at hs2 ⊢
  have hsl : s < [by_, 0, -1, 1048576, 1048577, 1073741824, 1073741825].length := by show s < 7; omega
  have hsl2 : s < 7 := hsl
  obtain ⟨n, hn⟩ : ∃ n, [by_, 0, -1, 1048576, 1048577, 1073741824, 1073741825][s]? = some n := ⟨_, List.getElem?_eq_getElem hsl⟩
  have han : At [by_, 0, -1, 1048576, 1048577, 1073741824, 1073741825] s n := ⟨hn⟩
  repeat' (first | refine go ?_ | intro _ | (apply cG; first | refine cT ?_ | refine cF ?_ | refine cS (fun _ => ?_) fun _ => ?_) | (apply gW; refine sW ?_) | (apply gI; refine sI ?_) | (apply gE; refine sE ?_) | (apply gP; refine sP ?_) | (apply gC; refine sC ?_) | (apply gD; refine sD ?_) | fail)
  refine O_d (dy_call ArgsI.pf (by first | exact rfl | trivial | (intro a b; rfl)) (Around_ct (most := 6) hh.1 hh.2 (by decide) (by decide))) ?_; rintro _ _ ⟨_, ⟨rfl, hLL⟩, rfl⟩; replace hLL := hLL.symm; subst hLL; refine O_n ?_
  obtain ⟨t, ht⟩ : ∃ t, around how 6 = t := ⟨_, rfl⟩
  rw [ht]
  by_cases t0 : t = 0
  · subst t0
    repeat' (first | refine go ?_ | intro _ | (apply cG; first | refine cT ?_ | refine cF ?_ | refine cS (fun _ => ?_) fun _ => ?_) | (apply gW; refine sW ?_) | (apply gI; refine sI ?_) | (apply gE; refine sE ?_) | (apply gP; refine sP ?_) | (apply gC; refine sC ?_) | (apply gD; refine sD ?_) | fail)
    refine O_d (dy_storeF (R := eAK) (n := l.length) (c := c9) (el := x) ⟨x.x, x.y, n, x.h, x.g⟩ (hel := hx)) ?_; rintro _ _ ⟨rfl, rfl⟩; refine O_n ?_
    repeat' (first | refine go ?_ | intro _ | (apply cG; first | refine cT ?_ | refine cF ?_ | refine cS (fun _ => ?_) fun _ => ?_) | (apply gW; refine sW ?_) | (apply gI; refine sI ?_) | (apply gE; refine sE ?_) | (apply gP; refine sP ?_) | (apply gC; refine sC ?_) | (apply gD; refine sD ?_) | fail)
    refine E_res1 (by rfl) (by rfl) ⟨A9, c9, l.set k ⟨x.x, x.y, n, x.h, x.g⟩, rfl, List.length_set .., rfl⟩ Sb
  by_cases t1 : t = 1
  · subst t1
    repeat' (first | refine go ?_ | intro _ | (apply cG; first | refine cT ?_ | refine cF ?_ | refine cS (fun _ => ?_) fun _ => ?_) | (apply gW; refine sW ?_) | (apply gI; refine sI ?_) | (apply gE; refine sE ?_) | (apply gP; refine sP ?_) | (apply gC; refine sC ?_) | (apply gD; refine sD ?_) | fail)
    refine O_d (dy_storeF (R := eAK) (n := l.length) (c := c9) (el := x) ⟨x.x, x.y, x.w, n, x.g⟩ (hel := hx)) ?_; rintro _ _ ⟨rfl, rfl⟩; refine O_n ?_
    repeat' (first | refine go ?_ | intro _ | (apply cG; first | refine cT ?_ | refine cF ?_ | refine cS (fun _ => ?_) fun _ => ?_) | (apply gW; refine sW ?_) | (apply gI; refine sI ?_) | (apply gE; refine sE ?_) | (apply gP; refine sP ?_) | (apply gC; refine sC ?_) | (apply gD; refine sD ?_) | fail)
    refine E_res1 (by rfl) (by rfl) ⟨A9, c9, l.set k ⟨x.x, x.y, x.w, n, x.g⟩, rfl, List.length_set .., rfl⟩ Sb
  by_cases t2 : t = 2
  · subst t2
    repeat' (first | refine go ?_ | intro _ | (apply cG; first | refine cT ?_ | refine cF ?_ | refine cS (fun _ => ?_) fun _ => ?_) | (apply gW; refine sW ?_) | (apply gI; refine sI ?_) | (apply gE; refine sE ?_) | (apply gP; refine sP ?_) | (apply gC; refine sC ?_) | (apply gD; refine sD ?_) | fail)
    refine O_d (dy_storeF (R := eAK) (n := l.length) (c := c9) (el := x) ⟨x.x, x.y, x.w, x.h, n⟩ (hel := hx)) ?_; rintro _ _ ⟨rfl, rfl⟩; refine O_n ?_
    repeat' (first | refine go ?_ | intro _ | (apply cG; first | refine cT ?_ | refine cF ?_ | refine cS (fun _ => ?_) fun _ => ?_) | (apply gW; refine sW ?_) | (apply gI; refine sI ?_) | (apply gE; refine sE ?_) | (apply gP; refine sP ?_) | (apply gC; refine sC ?_) | (apply gD; refine sD ?_) | fail)
    refine E_res1 (by rfl) (by rfl) ⟨A9, c9, l.set k ⟨x.x, x.y, x.w, x.h, n⟩, rfl, List.length_set .., rfl⟩ Sb
  by_cases t3 : t = 3
  · subst t3
    repeat' (first | refine go ?_ | intro _ | (apply cG; first | refine cT ?_ | refine cF ?_ | refine cS (fun _ => ?_) fun _ => ?_) | (apply gW; refine sW ?_) | (apply gI; refine sI ?_) | (apply gE; refine sE ?_) | (apply gP; refine sP ?_) | (apply gC; refine sC ?_) | (apply gD; refine sD ?_) | fail)
    refine O_d (dy_storeF (R := eAK) (n := l.length) (c := c9) (el := x) ⟨n, x.y, x.w, x.h, x.g⟩ (hel := hx)) ?_; rintro _ _ ⟨rfl, rfl⟩; refine O_n ?_
    repeat' (first | refine go ?_ | intro _ | (apply cG; first | refine cT ?_ | refine cF ?_ | refine cS (fun _ => ?_) fun _ => ?_) | (apply gW; refine sW ?_) | (apply gI; refine sI ?_) | (apply gE; refine sE ?_) | (apply gP; refine sP ?_) | (apply gC; refine sC ?_) | (apply gD; refine sD ?_) | fail)
    refine E_res1 (by rfl) (by rfl) ⟨A9, c9, l.set k ⟨n, x.y, x.w, x.h, x.g⟩, rfl, List.length_set .., rfl⟩ Sb
  by_cases t4 : t = 4
  · subst t4
    repeat' (first | refine go ?_ | intro _ | (apply cG; first | refine cT ?_ | refine cF ?_ | refine cS (fun _ => ?_) fun _ => ?_) | (apply gW; refine sW ?_) | (apply gI; refine sI ?_) | (apply gE; refine sE ?_) | (apply gP; refine sP ?_) | (apply gC; refine sC ?_) | (apply gD; refine sD ?_) | fail)
    refine O_d (dy_storeFA (R := eAK) (n := l.length) (c := c9) (el := x) ⟨-1073741824, 1073741824, x.w, x.h, x.g⟩ (hel := hx)) ?_; rintro _ _ ⟨rfl, rfl⟩; refine O_n ?_
    repeat' (first | refine go ?_ | intro _ | (apply cG; first | refine cT ?_ | refine cF ?_ | refine cS (fun _ => ?_) fun _ => ?_) | (apply gW; refine sW ?_) | (apply gI; refine sI ?_) | (apply gE; refine sE ?_) | (apply gP; refine sP ?_) | (apply gC; refine sC ?_) | (apply gD; refine sD ?_) | fail)
    refine E_res1 (by rfl) (by rfl) ⟨A9, c9, l.set k ⟨-1073741824, 1073741824, x.w, x.h, x.g⟩, rfl, List.length_set .., rfl⟩ Sb
  repeat' (first | refine go ?_ | intro _ | (apply cG; first | refine cT ?_ | refine cF ?_ | refine cS (fun _ => ?_) fun _ => ?_) | (apply gW; refine sW ?_) | (apply gI; refine sI ?_) | (apply gE; refine sE ?_) | (apply gP; refine sP ?_) | (apply gC; refine sC ?_) | (apply gD; refine sD ?_) | fail)
  refine O_d (dy_storeFA (R := eAK) (n := l.length) (c := c9) (el := x) y (hel := hx)) ?_; rintro _ _ ⟨rfl, rfl⟩; refine O_n ?_
  repeat' (first | refine go ?_ | intro _ | (apply cG; first | refine cT ?_ | refine cF ?_ | refine cS (fun _ => ?_) fun _ => ?_) | (apply gW; refine sW ?_) | (apply gI; refine sI ?_) | (apply gE; refine sE ?_) | (apply gP; refine sP ?_) | (apply gC; refine sC ?_) | (apply gD; refine sD ?_) | fail)
  refine E_res1 (by rfl) (by rfl) ⟨A9, c9, l.set k y, rfl, List.length_set .., rfl⟩ Sb
theorem Spoilt_ct {A : Option Addr} {c : Nat} {l : List AK} {at_ how by_ : Int} (hv : rd eAK (.slice A l.length c) l ∈ L) (hl : l.length ≤ 1000000) (ha : I64 at_) (hh : I64 how) (hb : I64 by_) : CT Try.prog 12 #[.slice A l.length c, .int .i64 at_, .int .i64 how, .int .i64 by_] W0 L fun r L' => ∃ A2 c2 l2, r = .slice A2 l2.length c2 ∧ l2.length = l.length ∧ L' = own 39 eAK (.slice A2 l2.length c2) l2 :: L := by
  refine CT_into (Spoilt0_ct hv hl ha hh hb) fun v L' ⟨A2, c2, l2, h1, h2, h3⟩ => ⟨_, ⟨A2, c2, l2, by rw [h1, h2], h2, rfl⟩, ?_⟩
  rw [h3, h2]
  exact Sub.refl _
end
end Go.Proofs.Yteeapkfakehocaa
