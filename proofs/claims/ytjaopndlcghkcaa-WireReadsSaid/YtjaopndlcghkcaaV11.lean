/-
  The wire laws' values, made of numbers: Vals.
-/
import Derived.Test.YtjaopndlcghkcaaV10
import Derived.Test.YtjaopndlcghkcaaWv
namespace Go.Proofs.Ytjaopndlcghkcaa
open Go Go.RowKit
set_option linter.unusedVariables false
set_option linter.unusedSimpArgs false
set_option synthInstance.maxSize 100000
set_option synthInstance.maxHeartbeats 400000
theorem good_nil : ∀ x ∈ ([] : List VV), x.toVal.good := fun x hx => by cases hx
theorem wrap_u64 (n : Int) : 0 ≤ IntKind.u64.wrap n ∧ IntKind.u64.wrap n < 18446744073709551616 := by
  rw [IntKind.wrap_u64]; omega
theorem wrap_u8 (n : Int) : 0 ≤ IntKind.u8.wrap n ∧ IntKind.u8.wrap n < 256 := by
  unfold IntKind.wrap
  simp [IntKind.bits, IntKind.signed]
  omega
theorem shr_in {x : Int} {n : Nat} (h1 : -9223372036854775808 ≤ x) (h2 : x ≤ 9223372036854775807) : -9223372036854775808 ≤ x / 2 ^ n ∧ x / 2 ^ n ≤ 9223372036854775807 := by
  have hp : (1 : Int) ≤ 2 ^ n := by
    have := Int.pow_pos (n := 2) (m := n) (by decide)
    omega
  rcases Int.lt_or_le x 0 with h | h
  · have a1 : x / 2 ^ n < 0 := Int.ediv_neg_of_neg_of_pos h (by omega)
    have a2 : x ≤ x / 2 ^ n := by
      rw [Int.le_ediv_iff_mul_le (by omega)]
      have := Int.mul_le_mul_of_nonpos_left (a := x) (b := 2 ^ n) (c := 1) (by omega) hp
      omega
    omega
  · have a1 := Int.ediv_nonneg h (b := 2 ^ n) (by omega)
    have a2 := Int.ediv_le_self (2 ^ n) h
    omega
theorem shr_nn {x : Int} {n : Nat} (h1 : 0 ≤ x) (h2 : x < 18446744073709551616) : 0 ≤ x / 2 ^ n ∧ x / 2 ^ n < 18446744073709551616 := by
  have hp : (1 : Int) ≤ 2 ^ n := by
    have := Int.pow_pos (n := 2) (m := n) (by decide)
    omega
  have a1 := Int.ediv_nonneg h1 (b := 2 ^ n) (by omega)
  have a2 := Int.ediv_le_self (2 ^ n) h1
  omega
theorem toB_bv {x : Int} (h : 0 ≤ x ∧ x < 256) : Value.int .u8 x = bv (UInt8.ofNat x.toNat) := by
  show Value.int .u8 x = Value.int .u8 ((UInt8.ofNat x.toNat).toNat : Int)
  rw [ofNat_toNat8 (by omega)]
  congr 1; omega
theorem wrap_i64 (n : Int) : -9223372036854775808 ≤ IntKind.i64.wrap n ∧ IntKind.i64.wrap n ≤ 9223372036854775807 := by
  unfold IntKind.wrap
  simp [IntKind.bits, IntKind.signed]
  omega
section
variable {W0 : World} {L : List HP}
theorem good0 {z : Nat} (h : z < 18446744073709551616) : (⟨0, z, 0, [], []⟩ : Val).good := by
  refine ⟨?_, ?_, ?_, ?_, ?_, ?_, ?_, ?_, ?_, ?_⟩
  · constructor <;> dsimp only <;> first | decide | exact h | (intro n hn; cases hn)
  all_goals simp
theorem good1 {n : Int} (h : -9223372036854775808 ≤ n ∧ n ≤ 9223372036854775807) : (⟨1, 0, n, [], []⟩ : Val).good := by
  refine ⟨?_, ?_, ?_, ?_, ?_, ?_, ?_, ?_, ?_, ?_⟩
  · constructor <;> dsimp only <;> first | decide | exact h.1 | exact h.2 | (intro n hn; cases hn)
  all_goals simp
theorem good2 {n : Int} (h : n = 0 ∨ n = 1) : (⟨2, 0, n, [], []⟩ : Val).good := by
  refine ⟨?_, ?_, ?_, ?_, ?_, ?_, ?_, ?_, ?_, ?_⟩
  · constructor <;> dsimp only <;> first | decide | omega | (intro n hn; cases hn)
  all_goals simp [h]
theorem good3 {k : Int} {b : List UInt8} (hk : k = 3 ∨ k = 4) (h : b.length ≤ 200) : (⟨k, 0, 0, b, []⟩ : Val).good := by
  refine ⟨?_, ?_, ?_, ?_, ?_, ?_, ?_, ?_, ?_, ?_⟩
  · constructor <;> dsimp only <;> first | decide | omega | (intro n hn; cases hn)
  all_goals dsimp only
  all_goals first | omega | (intro _; rfl) | (intro _ _; rfl) | exact Nat.zero_le _ | (intro h1 h2; rcases hk with rfl | rfl <;> omega)
theorem good5 {l : List Int} (h : l.length ≤ 20) (hl : ∀ n ∈ l, -9223372036854775808 ≤ n ∧ n ≤ 9223372036854775807) : (⟨5, 0, 0, [], l⟩ : Val).good := by
  refine ⟨?_, ?_, ?_, ?_, ?_, ?_, ?_, ?_, ?_, ?_⟩
  · constructor <;> dsimp only <;> first | decide | omega | exact hl
  all_goals simp [h]
theorem u8_any (z : Int) : ∃ b : UInt8, IntKind.u8.wrap z = (b.toNat : Int) := by
  have := wrap_u8 z
  refine ⟨UInt8.ofNat (IntKind.u8.wrap z).toNat, ?_⟩
  have h := toB_bv this
  injection h
theorem u64_any (z : Int) : ∃ b : Nat, IntKind.u64.wrap z = (b : Int) ∧ b < 18446744073709551616 := by
  have := wrap_u64 z
  exact ⟨(IntKind.u64.wrap z).toNat, by omega, by omega⟩
set_option synthInstance.maxSize 2000 in
set_option synthInstance.maxHeartbeats 200000 in
set_option maxHeartbeats 1000000 in
theorem Vals_ct {v : Value} {li : List Int} (hv : rd eI v li ∈ L) (hl : li.length ≤ 9223372036854775807) (hr : ∀ n ∈ li, -9223372036854775808 ≤ n ∧ n ≤ 9223372036854775807) :
    CT Try.prog 19 #[v] W0 L fun r L' => ∃ A c l, r = .slice A (List.length l) c ∧ L' = own 47 eV (.slice A (List.length l) c) l :: L ∧ (∀ x ∈ l, x.toVal.good) ∧ l.length ≤ 8 := by
  refine CT_fact (fun w s => ((Src.sl (.inl hv) s).form)) ?_
  rintro ⟨A, cap, rfl, hcap⟩
  refine CT_enter Try.func19 rfl ?_; (simp only [Try.ntmps19, List.size_toArray, List.length_cons, List.length_nil, Nat.reduceAdd, Nat.reduceSub, Array.replicate_succ, Array.replicate_zero, List.push_toArray, List.append_toArray, List.nil_append, List.cons_append])
  refine C_sub (sub_dup hv) ?_
  repeat' (first | refine go ?_ | intro _ | (apply cG; first | refine cT ?_ | refine cF ?_ | refine cS (fun _ => ?_) fun _ => ?_) | (apply gW; refine sW ?_) | (apply gI; refine sI ?_) | (apply gE; refine sE ?_) | (apply gP; refine sP ?_) | (apply gC; refine sC ?_) | (apply gD; refine sD ?_) | fail)
  refine C_ownnil 47 eV ?_
  refine C_loopS (κ := Nat × Value × List VV) [false, false, false, true, true, true, true, true, true, true, true, true, true, true, true, true, true, true, true, true, true, true, true, true, true, true, true, true, true, true, true, true, true, true, true, true, true, true, true, true, true, true, true, true, true, true, true, true, true, true, true, true, true, true, true, true, true, true, true, true, true, true, true, true, true, true, true, true, true, true, true, true, true, true, true, true, true, true, true, true, true, true, true, true, true, true, true, true, true, true, true, true, true, true, true, true, true, true, true, true, true, true, true, true, true, false] (fun k => [(3, k.2.1), (4, .int .i64 (k.1 : Int))]) (fun k => [(0, own 47 eV k.2.1 k.2.2)]) (fun k => k.1 ≤ li.length ∧ k.1 ≤ 8 ∧ (∃ A c, k.2.1 = .slice A k.2.2.length c) ∧ (∀ x ∈ k.2.2, x.toVal.good) ∧ k.2.2.length = k.1) (fun k => li.length - k.1) (0, .slice none 0 0, []) ⟨Nat.zero_le _, Nat.zero_le _, ⟨none, 0, rfl⟩, good_nil, rfl⟩ ⟨rfl, rfl, trivial⟩ ?_
  rintro ⟨i, vo, lo⟩ u ⟨h1, h2, ⟨A1, c1, hvo⟩, hgd, hlen⟩
  dsimp only at h1 h2 hvo hgd hlen
  subst hvo
  ((try dsimp only); refine C_n ?_; (try simp only [Nat.reduceAdd, Nat.zero_add]))
  by_cases hlt : i < li.length
  · by_cases h8 : i < 8
    · obtain ⟨x, hx⟩ : ∃ x, li[i]? = some x := ⟨_, List.getElem?_eq_getElem hlt⟩
      have hbx := hr x (List.mem_of_getElem? hx)
      have hax : At li i x := ⟨hx⟩
      repeat' (first | refine go ?_ | intro _ | (apply cG; first | refine cT ?_ | refine cF ?_ | refine cS (fun _ => ?_) fun _ => ?_) | (apply gW; refine sW ?_) | (apply gI; refine sI ?_) | (apply gE; refine sE ?_) | (apply gP; refine sP ?_) | (apply gC; refine sC ?_) | (apply gD; refine sD ?_) | fail)
      refine O_d (dy_call ArgsI.pf (by first | exact rfl | trivial | (intro a b; rfl)) (Around_ct hbx.1 hbx.2 (by decide) (by decide))) ?_; rintro _ _ ⟨_, ⟨rfl, rfl⟩, rfl⟩; refine O_n ?_
      obtain ⟨k, hk⟩ : ∃ k, around x 6 = k := ⟨_, rfl⟩
      have hk2 := around_in (n := x) (most := 6) (by decide)
      rw [hk] at hk2 ⊢
      repeat' (first | refine go ?_ | intro _ | (apply cG; first | refine cT ?_ | refine cF ?_ | refine cS (fun _ => ?_) fun _ => ?_) | (apply gW; refine sW ?_) | (apply gI; refine sI ?_) | (apply gE; refine sE ?_) | (apply gP; refine sP ?_) | (apply gC; refine sC ?_) | (apply gD; refine sD ?_) | fail)
      obtain ⟨q, hq⟩ : ∃ q, IntKind.i64.wrap (x.tdiv 6) = q := ⟨_, rfl⟩
      have hq2 := wrap_i64 (x.tdiv 6)
      rw [hq] at hq2 ⊢
      refine O_d (dy_call ArgsI.pf (by first | exact rfl | trivial | (intro a b; rfl)) (Around_ct hq2.1 hq2.2 (by decide) (by decide))) ?_; rintro _ _ ⟨_, ⟨rfl, rfl⟩, rfl⟩; refine O_n ?_
      obtain ⟨m, hm⟩ : ∃ m, around q 63 = m := ⟨_, rfl⟩
      have hm2 := around_in (n := q) (most := 63) (by decide)
      rw [hm] at hm2 ⊢
      by_cases e0 : k = 0
      · subst e0
        repeat' (first | refine go ?_ | intro _ | (apply cG; first | refine cT ?_ | refine cF ?_ | refine cS (fun _ => ?_) fun _ => ?_) | (apply gW; refine sW ?_) | (apply gI; refine sI ?_) | (apply gE; refine sE ?_) | (apply gP; refine sP ?_) | (apply gC; refine sC ?_) | (apply gD; refine sD ?_) | fail)
        refine O_s sv_shr ?_
        obtain ⟨z, hz⟩ : ∃ z : Nat, IntKind.u64.wrap x / 2 ^ m.toNat = (z : Int) ∧ z < 18446744073709551616 := by
          have := wrap_u64 x
          have := shr_nn (n := m.toNat) this.1 this.2
          exact ⟨_, (Int.toNat_of_nonneg this.1).symm, by omega⟩
        rw [hz.1]
        repeat' (first | refine go ?_ | intro _ | (apply cG; first | refine cT ?_ | refine cF ?_ | refine cS (fun _ => ?_) fun _ => ?_) | (apply gW; refine sW ?_) | (apply gI; refine sI ?_) | (apply gE; refine sE ?_) | (apply gP; refine sP ?_) | (apply gC; refine sC ?_) | (apply gD; refine sD ?_) | fail)
        refine O_d (dy_lit1 (R := eV) ⟨⟨0, z, 0, [], []⟩, .slice none 0 0, .slice none 0 0⟩ (hcs := by rfl) (hel := fun m h hs => ⟨rfl, Sl.nil _ _ _ _, Sl.nil _ _ _ _⟩)) ?_; rintro _ _ ⟨_, rfl, rfl⟩; refine O_n ?_
        refine O_d dy_append ?_; rintro _ _ ⟨A9, c9, rfl, rfl⟩; refine O_n ?_
        repeat' (first | refine go ?_ | intro _ | (apply cG; first | refine cT ?_ | refine cF ?_ | refine cS (fun _ => ?_) fun _ => ?_) | (apply gW; refine sW ?_) | (apply gI; refine sI ?_) | (apply gE; refine sE ?_) | (apply gP; refine sP ?_) | (apply gC; refine sC ?_) | (apply gD; refine sD ?_) | fail)
        exact E_round (i + 1, .slice A9 (lo.length + 1) c9, lo ++ [⟨⟨0, z, 0, [], []⟩, .slice none 0 0, .slice none 0 0⟩]) ⟨by omega, by omega, ⟨A9, c9, by rw [List.length_append]; rfl⟩, fun y hy => by
          rcases List.mem_append.1 hy with hy | hy
          · exact hgd y hy
          · simp only [List.mem_cons, List.not_mem_nil, or_false] at hy
            subst hy
            exact good0 hz.2, by rw [List.length_append, hlen]; rfl⟩ (by show li.length - (i + 1) < li.length - i; omega) ⟨rfl, rfl, trivial⟩ Sb
      by_cases e1 : k = 1
      · subst e1
        repeat' (first | refine go ?_ | intro _ | (apply cG; first | refine cT ?_ | refine cF ?_ | refine cS (fun _ => ?_) fun _ => ?_) | (apply gW; refine sW ?_) | (apply gI; refine sI ?_) | (apply gE; refine sE ?_) | (apply gP; refine sP ?_) | (apply gC; refine sC ?_) | (apply gD; refine sD ?_) | fail)
        refine O_s sv_shr ?_
        repeat' (first | refine go ?_ | intro _ | (apply cG; first | refine cT ?_ | refine cF ?_ | refine cS (fun _ => ?_) fun _ => ?_) | (apply gW; refine sW ?_) | (apply gI; refine sI ?_) | (apply gE; refine sE ?_) | (apply gP; refine sP ?_) | (apply gC; refine sC ?_) | (apply gD; refine sD ?_) | fail)
        refine O_d (dy_lit1 (R := eV) ⟨⟨1, 0, x / 2 ^ m.toNat, [], []⟩, .slice none 0 0, .slice none 0 0⟩ (hcs := by rfl) (hel := fun m h hs => ⟨rfl, Sl.nil _ _ _ _, Sl.nil _ _ _ _⟩)) ?_; rintro _ _ ⟨_, rfl, rfl⟩; refine O_n ?_
        refine O_d dy_append ?_; rintro _ _ ⟨A9, c9, rfl, rfl⟩; refine O_n ?_
        repeat' (first | refine go ?_ | intro _ | (apply cG; first | refine cT ?_ | refine cF ?_ | refine cS (fun _ => ?_) fun _ => ?_) | (apply gW; refine sW ?_) | (apply gI; refine sI ?_) | (apply gE; refine sE ?_) | (apply gP; refine sP ?_) | (apply gC; refine sC ?_) | (apply gD; refine sD ?_) | fail)
        exact E_round (i + 1, .slice A9 (lo.length + 1) c9, lo ++ [⟨⟨1, 0, x / 2 ^ m.toNat, [], []⟩, .slice none 0 0, .slice none 0 0⟩]) ⟨by omega, by omega, ⟨A9, c9, by rw [List.length_append]; rfl⟩, fun y hy => by
          rcases List.mem_append.1 hy with hy | hy
          · exact hgd y hy
          · simp only [List.mem_cons, List.not_mem_nil, or_false] at hy
            subst hy
            exact good1 (shr_in hbx.1 hbx.2), by rw [List.length_append, hlen]; rfl⟩ (by show li.length - (i + 1) < li.length - i; omega) ⟨rfl, rfl, trivial⟩ Sb
      by_cases e2 : k = 2
      · subst e2
        repeat' (first | refine go ?_ | intro _ | (apply cG; first | refine cT ?_ | refine cF ?_ | refine cS (fun _ => ?_) fun _ => ?_) | (apply gW; refine sW ?_) | (apply gI; refine sI ?_) | (apply gE; refine sE ?_) | (apply gP; refine sP ?_) | (apply gC; refine sC ?_) | (apply gD; refine sD ?_) | fail)
        repeat' (first | refine go ?_ | intro _ | (apply cG; first | refine cT ?_ | refine cF ?_ | refine cS (fun _ => ?_) fun _ => ?_) | (apply gW; refine sW ?_) | (apply gI; refine sI ?_) | (apply gE; refine sE ?_) | (apply gP; refine sP ?_) | (apply gC; refine sC ?_) | (apply gD; refine sD ?_) | fail)
        refine O_d (dy_lit1 (R := eV) ⟨⟨2, 0, m % 2, [], []⟩, .slice none 0 0, .slice none 0 0⟩ (hcs := by rfl) (hel := fun m h hs => ⟨rfl, Sl.nil _ _ _ _, Sl.nil _ _ _ _⟩)) ?_; rintro _ _ ⟨_, rfl, rfl⟩; refine O_n ?_
        refine O_d dy_append ?_; rintro _ _ ⟨A9, c9, rfl, rfl⟩; refine O_n ?_
        repeat' (first | refine go ?_ | intro _ | (apply cG; first | refine cT ?_ | refine cF ?_ | refine cS (fun _ => ?_) fun _ => ?_) | (apply gW; refine sW ?_) | (apply gI; refine sI ?_) | (apply gE; refine sE ?_) | (apply gP; refine sP ?_) | (apply gC; refine sC ?_) | (apply gD; refine sD ?_) | fail)
        exact E_round (i + 1, .slice A9 (lo.length + 1) c9, lo ++ [⟨⟨2, 0, m % 2, [], []⟩, .slice none 0 0, .slice none 0 0⟩]) ⟨by omega, by omega, ⟨A9, c9, by rw [List.length_append]; rfl⟩, fun y hy => by
          rcases List.mem_append.1 hy with hy | hy
          · exact hgd y hy
          · simp only [List.mem_cons, List.not_mem_nil, or_false] at hy
            subst hy
            exact good2 (by omega), by rw [List.length_append, hlen]; rfl⟩ (by show li.length - (i + 1) < li.length - i; omega) ⟨rfl, rfl, trivial⟩ Sb
      by_cases e3 : k = 3 ∨ k = 4
      · rcases e3 with rfl | rfl
        · repeat' (first | refine go ?_ | intro _ | (apply cG; first | refine cT ?_ | refine cF ?_ | refine cS (fun _ => ?_) fun _ => ?_) | (apply gW; refine sW ?_) | (apply gI; refine sI ?_) | (apply gE; refine sE ?_) | (apply gP; refine sP ?_) | (apply gC; refine sC ?_) | (apply gD; refine sD ?_) | fail)
          refine C_ownnil 5 eB ?_
          refine C_loopS (κ := Nat × Value × List UInt8) [false, false, false, false, false, false, false, false, true, false, false, false, false, false, false, false, false, false, false, false, false, false, false, false, false, false, false, false, false, false, false, false, false, false, false, false, false, false, false, false, false, false, false, false, false, false, false, false, false, false, false, false, false, false, false, false, false, false, false, false, false, false, false, false, false, false, false, false, false, false, false, false, false, false, false, false, false, false, false, false, false, false, true, true, true, true, true, true, true, true, true, true, true, true, true, true, true, true, true, true, true, false, false, false, false, false] (fun k => [(8, .int .i64 (k.1 : Int))]) (fun k => [(0, own 5 eB k.2.1 k.2.2), (1, cel _ [.int .i64 _, .int .u64 0, .int .i64 0, k.2.1, .slice none 0 0] _)]) (fun k => k.1 ≤ 10 ∧ (∃ A c, k.2.1 = .slice A k.2.2.length c) ∧ k.2.2.length = k.1) (fun k => 10 - k.1) (0, .slice none 0 0, []) ⟨by decide, ⟨none, 0, rfl⟩, rfl⟩ ⟨rfl, trivial⟩ ?_
          rintro ⟨j, vb, lb⟩ u2 ⟨g1, ⟨A3, c3, hvb⟩, hlb⟩
          dsimp only at g1 hvb hlb
          subst hvb
          ((try dsimp only); refine C_n ?_; (try simp only [Nat.reduceAdd, Nat.zero_add]))
          by_cases hjm : (j : Int) < m % 10
          · repeat' (first | refine go ?_ | intro _ | (apply cG; first | refine cT ?_ | refine cF ?_ | refine cS (fun _ => ?_) fun _ => ?_) | (apply gW; refine sW ?_) | (apply gI; refine sI ?_) | (apply gE; refine sE ?_) | (apply gP; refine sP ?_) | (apply gC; refine sC ?_) | (apply gD; refine sD ?_) | fail)
            obtain ⟨b, hb⟩ := u8_any (x / 2 ^ (j : Int).toNat)
            refine C_draw (n := 11) [cel _ [.int .i64 _, .int .u64 0, .int .i64 0, .slice A3 lb.length c3, .slice none 0 0] _, rd eI (.slice A li.length cap) li] [(0, 1), (1, 1), (2, 1), (3, 1), (4, 1), (5, 1), (6, 1), (7, 1), (8, 1), (9, 1), (10, 0), (11, 0), (12, 2), (13, 0)] (by kernel_rfl) (by kernel_rfl) Sb ?_
            repeat' (first | refine go ?_ | intro _ | (apply cG; first | refine cT ?_ | refine cF ?_ | refine cS (fun _ => ?_) fun _ => ?_) | (apply gW; refine sW ?_) | (apply gI; refine sI ?_) | (apply gE; refine sE ?_) | (apply gP; refine sP ?_) | (apply gC; refine sC ?_) | (apply gD; refine sD ?_) | fail)
            refine D_op rfl ?_; refine X_s sv_shr ?_
            repeat' (first | refine go ?_ | intro _ | (apply cG; first | refine cT ?_ | refine cF ?_ | refine cS (fun _ => ?_) fun _ => ?_) | (apply gW; refine sW ?_) | (apply gI; refine sI ?_) | (apply gE; refine sE ?_) | (apply gP; refine sP ?_) | (apply gC; refine sC ?_) | (apply gD; refine sD ?_) | fail)
            rw [hb]
            refine D_d rfl (dy_lit1 (R := eB) b (hcs := by rfl) (hel := fun _ _ _ => by rfl)) ?_; rintro _ _ ⟨_, rfl, rfl⟩; refine ⟨(by first | exact .inl rfl | exact .inr Sb), D_n ?_⟩
            repeat' (first | refine go ?_ | intro _ | (apply cG; first | refine cT ?_ | refine cF ?_ | refine cS (fun _ => ?_) fun _ => ?_) | (apply gW; refine sW ?_) | (apply gI; refine sI ?_) | (apply gE; refine sE ?_) | (apply gP; refine sP ?_) | (apply gC; refine sC ?_) | (apply gD; refine sD ?_) | fail)
            rename_i A4 c4
            exact E_round (j + 1, .slice A4 (lb.length + 1) c4, lb ++ [b]) ⟨by omega, ⟨A4, c4, by rw [List.length_append]; rfl⟩, by rw [List.length_append, hlb]; rfl⟩ (by show 10 - (j + 1) < 10 - j; omega) ⟨rfl, trivial⟩ Sb
          · repeat' (first | refine go ?_ | intro _ | (apply cG; first | refine cT ?_ | refine cF ?_ | refine cS (fun _ => ?_) fun _ => ?_) | (apply gW; refine sW ?_) | (apply gI; refine sI ?_) | (apply gE; refine sE ?_) | (apply gP; refine sP ?_) | (apply gC; refine sC ?_) | (apply gD; refine sD ?_) | fail)
            refine O_frz 0 ?_
            have hlb10 : lb.length ≤ 200 := by omega
            repeat' (first | refine go ?_ | intro _ | (apply cG; first | refine cT ?_ | refine cF ?_ | refine cS (fun _ => ?_) fun _ => ?_) | (apply gW; refine sW ?_) | (apply gI; refine sI ?_) | (apply gE; refine sE ?_) | (apply gP; refine sP ?_) | (apply gC; refine sC ?_) | (apply gD; refine sD ?_) | fail)
            refine O_d (dy_lit1 (R := eV) ⟨⟨3, 0, 0, lb, []⟩, .slice A3 lb.length c3, .slice none 0 0⟩ (hcs := by rfl) (hel := fun m h hs => ⟨rfl, rd_mem hs (.head _), Sl.nil _ _ _ _⟩)) ?_; rintro _ _ ⟨_, rfl, rfl⟩; refine O_n ?_
            refine O_d dy_append ?_; rintro _ _ ⟨A9, c9, rfl, rfl⟩; refine O_n ?_
            repeat' (first | refine go ?_ | intro _ | (apply cG; first | refine cT ?_ | refine cF ?_ | refine cS (fun _ => ?_) fun _ => ?_) | (apply gW; refine sW ?_) | (apply gI; refine sI ?_) | (apply gE; refine sE ?_) | (apply gP; refine sP ?_) | (apply gC; refine sC ?_) | (apply gD; refine sD ?_) | fail)
            exact E_round (i + 1, .slice A9 (lo.length + 1) c9, lo ++ [⟨⟨3, 0, 0, lb, []⟩, .slice A3 lb.length c3, .slice none 0 0⟩]) ⟨by omega, by omega, ⟨A9, c9, by rw [List.length_append]; rfl⟩, fun y hy => by
              rcases List.mem_append.1 hy with hy | hy
              · exact hgd y hy
              · simp only [List.mem_cons, List.not_mem_nil, or_false] at hy
                subst hy
                exact good3 (.inl rfl) hlb10, by rw [List.length_append, hlen]; rfl⟩ (by show li.length - (i + 1) < li.length - i; omega) ⟨rfl, rfl, trivial⟩ Sb
        · repeat' (first | refine go ?_ | intro _ | (apply cG; first | refine cT ?_ | refine cF ?_ | refine cS (fun _ => ?_) fun _ => ?_) | (apply gW; refine sW ?_) | (apply gI; refine sI ?_) | (apply gE; refine sE ?_) | (apply gP; refine sP ?_) | (apply gC; refine sC ?_) | (apply gD; refine sD ?_) | fail)
          refine C_ownnil 5 eB ?_
          refine C_loopS (κ := Nat × Value × List UInt8) [false, false, false, false, false, false, false, false, true, false, false, false, false, false, false, false, false, false, false, false, false, false, false, false, false, false, false, false, false, false, false, false, false, false, false, false, false, false, false, false, false, false, false, false, false, false, false, false, false, false, false, false, false, false, false, false, false, false, false, false, false, false, false, false, false, false, false, false, false, false, false, false, false, false, false, false, false, false, false, false, false, false, true, true, true, true, true, true, true, true, true, true, true, true, true, true, true, true, true, true, true, false, false, false, false, false] (fun k => [(8, .int .i64 (k.1 : Int))]) (fun k => [(0, own 5 eB k.2.1 k.2.2), (1, cel _ [.int .i64 _, .int .u64 0, .int .i64 0, k.2.1, .slice none 0 0] _)]) (fun k => k.1 ≤ 10 ∧ (∃ A c, k.2.1 = .slice A k.2.2.length c) ∧ k.2.2.length = k.1) (fun k => 10 - k.1) (0, .slice none 0 0, []) ⟨by decide, ⟨none, 0, rfl⟩, rfl⟩ ⟨rfl, trivial⟩ ?_
          rintro ⟨j, vb, lb⟩ u2 ⟨g1, ⟨A3, c3, hvb⟩, hlb⟩
          dsimp only at g1 hvb hlb
          subst hvb
          ((try dsimp only); refine C_n ?_; (try simp only [Nat.reduceAdd, Nat.zero_add]))
          by_cases hjm : (j : Int) < m % 10
          · repeat' (first | refine go ?_ | intro _ | (apply cG; first | refine cT ?_ | refine cF ?_ | refine cS (fun _ => ?_) fun _ => ?_) | (apply gW; refine sW ?_) | (apply gI; refine sI ?_) | (apply gE; refine sE ?_) | (apply gP; refine sP ?_) | (apply gC; refine sC ?_) | (apply gD; refine sD ?_) | fail)
            obtain ⟨b, hb⟩ := u8_any (x / 2 ^ (j : Int).toNat)
            refine C_draw (n := 11) [cel _ [.int .i64 _, .int .u64 0, .int .i64 0, .slice A3 lb.length c3, .slice none 0 0] _, rd eI (.slice A li.length cap) li] [(0, 1), (1, 1), (2, 1), (3, 1), (4, 1), (5, 1), (6, 1), (7, 1), (8, 1), (9, 1), (10, 0), (11, 0), (12, 2), (13, 0)] (by kernel_rfl) (by kernel_rfl) Sb ?_
            repeat' (first | refine go ?_ | intro _ | (apply cG; first | refine cT ?_ | refine cF ?_ | refine cS (fun _ => ?_) fun _ => ?_) | (apply gW; refine sW ?_) | (apply gI; refine sI ?_) | (apply gE; refine sE ?_) | (apply gP; refine sP ?_) | (apply gC; refine sC ?_) | (apply gD; refine sD ?_) | fail)
            refine D_op rfl ?_; refine X_s sv_shr ?_
            repeat' (first | refine go ?_ | intro _ | (apply cG; first | refine cT ?_ | refine cF ?_ | refine cS (fun _ => ?_) fun _ => ?_) | (apply gW; refine sW ?_) | (apply gI; refine sI ?_) | (apply gE; refine sE ?_) | (apply gP; refine sP ?_) | (apply gC; refine sC ?_) | (apply gD; refine sD ?_) | fail)
            rw [hb]
            refine D_d rfl (dy_lit1 (R := eB) b (hcs := by rfl) (hel := fun _ _ _ => by rfl)) ?_; rintro _ _ ⟨_, rfl, rfl⟩; refine ⟨(by first | exact .inl rfl | exact .inr Sb), D_n ?_⟩
            repeat' (first | refine go ?_ | intro _ | (apply cG; first | refine cT ?_ | refine cF ?_ | refine cS (fun _ => ?_) fun _ => ?_) | (apply gW; refine sW ?_) | (apply gI; refine sI ?_) | (apply gE; refine sE ?_) | (apply gP; refine sP ?_) | (apply gC; refine sC ?_) | (apply gD; refine sD ?_) | fail)
            rename_i A4 c4
            exact E_round (j + 1, .slice A4 (lb.length + 1) c4, lb ++ [b]) ⟨by omega, ⟨A4, c4, by rw [List.length_append]; rfl⟩, by rw [List.length_append, hlb]; rfl⟩ (by show 10 - (j + 1) < 10 - j; omega) ⟨rfl, trivial⟩ Sb
          · repeat' (first | refine go ?_ | intro _ | (apply cG; first | refine cT ?_ | refine cF ?_ | refine cS (fun _ => ?_) fun _ => ?_) | (apply gW; refine sW ?_) | (apply gI; refine sI ?_) | (apply gE; refine sE ?_) | (apply gP; refine sP ?_) | (apply gC; refine sC ?_) | (apply gD; refine sD ?_) | fail)
            refine O_frz 0 ?_
            have hlb10 : lb.length ≤ 200 := by omega
            repeat' (first | refine go ?_ | intro _ | (apply cG; first | refine cT ?_ | refine cF ?_ | refine cS (fun _ => ?_) fun _ => ?_) | (apply gW; refine sW ?_) | (apply gI; refine sI ?_) | (apply gE; refine sE ?_) | (apply gP; refine sP ?_) | (apply gC; refine sC ?_) | (apply gD; refine sD ?_) | fail)
            refine O_d (dy_lit1 (R := eV) ⟨⟨4, 0, 0, lb, []⟩, .slice A3 lb.length c3, .slice none 0 0⟩ (hcs := by rfl) (hel := fun m h hs => ⟨rfl, rd_mem hs (.head _), Sl.nil _ _ _ _⟩)) ?_; rintro _ _ ⟨_, rfl, rfl⟩; refine O_n ?_
            refine O_d dy_append ?_; rintro _ _ ⟨A9, c9, rfl, rfl⟩; refine O_n ?_
            repeat' (first | refine go ?_ | intro _ | (apply cG; first | refine cT ?_ | refine cF ?_ | refine cS (fun _ => ?_) fun _ => ?_) | (apply gW; refine sW ?_) | (apply gI; refine sI ?_) | (apply gE; refine sE ?_) | (apply gP; refine sP ?_) | (apply gC; refine sC ?_) | (apply gD; refine sD ?_) | fail)
            exact E_round (i + 1, .slice A9 (lo.length + 1) c9, lo ++ [⟨⟨4, 0, 0, lb, []⟩, .slice A3 lb.length c3, .slice none 0 0⟩]) ⟨by omega, by omega, ⟨A9, c9, by rw [List.length_append]; rfl⟩, fun y hy => by
              rcases List.mem_append.1 hy with hy | hy
              · exact hgd y hy
              · simp only [List.mem_cons, List.not_mem_nil, or_false] at hy
                subst hy
                exact good3 (.inr rfl) hlb10, by rw [List.length_append, hlen]; rfl⟩ (by show li.length - (i + 1) < li.length - i; omega) ⟨rfl, rfl, trivial⟩ Sb
      obtain rfl : k = 5 := by omega
      repeat' (first | refine go ?_ | intro _ | (apply cG; first | refine cT ?_ | refine cF ?_ | refine cS (fun _ => ?_) fun _ => ?_) | (apply gW; refine sW ?_) | (apply gI; refine sI ?_) | (apply gE; refine sE ?_) | (apply gP; refine sP ?_) | (apply gC; refine sC ?_) | (apply gD; refine sD ?_) | fail)
      refine C_ownnil 3 eI ?_
      refine C_loopS (κ := Nat × Value × List Int) [false, false, false, false, false, false, false, false, false, true, false, false, false, false, false, false, false, false, false, false, false, false, false, false, false, false, false, false, false, false, false, false, false, false, true, true, true, true, true, true, true, true, true, true, true, true, true, true, true, true, true, true, true, false, false, false, false, false, false, false, false, false, false, false, false, false, false, false, false, false, false, false, false, false, false, false, false, false, false, false, false, false, false, false, false, false, false, false, false, false, false, false, false, false, false, false, false, false, false, false, false, false, false, false, false, false] (fun k => [(9, .int .i64 (k.1 : Int))]) (fun k => [(0, own 3 eI k.2.1 k.2.2), (1, cel _ [.int .i64 _, .int .u64 0, .int .i64 0, .slice none 0 0, k.2.1] _)]) (fun k => k.1 ≤ 5 ∧ (∃ A c, k.2.1 = .slice A k.2.2.length c) ∧ k.2.2.length = k.1 ∧ ∀ n ∈ k.2.2, -9223372036854775808 ≤ n ∧ n ≤ 9223372036854775807) (fun k => 5 - k.1) (0, .slice none 0 0, []) ⟨by decide, ⟨none, 0, rfl⟩, rfl, fun n hn => by cases hn⟩ ⟨rfl, trivial⟩ ?_
      rintro ⟨j, vb, lb⟩ u2 ⟨g1, ⟨A3, c3, hvb⟩, hlb, hlr⟩
      dsimp only at g1 hvb hlb hlr
      subst hvb
      ((try dsimp only); refine C_n ?_; (try simp only [Nat.reduceAdd, Nat.zero_add]))
      by_cases hjm : (j : Int) < m % 5
      · repeat' (first | refine go ?_ | intro _ | (apply cG; first | refine cT ?_ | refine cF ?_ | refine cS (fun _ => ?_) fun _ => ?_) | (apply gW; refine sW ?_) | (apply gI; refine sI ?_) | (apply gE; refine sE ?_) | (apply gP; refine sP ?_) | (apply gC; refine sC ?_) | (apply gD; refine sD ?_) | fail)
        have hb := shr_in (n := (13 * (j : Int)).toNat) hbx.1 hbx.2
        refine C_draw (n := 11) [cel _ [.int .i64 _, .int .u64 0, .int .i64 0, .slice none 0 0, .slice A3 lb.length c3] _, rd eI (.slice A li.length cap) li] [(0, 1), (1, 1), (2, 1), (3, 1), (4, 1), (5, 1), (6, 1), (7, 1), (8, 1), (9, 1), (10, 0), (11, 0), (12, 2), (13, 0)] (by kernel_rfl) (by kernel_rfl) Sb ?_
        repeat' (first | refine go ?_ | intro _ | (apply cG; first | refine cT ?_ | refine cF ?_ | refine cS (fun _ => ?_) fun _ => ?_) | (apply gW; refine sW ?_) | (apply gI; refine sI ?_) | (apply gE; refine sE ?_) | (apply gP; refine sP ?_) | (apply gC; refine sC ?_) | (apply gD; refine sD ?_) | fail)
        refine D_op rfl ?_; refine X_s sv_shr ?_
        repeat' (first | refine go ?_ | intro _ | (apply cG; first | refine cT ?_ | refine cF ?_ | refine cS (fun _ => ?_) fun _ => ?_) | (apply gW; refine sW ?_) | (apply gI; refine sI ?_) | (apply gE; refine sE ?_) | (apply gP; refine sP ?_) | (apply gC; refine sC ?_) | (apply gD; refine sD ?_) | fail)
        obtain ⟨b, hbe⟩ : ∃ b, x / 2 ^ (13 * (j : Int)).toNat = b := ⟨_, rfl⟩
        rw [hbe] at hb ⊢
        refine D_d rfl (dy_lit1 (R := eI) b (hcs := by rfl) (hel := fun _ _ _ => by rfl)) ?_; rintro _ _ ⟨_, rfl, rfl⟩; refine ⟨(by first | exact .inl rfl | exact .inr Sb), D_n ?_⟩
        repeat' (first | refine go ?_ | intro _ | (apply cG; first | refine cT ?_ | refine cF ?_ | refine cS (fun _ => ?_) fun _ => ?_) | (apply gW; refine sW ?_) | (apply gI; refine sI ?_) | (apply gE; refine sE ?_) | (apply gP; refine sP ?_) | (apply gC; refine sC ?_) | (apply gD; refine sD ?_) | fail)
        rename_i A4 c4
        exact E_round (j + 1, .slice A4 (lb.length + 1) c4, lb ++ [b]) ⟨by omega, ⟨A4, c4, by rw [List.length_append]; rfl⟩, by rw [List.length_append, hlb]; rfl, fun y hy => by
          rcases List.mem_append.1 hy with hy | hy
          · exact hlr y hy
          · simp only [List.mem_cons, List.not_mem_nil, or_false] at hy
            subst hy
            exact hb⟩ (by show 5 - (j + 1) < 5 - j; omega) ⟨rfl, trivial⟩ Sb
      · repeat' (first | refine go ?_ | intro _ | (apply cG; first | refine cT ?_ | refine cF ?_ | refine cS (fun _ => ?_) fun _ => ?_) | (apply gW; refine sW ?_) | (apply gI; refine sI ?_) | (apply gE; refine sE ?_) | (apply gP; refine sP ?_) | (apply gC; refine sC ?_) | (apply gD; refine sD ?_) | fail)
        refine O_frz 0 ?_
        repeat' (first | refine go ?_ | intro _ | (apply cG; first | refine cT ?_ | refine cF ?_ | refine cS (fun _ => ?_) fun _ => ?_) | (apply gW; refine sW ?_) | (apply gI; refine sI ?_) | (apply gE; refine sE ?_) | (apply gP; refine sP ?_) | (apply gC; refine sC ?_) | (apply gD; refine sD ?_) | fail)
        refine O_d (dy_lit1 (R := eV) ⟨⟨5, 0, 0, [], lb⟩, .slice none 0 0, .slice A3 lb.length c3⟩ (hcs := by rfl) (hel := fun m h hs => ⟨rfl, Sl.nil _ _ _ _, rd_mem hs (.head _)⟩)) ?_; rintro _ _ ⟨_, rfl, rfl⟩; refine O_n ?_
        refine O_d dy_append ?_; rintro _ _ ⟨A9, c9, rfl, rfl⟩; refine O_n ?_
        repeat' (first | refine go ?_ | intro _ | (apply cG; first | refine cT ?_ | refine cF ?_ | refine cS (fun _ => ?_) fun _ => ?_) | (apply gW; refine sW ?_) | (apply gI; refine sI ?_) | (apply gE; refine sE ?_) | (apply gP; refine sP ?_) | (apply gC; refine sC ?_) | (apply gD; refine sD ?_) | fail)
        exact E_round (i + 1, .slice A9 (lo.length + 1) c9, lo ++ [⟨⟨5, 0, 0, [], lb⟩, .slice none 0 0, .slice A3 lb.length c3⟩]) ⟨by omega, by omega, ⟨A9, c9, by rw [List.length_append]; rfl⟩, fun y hy => by
          rcases List.mem_append.1 hy with hy | hy
          · exact hgd y hy
          · simp only [List.mem_cons, List.not_mem_nil, or_false] at hy
            subst hy
            exact good5 (by omega) hlr, by rw [List.length_append, hlen]; rfl⟩ (by show li.length - (i + 1) < li.length - i; omega) ⟨rfl, rfl, trivial⟩ Sb
    · obtain rfl : i = 8 := by omega
      repeat' (first | refine go ?_ | intro _ | (apply cG; first | refine cT ?_ | refine cF ?_ | refine cS (fun _ => ?_) fun _ => ?_) | (apply gW; refine sW ?_) | (apply gI; refine sI ?_) | (apply gE; refine sE ?_) | (apply gP; refine sP ?_) | (apply gC; refine sC ?_) | (apply gD; refine sD ?_) | fail)
      refine E_sub (sub_skip (sub_drop (Sub.refl _))) ?_
      refine E_end1 (by rfl) (by rfl) Ev.pf ⟨_, _, _, rfl, rfl, hgd, by omega⟩
  · obtain rfl : i = li.length := by omega
    repeat' (first | refine go ?_ | intro _ | (apply cG; first | refine cT ?_ | refine cF ?_ | refine cS (fun _ => ?_) fun _ => ?_) | (apply gW; refine sW ?_) | (apply gI; refine sI ?_) | (apply gE; refine sE ?_) | (apply gP; refine sP ?_) | (apply gC; refine sC ?_) | (apply gD; refine sD ?_) | fail)
    refine E_sub (sub_skip (sub_drop (Sub.refl _))) ?_
    refine E_end1 (by rfl) (by rfl) Ev.pf ⟨_, _, _, rfl, rfl, hgd, by omega⟩
end
end Go.Proofs.Ytjaopndlcghkcaa
