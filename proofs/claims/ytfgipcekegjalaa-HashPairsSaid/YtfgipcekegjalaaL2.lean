/-
  The laws HashBytes and HashPairs.
-/
import Derived.Test.YtfgipcekegjalaaHw6
import Derived.Test.YtfgipcekegjalaaHq
import Derived.Test.YtfgipcekegjalaaRow
namespace Go.Proofs.Ytfgipcekegjalaa
open Go Go.RowKit
set_option linter.unusedVariables false
set_option linter.unusedSimpArgs false
set_option maxHeartbeats 1000000 in
theorem HashBytes_any {W0 w : World} {L : List HP} (hS : St W0 w L) (s : ByteArray) (hs : s.size ≤ 9223372036854775807) {v : Value} {l : List UInt8} (hv : rd eB v l ∈ L) (hl : l.length ≤ 9223372036854775807) (a b : UInt64) :
    Calls Try.prog 4 #[.string s, v, .int .u64 (a.toNat : Int), .int .u64 (b.toNat : Int)] w fun e w' => e = .returned (.bool true) ∧ St W0 w' L := by
  go_enter Try.func4, Try.ntmps4
  go_wp2_with (first | (go_at_call 11; refine (Short_c _ 20 _ (by decide) (by omega)).mono ?_; rintro e w' ⟨t, te, tl, rfl, rfl⟩) | (go_at_call 16; refine (Few_c hS (by first | exact hv | exact List.mem_cons_of_mem _ hv | exact List.mem_cons_of_mem _ (List.mem_cons_of_mem _ hv)) (by omega) _ (by decide) (by decide)).mono ?_; clear hS; rintro e w' ⟨Am, cm, m, me, ml, rfl, hS⟩; (try simp only [Int.toNat_ofNat, Int.reduceToNat] at ml); (try simp only [Int.toNat_ofNat, Int.reduceToNat] at me)) | (go_at_call 17; (with_reducible refine stop_op ?_)))
  obtain ⟨x, hx⟩ : ∃ x, bytesW t.data.toList m = x := ⟨_, rfl⟩
  obtain ⟨y, hy⟩ : ∃ y, pairW a b = y := ⟨_, rfl⟩
  replace hx := Lib.hid hx
  replace hy := Lib.hid hy
  refine (hBytes_x hx.out hS (by omega) Src.head (by omega)).mono ?_
  clear hS
  rintro _ w' ⟨rfl, hS⟩
  go_wp2_with (go_at_call 18; (with_reducible refine stop_op ?_))
  refine (rBytes_x hx.out hS (by omega) Src.head (by omega)).mono ?_; clear hS; rintro _ w' ⟨rfl, hS⟩
  go_wp2_with (go_at_call 19; (with_reducible refine stop_op ?_))
  refine (hPair_i (x := a) (y := b) rfl rfl hy.out hS).mono ?_; clear hS; rintro _ w' ⟨rfl, hS⟩
  go_wp2_with (go_at_call 20; (with_reducible refine stop_op ?_))
  refine (rPair_i (x := a) (y := b) rfl rfl hy.out hS).mono ?_; clear hS; rintro _ w' ⟨rfl, hS⟩
  go_wp2_with (go_at_call 15; (with_reducible refine stop_op ?_))
  refine (lives_any hS).mono ?_; clear hS; rintro _ w' ⟨rfl, hS⟩
  go_wp2
  go_ret
  exact ⟨congrArg Ending.returned (by (conv => lhs; whnf); try rfl), hS.drop⟩
set_option maxHeartbeats 1000000 in
theorem HashPairs_any {W0 w : World} {L : List HP} (hS : St W0 w L) (a b c : UInt64) :
    Calls Try.prog 9 #[.int .u64 (a.toNat : Int), .int .u64 (b.toNat : Int), .int .u64 (c.toNat : Int)] w fun e w' => e = .returned (.bool true) ∧ St W0 w' L := by
  obtain ⟨x1, h1⟩ : ∃ x, pairW a c = x := ⟨_, rfl⟩
  obtain ⟨x2, h2⟩ : ∃ x, pairW b c = x := ⟨_, rfl⟩
  obtain ⟨x3, h3⟩ : ∃ x, pairW c a = x := ⟨_, rfl⟩
  obtain ⟨x4, h4⟩ : ∃ x, pairW c b = x := ⟨_, rfl⟩
  obtain ⟨x5, h5⟩ : ∃ x, pairW a b = x := ⟨_, rfl⟩
  have k : ((x1.toNat : Int) == (x2.toNat : Int)) = ((a.toNat : Int) == (b.toNat : Int)) ∧ ((x3.toNat : Int) == (x4.toNat : Int)) = ((a.toNat : Int) == (b.toNat : Int)) := by
    by_cases hab : a = b
    · subst hab
      rw [← h1, ← h2, ← h3, ← h4]
      simp
    · rw [beq_f hab]
      exact ⟨beq_f fun e => hab (pair_l (h1.trans (e.trans h2.symm))), beq_f fun e => hab (pair_r (h3.trans (e.trans h4.symm)))⟩
  obtain ⟨k1, k2⟩ := k
  replace h1 := Lib.hid h1
  replace h2 := Lib.hid h2
  replace h3 := Lib.hid h3
  replace h4 := Lib.hid h4
  replace h5 := Lib.hid h5
  have key : ∀ q : Bool, ((a.toNat : Int) == (b.toNat : Int)) = q → Calls Try.prog 9 #[.int .u64 (a.toNat : Int), .int .u64 (b.toNat : Int), .int .u64 (c.toNat : Int)] w fun e w' => e = .returned (.bool true) ∧ St W0 w' L := by
    intro q hq
    rw [hq] at k1 k2
    cases q
    all_goals
      go_enter Try.func9, Try.ntmps9
      go_wp2_with (go_at_call 19; (with_reducible refine stop_op ?_))
      refine (hPair_i (x := a) (y := c) rfl rfl h1.out hS).mono ?_; clear hS; rintro _ w' ⟨rfl, hS⟩
      go_wp2_with (go_at_call 19; (with_reducible refine stop_op ?_))
      refine (hPair_i (x := b) (y := c) rfl rfl h2.out hS).mono ?_; clear hS; rintro _ w' ⟨rfl, hS⟩
      go_wp2_with (go_at_call 19; (with_reducible refine stop_op ?_))
      refine (hPair_i (x := c) (y := a) rfl rfl h3.out hS).mono ?_; clear hS; rintro _ w' ⟨rfl, hS⟩
      go_wp2_with (go_at_call 19; (with_reducible refine stop_op ?_))
      refine (hPair_i (x := c) (y := b) rfl rfl h4.out hS).mono ?_; clear hS; rintro _ w' ⟨rfl, hS⟩
      go_wp2_with (go_at_call 19; (with_reducible refine stop_op ?_))
      refine (hPair_i (x := a) (y := b) rfl rfl h5.out hS).mono ?_; clear hS; rintro _ w' ⟨rfl, hS⟩
      go_wp2_with (first | ((with_reducible refine g_lit ?_); refine L_lit2 (R := eI) (el := toI a) (el2 := toI b) hS (by rfl) (by rfl) (by rfl) (by rfl) (by rfl) (by rfl) (by rfl) (fun _ _ _ => by rfl) (fun _ _ _ => by rfl) ?_; clear hS; intro A w' hS) | (go_at_call 13; (with_reducible refine stop_op ?_)))
      refine (hSum_x (s := ⟨#[112, 97, 105, 114]⟩) (l := [toI a, toI b]) h5.out hS (by decide) Src.head (by simp)).mono ?_; clear hS; rintro _ w' ⟨rfl, hS⟩
      go_wp2_with (go_at_call 15; (with_reducible refine stop_op ?_))
      refine (lives_any hS).mono ?_; clear hS; rintro _ w' ⟨rfl, hS⟩
      go_wp2
      go_ret
      exact ⟨congrArg Ending.returned (by (conv => lhs; whnf); try rfl), hS.drop⟩
  exact key _ rfl
end Go.Proofs.Ytfgipcekegjalaa
