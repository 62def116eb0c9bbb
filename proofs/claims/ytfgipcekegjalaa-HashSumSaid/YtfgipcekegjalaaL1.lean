/-
  The law HashSum.
-/
import Derived.Test.YtfgipcekegjalaaHw6
import Derived.Test.YtfgipcekegjalaaRow
namespace Go.Proofs.Ytfgipcekegjalaa
open Go Go.RowKit
set_option linter.unusedVariables false
set_option linter.unusedSimpArgs false
set_option maxHeartbeats 1000000 in
theorem HashSum_any {W0 w : World} {L : List HP} (hS : St W0 w L) (s : ByteArray) (hs : s.size ≤ 9223372036854775807) {v : Value} {l : List Int} (hv : rd eI v l ∈ L) (hl : l.length ≤ 9223372036854775807) :
    Calls Try.prog 3 #[.string s, v] w fun e w' => e = .returned (.bool true) ∧ St W0 w' L := by
  go_enter Try.func3, Try.ntmps3
  go_wp2_with (first | (go_at_call 11; refine (Short_c _ 40 _ (by decide) (by omega)).mono ?_; rintro e w' ⟨t, te, tl, rfl, rfl⟩) | (go_at_call 12; refine (Ints_c hS (by first | exact hv | exact List.mem_cons_of_mem _ hv | exact List.mem_cons_of_mem _ (List.mem_cons_of_mem _ hv)) (by omega) _ (by decide) (by decide)).mono ?_; clear hS; rintro e w' ⟨Am, cm, m, me, ml, rfl, hS⟩; (try simp only [Int.toNat_ofNat, Int.reduceToNat] at ml); (try simp only [Int.toNat_ofNat, Int.reduceToNat] at me)) | (go_at_call 13; (with_reducible refine stop_op ?_)))
  obtain ⟨x, hx⟩ : ∃ x, sumW t.data.toList m = x := ⟨_, rfl⟩
  obtain ⟨y, hy⟩ : ∃ y, sumW t.data.toList [] = y := ⟨_, rfl⟩
  replace hx := Lib.hid hx
  replace hy := Lib.hid hy
  refine (hSum_x hx.out hS (by omega) Src.head (by omega)).mono ?_
  clear hS
  rintro _ w' ⟨rfl, hS⟩
  replace hS := hS.rd_nil eI none 0
  go_wp2_with (go_at_call 14; (with_reducible refine stop_op ?_))
  refine (rSum_x hx.out hS (by omega) Src.head.c (by omega)).mono ?_; clear hS; rintro _ w' ⟨rfl, hS⟩
  go_wp2_with (go_at_call 13; (with_reducible refine stop_op ?_))
  refine (hSum_x hy.out hS (by omega) (.inl List.mem_cons_self) (by decide)).mono ?_; clear hS; rintro _ w' ⟨rfl, hS⟩
  go_wp2_with (go_at_call 14; (with_reducible refine stop_op ?_))
  refine (rSum_x hy.out hS (by omega) (.inl List.mem_cons_self) (by decide)).mono ?_; clear hS; rintro _ w' ⟨rfl, hS⟩
  go_wp2_with (go_at_call 15; (with_reducible refine stop_op ?_))
  refine (lives_any hS).mono ?_; clear hS; rintro _ w' ⟨rfl, hS⟩
  go_wp2
  go_ret
  exact ⟨congrArg Ending.returned (by (conv => lhs; whnf); try rfl), hS.drop.drop⟩
end Go.Proofs.Ytfgipcekegjalaa
