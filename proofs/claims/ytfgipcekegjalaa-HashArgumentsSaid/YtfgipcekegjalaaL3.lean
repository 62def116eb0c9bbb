/-
  The law HashArguments.
-/
import Derived.Test.YtfgipcekegjalaaHw6
import Derived.Test.YtfgipcekegjalaaHq
import Derived.Test.YtfgipcekegjalaaRow
namespace Go.Proofs.Ytfgipcekegjalaa
open Go Go.RowKit
set_option linter.unusedVariables false
set_option linter.unusedSimpArgs false
theorem SameInts_t {W0 w : World} {L : List HP} {va vb : Value} {la lb : List Int} (e : la = lb) (hS : St W0 w L) (ha : Src L eI va la) (hb : Src L eI vb lb) (hla : la.length ≤ 140737488355328) :
    Calls Try.prog 24 #[va, vb] w fun e w' => e = .returned (.bool true) ∧ St W0 w' L := by
  subst e
  refine (SameInts_any hS ha hb hla hla).mono ?_
  rintro _ w' ⟨rfl, h⟩
  exact ⟨by simp, h⟩
theorem SameBytes_t {W0 w : World} {L : List HP} {va vb : Value} {la lb : List UInt8} (e : la = lb) (hS : St W0 w L) (ha : Src L eB va la) (hb : Src L eB vb lb) (hla : la.length ≤ 140737488355328) :
    Calls Try.prog 22 #[va, vb] w fun e w' => e = .returned (.bool true) ∧ St W0 w' L := by
  subst e
  refine (SameBytes_any hS ha hb hla hla).mono ?_
  rintro _ w' ⟨rfl, h⟩
  exact ⟨by simp, h⟩
set_option maxHeartbeats 1000000 in
theorem HashArguments_any {W0 w : World} {L : List HP} (hS : St W0 w L) {v vb : Value} {l : List Int} {b : List UInt8} (hv : rd eI v l ∈ L) (hvb : rd eB vb b ∈ L) (hl : l.length ≤ 9223372036854775807) (hb : b.length ≤ 9223372036854775807) :
    Calls Try.prog 10 #[v, vb] w fun e w' => e = .returned (.bool true) ∧ St W0 w' L := by
  obtain ⟨A, c, rfl, _⟩ := (hS.rd hv).form
  obtain ⟨B, d, rfl, _⟩ := (hS.rd hvb).form
  go_enter Try.func10, Try.ntmps10
  go_wp2_with (go_at_call 12; (with_reducible refine stop_op ?_))
  refine (Ints_c hS hv (by omega) _ (by decide) (by decide)).mono ?_; clear hS; rintro _ w' ⟨Am, cm, m, me, ml, rfl, hS⟩; (try simp only [Int.toNat_ofNat, Int.reduceToNat] at ml); (try simp only [Int.toNat_ofNat, Int.reduceToNat] at me)
  go_wp2_with (go_at_call 16; (with_reducible refine stop_op ?_))
  refine (Few_c hS (List.mem_cons_of_mem _ hvb) (by omega) _ (by decide) (by decide)).mono ?_; clear hS; rintro _ w' ⟨An, cn, n, ne, nl, rfl, hS⟩; (try simp only [Int.toNat_ofNat, Int.reduceToNat] at nl); (try simp only [Int.toNat_ofNat, Int.reduceToNat] at ne)
  obtain ⟨x, hx⟩ : ∃ x, sumW [115, 97, 109, 101] m = x := ⟨_, rfl⟩
  obtain ⟨y, hy⟩ : ∃ y, bytesW [115, 97, 109, 101] n = y := ⟨_, rfl⟩
  replace hx := Lib.hid hx
  replace hy := Lib.hid hy
  have sn : ∀ {L}, Src (own 5 eB (.slice An n.length cn) n :: L) eB (.slice An n.length cn) n := Src.head
  have sm : ∀ {L}, Src (own 5 eB (.slice An n.length cn) n :: own 3 eI (.slice Am m.length cm) m :: L) eI (.slice Am m.length cm) m := Src.head.c
  go_wp2_with (go_at_call 13; (with_reducible refine stop_op ?_))
  refine (hSum_x (s := ⟨#[115, 97, 109, 101]⟩) (l := m) hx.out hS (by decide) sm (by omega)).mono ?_; clear hS; rintro _ w' ⟨rfl, hS⟩
  go_wp2_with (go_at_call 17; (with_reducible refine stop_op ?_))
  refine (hBytes_x (s := ⟨#[115, 97, 109, 101]⟩) (l := n) hy.out hS (by decide) sn (by omega)).mono ?_; clear hS; rintro _ w' ⟨rfl, hS⟩
  go_wp2_with (go_at_call 12; (with_reducible refine stop_op ?_))
  refine (Ints_c hS (List.mem_cons_of_mem _ (List.mem_cons_of_mem _ hv)) (by omega) _ (by decide) (by decide)).mono ?_; clear hS; rintro _ w' ⟨Am2, cm2, m2, m2e, m2l, rfl, hS⟩; (try simp only [Int.toNat_ofNat, Int.reduceToNat] at m2l); (try simp only [Int.toNat_ofNat, Int.reduceToNat] at m2e)
  go_wp2_with (go_at_call 24; (with_reducible refine stop_op ?_))
  refine (SameInts_t (me.out.trans m2e.out.symm) hS sm.c Src.head (by omega)).mono ?_; clear hS; rintro _ w' ⟨rfl, hS⟩
  go_wp2_with (go_at_call 16; (with_reducible refine stop_op ?_))
  refine (Few_c hS (List.mem_cons_of_mem _ (List.mem_cons_of_mem _ (List.mem_cons_of_mem _ hvb))) (by omega) _ (by decide) (by decide)).mono ?_; clear hS; rintro _ w' ⟨An2, cn2, n2, n2e, n2l, rfl, hS⟩; (try simp only [Int.toNat_ofNat, Int.reduceToNat] at n2l); (try simp only [Int.toNat_ofNat, Int.reduceToNat] at n2e)
  go_wp2_with (go_at_call 22; (with_reducible refine stop_op ?_))
  refine (SameBytes_t (ne.out.trans n2e.out.symm) hS sn.c.c Src.head (by omega)).mono ?_; clear hS; rintro _ w' ⟨rfl, hS⟩
  go_wp2_with (go_at_call 13; (with_reducible refine stop_op ?_))
  refine (hSum_x (s := ⟨#[115, 97, 109, 101]⟩) (l := m) hx.out hS (by decide) sm.c.c (by omega)).mono ?_; clear hS; rintro _ w' ⟨rfl, hS⟩
  go_wp2_with (go_at_call 17; (with_reducible refine stop_op ?_))
  refine (hBytes_x (s := ⟨#[115, 97, 109, 101]⟩) (l := n) hy.out hS (by decide) sn.c.c (by omega)).mono ?_; clear hS; rintro _ w' ⟨rfl, hS⟩
  go_wp2_with (go_at_call 15; (with_reducible refine stop_op ?_))
  refine (lives_any hS).mono ?_; clear hS; rintro _ w' ⟨rfl, hS⟩
  go_wp2
  go_ret
  exact ⟨congrArg Ending.returned (by (conv => lhs; whnf); try rfl), hS.drop.drop.drop.drop⟩
end Go.Proofs.Ytfgipcekegjalaa
