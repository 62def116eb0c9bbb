/-
  The law HashGroups.
-/
import Derived.Test.YtfgipcekegjalaaHw6
import Derived.Test.YtfgipcekegjalaaHq
import Derived.Test.YtfgipcekegjalaaRow
namespace Go.Proofs.Ytfgipcekegjalaa
open Go Go.RowKit
set_option linter.unusedVariables false
set_option linter.unusedSimpArgs false
set_option maxRecDepth 8000 in
set_option maxHeartbeats 1000000 in
theorem HashGroups_any {W0 w : World} {L : List HP} (hS : St W0 w L) (s : ByteArray) (hs : s.size ≤ 9223372036854775807) {v : Value} {l : List UInt8} (hv : rd eB v l ∈ L) (hl : l.length ≤ 9223372036854775807) :
    Calls Try.prog 8 #[.string s, v] w fun e w' => e = .returned (.bool true) ∧ St W0 w' L := by
  go_enter Try.func8, Try.ntmps8
  go_wp2_with (first | (go_at_call 11; refine (Short_c _ 20 _ (by decide) (by omega)).mono ?_; rintro e w' ⟨t, te, tl, rfl, rfl⟩) | (go_at_call 16; (with_reducible refine stop_op ?_)))
  refine (Few_c hS hv (by omega) _ (by decide) (by decide)).mono ?_; clear hS; rintro _ w' ⟨An, cn, n, ne, nl, rfl, hS⟩; (try simp only [Int.toNat_ofNat, Int.reduceToNat] at nl)
  go_wp2_with (go_at_call 23; (with_reducible refine stop_op ?_))
  refine (own_form (Words_any hS Src.head (by omega))).mono ?_; clear hS; rintro _ w' ⟨B2, c2, rfl, hS⟩
  obtain ⟨ws, hws⟩ : ∃ ws, wordsOf n = ws := ⟨_, rfl⟩
  have hwl : ws.length ≤ 100 := by rw [← hws]; simp [wordsOf]; omega
  simp only [hws] at hS ⊢
  replace hws := Lib.hid hws
  have sn : ∀ {A B : HP} {L}, Src (A :: B :: own 5 eB (.slice An n.length cn) n :: L) eB (.slice An n.length cn) n := Src.head.c.c
  have hwd : ∀ {A : HP} {L}, Src (A :: own 25 eU (.slice B2 ws.length c2) ws :: L) eU (.slice B2 ws.length c2) ws := Src.head.c
  replace hS := hS.own_nil 3 eI
  obtain ⟨y, hy⟩ : ∃ y, bytesW t.data.toList n = y := ⟨_, rfl⟩
  have hy2 : sumW t.data.toList (ws.map toI ++ [(n.length : Int)]) = y := by rw [← hy, ← hws.out]; rfl
  obtain ⟨z, hz⟩ : ∃ z, bytesW t.data.toList (n ++ [0]) = z := ⟨_, rfl⟩
  have hzy : n.length % 8 ≠ 0 → z ≠ y := by
    intro h
    rw [← hz, ← hy]
    exact bytes_zero h (by omega)
  replace hy := Lib.hid hy
  replace hy2 := Lib.hid hy2
  replace hz := Lib.hid hz
  replace hzy := Lib.hid hzy
  go_wp2
  go_loopw [8, 9] (fun v i wr => Hid (∃ j : Nat, j ≤ ws.length ∧ i = .int .i64 (j : Int) ∧ St W0 wr (own 3 eI v ((ws.take j).map toI) :: own 25 eU (.slice B2 ws.length c2) ws :: own 5 eB (.slice An n.length cn) n :: L))) (fun _ i _ => ws.length - (intOf i).toNat)
  case atStart => exact Lib.hid ⟨0, by omega, rfl, hS⟩
  case round =>
    clear hS
    obtain ⟨j, hj, rfl, hS⟩ := hrel.out
    by_cases hlt : j < ws.length
    · go_wp2_with (first | ((with_reducible refine g_idx ?_); first | (refine wl_idxB (by rfl) (by rfl) (by rfl) (by rfl) (Src.sl (by first | exact hwd | exact (hwd).c | exact (hwd).c.c | exact (hwd).c.c.c | exact (hwd).c.c.c.c) hS) (by omega) (by omega) ?_; intro b off x hx hb hcell) | (refine wl_idxI (by rfl) (by rfl) (by rfl) (by rfl) (Src.sl (by first | exact hwd | exact (hwd).c | exact (hwd).c.c | exact (hwd).c.c.c | exact (hwd).c.c.c.c) hS) (by omega) (by omega) ?_; intro b off x hx hcell) | (refine wl_idxU (by rfl) (by rfl) (by rfl) (by rfl) (Src.sl (by first | exact hwd | exact (hwd).c | exact (hwd).c.c | exact (hwd).c.c.c | exact (hwd).c.c.c.c) hS) (by omega) (by omega) ?_; intro b off x hx hb hcell)) | ((with_reducible refine g_lit ?_); refine L_push hS (by rfl) (fun _ => by rfl) (fun _ => (by conv => lhs; whnf)) (of_decide_eq_true (by rfl)) (by with_reducible first | exact at0 | exact at1 | exact at2 | exact at3 | exact at4 | exact at5 | exact at6 | exact at7 | exact at8 | exact at9 | exact at10 | exact at11 | exact at12) (by rfl) (by rfl) (by decide) (by decide) (fun _ _ _ => by rfl) (by (try simp); omega) ?_; clear hS; intro A A1 c w' hS; (try simp only [List.set_cons_zero, List.set_cons_succ] at hS)))
      go_roundw
      case rel =>
        refine Lib.hid ⟨j + 1, by omega, by go_num, ?_⟩
        have e : (ws.take (j + 1)).map toI = (ws.take j).map toI ++ [wrap64 (x.toNat : Int)] := by
          have hx : ws[j]? = some x := hx
          rw [List.take_add_one, hx]; simp [toI]
        rw [e]
        simpa [Nat.min_eq_left hj] using hS
      case measure => simp [intOf]; omega
    · obtain rfl : j = ws.length := by omega
      rw [List.take_length] at hS
      clear hj
      go_wp2_with (go_at_call 17; (with_reducible refine stop_op ?_))
      refine (hBytes_x hy.out hS (by omega) sn (by omega)).mono ?_; clear hS; rintro _ w' ⟨rfl, hS⟩
      go_wp2_with (first | ((with_reducible refine g_lit ?_); refine L_push hS (by rfl) (fun _ => by rfl) (fun _ => (by conv => lhs; whnf)) (of_decide_eq_true (by rfl)) (by with_reducible first | exact at0 | exact at1 | exact at2 | exact at3 | exact at4 | exact at5 | exact at6 | exact at7 | exact at8 | exact at9 | exact at10 | exact at11 | exact at12) (by rfl) (by rfl) (by decide) (by decide) (fun _ _ _ => by rfl) (by (try simp); omega) ?_; clear hS; intro A A1 c w' hS; (try simp only [List.set_cons_zero, List.set_cons_succ] at hS)) | (go_at_call 13; (with_reducible refine stop_op ?_)))
      replace hS : St W0 w' (own 3 eI (.slice A (ws.length + 1) c) (ws.map toI ++ [(n.length : Int)]) :: own 25 eU (.slice B2 ws.length c2) ws :: own 5 eB (.slice An n.length cn) n :: L) := by simpa using hS
      refine (hSum_x hy2.out hS (by omega) Src.head (by simp; omega)).mono ?_; clear hS; rintro _ w' ⟨rfl, hS⟩
      by_cases h8 : (n.length : Int).tmod 8 = 0
      all_goals
        go_wp2_with (go_at_call 16; (with_reducible refine stop_op ?_))
        refine (own_form (Few_src hS sn (by omega) _ (by omega))).mono ?_; clear hS; rintro _ w' ⟨A3, c3, rfl, hS⟩
        go_wp2_with (first | ((with_reducible refine g_lit ?_); refine L_push (el := (0 : UInt8)) hS (by rfl) (fun _ => by rfl) (fun _ => (by conv => lhs; whnf)) (of_decide_eq_true (by rfl)) (by with_reducible first | exact at0 | exact at1 | exact at2 | exact at3 | exact at4 | exact at5 | exact at6 | exact at7 | exact at8 | exact at9 | exact at10 | exact at11 | exact at12) (by rfl) (by rfl) (by decide) (by decide) (fun _ _ _ => by rfl) (by (try simp); omega) ?_; clear hS; intro A A1 c w' hS; (try simp only [List.set_cons_zero, List.set_cons_succ] at hS)) | (go_at_call 17; (with_reducible refine stop_op ?_)) | (go_at_call 15; (with_reducible refine stop_op ?_)))
      · refine (lives_any hS).mono ?_; clear hS; rintro _ w' ⟨rfl, hS⟩
        go_wp2
        go_ret
        exact ⟨congrArg Ending.returned (by (conv => lhs; whnf); try rfl), hS.drop.drop.drop.drop⟩
      · have hz2 : ((z.toNat : Int) == (y.toNat : Int)) = false := beq_f (hzy.out (by omega))
        have hz3 : ((z.toNat : Int) != (y.toNat : Int)) = true := by unfold bne; rw [hz2]; rfl
        have sn2 : ∀ {A B C : HP} {L}, Src (A :: B :: C :: own 5 eB (.slice An n.length cn) n :: L) eB (.slice An n.length cn) n := Src.head.c.c.c
        refine (hBytes_x hz.out hS (by omega) Src.head (by simp; omega)).mono ?_; clear hS; rintro _ w' ⟨rfl, hS⟩
        go_wp2_with (go_at_call 17; (with_reducible refine stop_op ?_))
        refine (hBytes_x hy.out hS (by omega) sn2 (by omega)).mono ?_; clear hS; rintro _ w' ⟨rfl, hS⟩
        go_wp2_with (go_at_call 15; (with_reducible refine stop_op ?_))
        refine (lives_any hS).mono ?_; clear hS; rintro _ w' ⟨rfl, hS⟩
        go_wp2
        go_ret
        exact ⟨congrArg Ending.returned (by (conv => lhs; whnf); try rfl), hS.drop.drop.drop.drop⟩
end Go.Proofs.Ytfgipcekegjalaa
