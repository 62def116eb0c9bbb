/-
  Walks of package hash and of the reference's small functions.
-/
import Derived.Test.YtfgipcekegjalaaTy
import Derived.Test.YtfgipcekegjalaaHp
import Derived.Outline
import Derived.Lib.Hide
namespace Go.Proofs.Ytfgipcekegjalaa
open Go Go.RowKit
set_option linter.unusedVariables false
set_option linter.unusedSimpArgs false
theorem hmix_any (s x : UInt64) (w : World) : Calls Try.prog 26 #[uv s, uv x] w fun e w' => e = .returned (uv (mix s x)) ∧ w = w' := by
  go_enter Try.func26, Try.ntmps26
  go_wp2
  go_ret
  exact ⟨congrArg _ (mix_walk s x), rfl⟩
theorem rmix_any (s x : UInt64) (w : World) : Calls Try.prog 27 #[uv s, uv x] w fun e w' => e = .returned (uv (mix s x)) ∧ w = w' := by
  go_enter Try.func27, Try.ntmps27
  go_wp2
  go_ret
  exact ⟨congrArg _ (mix_walk2 s x), rfl⟩
set_option maxHeartbeats 1000000 in
theorem Words_any {W0 w : World} {L : List HP} (hS : St W0 w L) {v : Value} {l : List UInt8} (hv : Src L eB v l) (hl : l.length ≤ 140737488355328) :
    Calls Try.prog 23 #[v] w fun e w' => ∃ r, e = .returned r ∧ St W0 w' (own 25 eU r (wordsOf l) :: L) := by
  obtain ⟨A, cap, rfl, hcap⟩ := (hv.sl hS).form
  replace hS := hS.own_nil 25 eU
  go_enter Try.func23, Try.ntmps23
  go_wp2
  go_loopw [3, 4] (fun v i wr => Hid (∃ j : Nat, 8 * j ≤ l.length + 7 ∧ i = .int .i64 ((8 * j : Nat) : Int) ∧ St W0 wr (own 25 eU v ((List.range j).map (wordAt l)) :: L))) (fun _ i _ => l.length + 8 - (intOf i).toNat)
  case atStart => exact Lib.hid ⟨0, by omega, rfl, hS⟩
  case round =>
    clear hS w
    obtain ⟨j, hj, rfl, hS⟩ := hrel.out
    by_cases hlt : 8 * j < l.length
    · obtain ⟨m, hm⟩ : ∃ m, m = min 8 (l.length - 8 * j) := ⟨_, rfl⟩
      have hm1 : 1 ≤ m ∧ m ≤ 8 ∧ 8 * j + m ≤ l.length ∧ (m = 8 ∨ 8 * j + m = l.length) := by omega
      have hmm : min 8 (l.length - 8 * j) = m := hm.symm
      clear hm
      have Hm := Lib.hid hmm
      clear hmm
      obtain ⟨hm2, hm3, hm4, hm5⟩ := hm1
      by_cases h8 : 8 * j + 8 ≤ l.length
      all_goals
        go_wp2
        go_loop [5, 6] (fun x k => Hid (∃ q : Nat, q ≤ m ∧ k = .int .i64 (((8 * j + q : Nat) : Int) - 1) ∧ x = uv (leW ((l.drop (8 * j + q)).take (m - q))))) (fun _ k => (intOf k + 1 - 8 * j).toNat)
        case atStart =>
          refine Lib.hid ⟨m, Nat.le_refl _, ?_, ?_⟩
          · congr 1; omega
          · rw [Nat.sub_self]; rfl
        case round =>
          obtain ⟨q, hq, rfl, rfl⟩ := hrel.out
          by_cases hq0 : 1 ≤ q
          · go_wp2_with ((with_reducible refine g_idx ?_); first | (refine wl_idxB (by rfl) (by rfl) (by rfl) (by rfl) (Src.sl (by first | exact hv | exact (hv).c | exact (hv).c.c | exact (hv).c.c.c | exact (hv).c.c.c.c) hS) (by omega) (by omega) ?_; intro b off x hx hb hcell) | (refine wl_idxI (by rfl) (by rfl) (by rfl) (by rfl) (Src.sl (by first | exact hv | exact (hv).c | exact (hv).c.c | exact (hv).c.c.c | exact (hv).c.c.c.c) hS) (by omega) (by omega) ?_; intro b off x hx hcell) | (refine wl_idxU (by rfl) (by rfl) (by rfl) (by rfl) (Src.sl (by first | exact hv | exact (hv).c | exact (hv).c.c | exact (hv).c.c.c | exact (hv).c.c.c.c) hS) (by omega) (by omega) ?_; intro b off x hx hb hcell))
            go_round
            case rel =>
              have e : (((8 * j + q : Nat) : Int) - 1).toNat = 8 * j + (q - 1) := by omega
              rw [e] at hx
              refine Lib.hid ⟨q - 1, by omega, by congr 1; omega, ?_⟩
              have h1 := leW_snoc_step l _ x (m - q) hx
              have e2 : 8 * j + (q - 1) + 1 = 8 * j + q := by omega
              have e3 : m - q + 1 = m - (q - 1) := by omega
              rw [e2, e3] at h1
              rw [h1]
              first | exact leW_walk _ _ | exact (Value.int.inj (leW_walk _ _)).2
            case measure => simp [intOf]; omega
          · obtain rfl : q = 0 := by omega
            go_wp2_with ((with_reducible refine g_lit ?_); refine L_push hS (by rfl) (fun _ => by rfl) (fun _ => (by conv => lhs; whnf)) (of_decide_eq_true (by rfl)) (by with_reducible first | exact at0 | exact at1 | exact at2 | exact at3 | exact at4 | exact at5 | exact at6 | exact at7 | exact at8 | exact at9 | exact at10 | exact at11 | exact at12) (by rfl) (by rfl) (by decide) (by decide) (fun _ _ _ => by rfl) (by (try simp); omega) ?_; clear hS; intro A A1 c w' hS; (try simp only [List.set_cons_zero, List.set_cons_succ] at hS))
            go_roundw
            case rel =>
              refine Lib.hid ⟨j + 1, by omega, by first | rfl | (congr 1; omega), ?_⟩
              rw [List.range_succ, List.map_append]
              have e : leW (List.take (m - 0) (List.drop (8 * j + 0) l)) = wordAt l j := by
                unfold wordAt
                simp only [Nat.sub_zero, Nat.add_zero]
                rcases hm5 with rfl | h
                · rfl
                · rw [List.take_of_length_le (by simp; omega), List.take_of_length_le (by simp; omega)]
              rw [e] at hS
              simpa using hS
            case measure => simp [intOf]; omega
    · go_wp2_with fail
      go_ret
      refine ⟨_, rfl, ?_⟩
      have e : j = (l.length + 7) / 8 := by omega
      subst e
      exact hS
end Go.Proofs.Ytfgipcekegjalaa
