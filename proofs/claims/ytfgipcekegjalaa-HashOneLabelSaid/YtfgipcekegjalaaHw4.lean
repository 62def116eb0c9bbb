/-
  Walks of the program's hash: the iterators over words.
-/
import Derived.Test.YtfgipcekegjalaaHw3
import Derived.Deep.Cut
namespace Go.Proofs.Ytfgipcekegjalaa
open Go Go.RowKit
set_option linter.unusedVariables false
set_option linter.unusedSimpArgs false
theorem Src.mono {α : Type} {R : Enc α} {v : Value} {l : List α} {L L' : List HP} (h : Src L R v l) (f : ∀ x ∈ L, x ∈ L') : Src L' R v l := by
  rcases h with h | ⟨t, h⟩
  · exact .inl (f _ h)
  · exact .inr ⟨t, f _ h⟩
theorem Src.one {α : Type} {R : Enc α} {v : Value} {l : List α} {L : List HP} (h : Src L R v l) : ∃ A ∈ L, Src [A] R v l := by
  rcases h with h | ⟨t, h⟩
  · exact ⟨_, h, .inl List.mem_cons_self⟩
  · exact ⟨_, h, .inr ⟨t, List.mem_cons_self⟩⟩
theorem results_none {fn : Func} (h : fn.results = #[]) (tmps : Array Value) (P : Program) (w : World) : (results fn tmps).run P w = .ok (.tuple #[]) w := by
  simp [results, h]
set_option maxRecDepth 8000 in
set_option maxHeartbeats 1000000 in
theorem wordsS_gives {s : ByteArray} {bs : List UInt8} (hbs : s.data.toList = bs) (hs : bs.length ≤ 100000000000000) (b : Nat) :
    Gives Try.prog 29 #[.pointer (some ⟨b, 0, none⟩)] (fun x => #[uv x]) (wordsOf bs) [cel b [.string s] 9] := by
  intro y W0 w J hround hS
  have hsl : bs.length = s.size := by rw [← hbs]; rfl
  go_enter Try.func29, Try.ntmps29
  go_wp2
  go_loopw [3] (fun i wr => Hid (∃ j : Nat, 8 * j ≤ bs.length + 7 ∧ i = .int .i64 ((8 * j : Nat) : Int) ∧ St W0 wr (J ((wordsOf bs).take j) ++ [cel b [.string s] 9]))) (fun i _ => bs.length + 8 - (intOf i).toNat)
  case atStart => exact Lib.hid ⟨0, by omega, rfl, hS⟩
  case round =>
    clear hS w
    obtain ⟨j, hj, rfl, hS⟩ := hrel.out
    have hm := List.mem_append_right (J ((wordsOf bs).take j)) (List.Mem.head (a := cel b [.string s] 9) [])
    by_cases hlt : 8 * j < s.size
    · obtain ⟨m, hm1⟩ : ∃ m, m = min 8 (s.size - 8 * j) := ⟨_, rfl⟩
      have hm2 : 1 ≤ m ∧ m ≤ 8 ∧ 8 * j + m ≤ s.size ∧ (m = 8 ∨ 8 * j + m = s.size) := by omega
      clear hm1
      obtain ⟨hm1, hm2, hm3, hm4⟩ := hm2
      have hltb : decide (8 * (j : Int) < (s.size : Int)) = true := by simp; omega
      by_cases h8 : 8 * j + 8 ≤ s.size
      all_goals
        go_wp2_with ((with_reducible refine g_load ?_); refine wl_load hS (by rfl) (by rfl) (by rfl) hm (by rfl) ?_)
        go_loop [4, 5] (fun x k => Hid (∃ q : Nat, q ≤ m ∧ k = .int .i64 ((8 * j + q : Nat) : Int) ∧ x = uv (leW ((bs.drop (8 * j)).take q)))) (fun _ k => (8 * j + m - intOf k).toNat)
        case atStart => exact Lib.hid ⟨0, by omega, by go_num, rfl⟩
        case round =>
          obtain ⟨q, hq, rfl, rfl⟩ := hrel.out
          by_cases hq0 : q < m
          · go_wp2_with ((with_reducible refine g_load ?_); refine wl_load hS (by rfl) (by rfl) (by rfl) hm (by rfl) ?_)
            go_round
            case rel =>
              refine Lib.hid ⟨q + 1, by omega, by go_num, ?_⟩
              have hx : (bs.drop (8 * j))[q]? = some (s[8 * j + q]'(by omega)) := by
                rw [List.getElem?_drop, ← hbs, Array.getElem?_toList]
                exact Array.getElem?_eq_getElem (xs := s.data) (i := 8 * j + q) (by show 8 * j + q < s.size; omega)
              first | with_reducible exact leW_or hx (by omega) | with_reducible exact leW_or2 hx (by omega)
            case measure => simp [intOf]; omega
          · obtain rfl : q = m := by omega
            go_upto_region 8 with ((with_reducible refine g_load ?_); refine wl_load hS (by rfl) (by rfl) (by rfl) hm (by rfl) ?_)
            have hpart := words_part (bs := bs) (j := j) (by omega)
            refine wp_yield1 (l := y) (v := uv (wordAt bs j)) rfl (congrArg uv (word_whole (by omega) (by omega))) (of_decide_eq_true (by rfl)) (hround _ _ _ _ hpart.1 hS) (fun _ _ h => h.1) ?_
            clear hS
            intro w' ⟨_, hS⟩
            rw [← hpart.2] at hS
            clear hpart hm
            go_wp2
            go_roundw
            case rel =>
              refine Lib.hid ⟨j + 1, by omega, by go_num, hS⟩
            case measure => simp [intOf]; omega
    · go_wp2_with ((with_reducible refine g_load ?_); refine wl_load hS (by rfl) (by rfl) (by rfl) hm (by rfl) ?_)
      rw [words_all (by omega)] at hS
      exact bodyPost_end (results_none rfl _ _ _) rfl ⟨⟨_, rfl⟩, hS⟩
set_option maxRecDepth 8000 in
set_option maxHeartbeats 1000000 in
theorem wordsB_gives {v : Value} {bs : List UInt8} {A0 : HP} (hA : Src [A0] eB v bs) (hs : bs.length ≤ 100000000000000) (b : Nat) :
    Gives Try.prog 30 #[.pointer (some ⟨b, 0, none⟩)] (fun x => #[uv x]) (wordsOf bs) [cel b [v] 30, A0] := by
  intro y W0 w J hround hS
  obtain ⟨A, cap, rfl, hcap⟩ := ((hA.mono fun x hx => List.mem_append_right (J []) (List.mem_cons_of_mem _ hx) : Src (J [] ++ [cel b [v] 30, A0]) eB v bs).sl hS).form
  go_enter Try.func30, Try.ntmps30
  go_wp2
  go_loopw [3] (fun i wr => Hid (∃ j : Nat, 8 * j ≤ bs.length + 7 ∧ i = .int .i64 ((8 * j : Nat) : Int) ∧ St W0 wr (J ((wordsOf bs).take j) ++ [cel b [.slice A bs.length cap] 30, A0]))) (fun i _ => bs.length + 8 - (intOf i).toNat)
  case atStart => exact Lib.hid ⟨0, by omega, rfl, hS⟩
  case round =>
    clear hS w
    obtain ⟨j, hj, rfl, hS⟩ := hrel.out
    have hm := List.mem_append_right (J ((wordsOf bs).take j)) (List.Mem.head (a := cel b [.slice A bs.length cap] 30) [A0])
    have hv : Src (J ((wordsOf bs).take j) ++ [cel b [.slice A bs.length cap] 30, A0]) eB (.slice A bs.length cap) bs := hA.mono fun x hx => List.mem_append_right (J ((wordsOf bs).take j)) (List.mem_cons_of_mem _ hx)
    by_cases hlt : 8 * j < bs.length
    · obtain ⟨m, hm1⟩ : ∃ m, m = min 8 (bs.length - 8 * j) := ⟨_, rfl⟩
      have hm2 : 1 ≤ m ∧ m ≤ 8 ∧ 8 * j + m ≤ bs.length ∧ (m = 8 ∨ 8 * j + m = bs.length) := by omega
      clear hm1
      obtain ⟨hm1, hm2, hm3, hm4⟩ := hm2
      have hltb : decide (8 * (j : Int) < (bs.length : Int)) = true := by simp; omega
      by_cases h8 : 8 * j + 8 ≤ bs.length
      all_goals
        go_wp2_with ((with_reducible refine g_load ?_); refine wl_load hS (by rfl) (by rfl) (by rfl) hm (by rfl) ?_)
        go_loop [4, 5] (fun x k => Hid (∃ q : Nat, q ≤ m ∧ k = .int .i64 ((8 * j + q : Nat) : Int) ∧ x = uv (leW ((bs.drop (8 * j)).take q)))) (fun _ k => (8 * j + m - intOf k).toNat)
        case atStart => exact Lib.hid ⟨0, by omega, by go_num, rfl⟩
        case round =>
          obtain ⟨q, hq, rfl, rfl⟩ := hrel.out
          by_cases hq0 : q < m
          · go_wp2_with (first | ((with_reducible refine g_load ?_); refine wl_load hS (by rfl) (by rfl) (by rfl) hm (by rfl) ?_) | ((with_reducible refine g_idx ?_); first | (refine wl_idxB (by rfl) (by rfl) (by rfl) (by rfl) (Src.sl (by first | exact hv | exact (hv).c | exact (hv).c.c | exact (hv).c.c.c | exact (hv).c.c.c.c) hS) (by omega) (by omega) ?_; intro b off x hx hb hcell) | (refine wl_idxI (by rfl) (by rfl) (by rfl) (by rfl) (Src.sl (by first | exact hv | exact (hv).c | exact (hv).c.c | exact (hv).c.c.c | exact (hv).c.c.c.c) hS) (by omega) (by omega) ?_; intro b off x hx hcell) | (refine wl_idxU (by rfl) (by rfl) (by rfl) (by rfl) (Src.sl (by first | exact hv | exact (hv).c | exact (hv).c.c | exact (hv).c.c.c | exact (hv).c.c.c.c) hS) (by omega) (by omega) ?_; intro b off x hx hb hcell)))
            go_round
            case rel =>
              refine Lib.hid ⟨q + 1, by omega, by go_num, ?_⟩
              have hx : (bs.drop (8 * j))[q]? = some x := by
                rw [List.getElem?_drop]
                first | exact hx | (have e : (8 * (j : Int) + (q : Int)).toNat = 8 * j + q := by omega
                                    rw [e] at hx; exact hx)
              first | with_reducible exact leW_or hx (by omega) | with_reducible exact leW_or2 hx (by omega)
            case measure => simp [intOf]; omega
          · obtain rfl : q = m := by omega
            go_upto_region 8 with ((with_reducible refine g_load ?_); refine wl_load hS (by rfl) (by rfl) (by rfl) hm (by rfl) ?_)
            have hpart := words_part (bs := bs) (j := j) (by omega)
            refine wp_yield1 (l := y) (v := uv (wordAt bs j)) rfl (congrArg uv (word_whole (by omega) (by omega))) (of_decide_eq_true (by rfl)) (hround _ _ _ _ hpart.1 hS) (fun _ _ h => h.1) ?_
            clear hS
            intro w' ⟨_, hS⟩
            rw [← hpart.2] at hS
            clear hpart hm
            go_wp2
            go_roundw
            case rel =>
              refine Lib.hid ⟨j + 1, by omega, by go_num, hS⟩
            case measure => simp [intOf]; omega
    · go_wp2_with ((with_reducible refine g_load ?_); refine wl_load hS (by rfl) (by rfl) (by rfl) hm (by rfl) ?_)
      rw [words_all (by omega)] at hS
      exact bodyPost_end (results_none rfl _ _ _) rfl ⟨⟨_, rfl⟩, hS⟩
end Go.Proofs.Ytfgipcekegjalaa
