/-
  The program's hash: its walks, and its contracts. Made of Hw1, Hw3, Hw4, Hw5.
-/
import Derived.Deep.Cut
import Derived.Test.YthbgmnoaaohbcaaMJ
namespace Go.Proofs.Ythbgmnoaaohbcaa
open Go Go.RowKit
set_option linter.unusedVariables false
set_option linter.unusedSimpArgs false
theorem hmix_any (s x : UInt64) (w : World) : Calls Try.prog 74 #[uv s, uv x] w fun e w' => e = .returned (uv (mix s x)) ∧ w = w' := by
  go_enter Try.func74, Try.ntmps74
  go_wp2
  go_ret
  exact ⟨congrArg _ (mix_walk s x), rfl⟩
theorem hmix_i {a b : Int} {s x : UInt64} (ha : a = (s.toNat : Int)) (hb : b = (x.toNat : Int)) (w : World) : Calls Try.prog 74 #[.int .u64 a, .int .u64 b] w fun e w' => e = .returned (uv (mix s x)) ∧ w = w' := by
  subst ha; subst hb; exact hmix_any s x w
theorem own_form {α : Type} {E : TypeId} {R : Enc α} {l : List α} {f : FuncId} {args : Array Value} {W0 w : World} {L : List HP} (h : Calls Try.prog f args w fun e w' => ∃ r, e = .returned r ∧ St W0 w' (own E R r l :: L)) :
    Calls Try.prog f args w fun e w' => ∃ A c, e = .returned (.slice A l.length c) ∧ St W0 w' (own E R (.slice A l.length c) l :: L) :=
  h.mono fun _ _ ⟨_, he, hS⟩ => by
    obtain ⟨A, c, rfl, _⟩ := (hS.rdo (.head _)).form
    exact ⟨A, c, he, hS⟩
theorem Src.head {α : Type} {t : TypeId} {R : Enc α} {v : Value} {l : List α} {L : List HP} : Src (own t R v l :: L) R v l := .inr ⟨_, .head _⟩
theorem fold_snoc {α β : Type} {f : β → α → β} {z : β} {l : List α} {i : Nat} {x : α} (h : l[i]? = some x) : (l.take (i + 1)).foldl f z = f ((l.take i).foldl f z) x := by
  rw [List.take_add_one, h]; simp
theorem Src.mono {α : Type} {R : Enc α} {v : Value} {l : List α} {L L' : List HP} (h : Src L R v l) (f : ∀ x ∈ L, x ∈ L') : Src L' R v l := by
  rcases h with h | ⟨t, h⟩
  · exact .inl (f _ h)
  · exact .inr ⟨t, f _ h⟩
theorem Src.one {α : Type} {R : Enc α} {v : Value} {l : List α} {L : List HP} (h : Src L R v l) : ∃ A ∈ L, Src [A] R v l := by
  rcases h with h | ⟨t, h⟩
  · exact ⟨_, h, .inl List.mem_cons_self⟩
  · exact ⟨_, h, .inr ⟨t, List.mem_cons_self⟩⟩
theorem results_none {fn : Func} (h : fn.results = #[]) (tmps : Array Value) (P : Program) (w : World) : (results fn tmps).run P w = .ok (.tuple #[]) w := by
  simp [results, h]
set_option maxRecDepth 8000 in
set_option maxHeartbeats 1000000 in
theorem wordsS_gives {s : ByteArray} {bs : List UInt8} (hbs : s.data.toList = bs) (hs : bs.length ≤ 100000000000000) (b : Nat) :
    Gives Try.prog 77 #[.pointer (some ⟨b, 0, none⟩)] (fun x => #[uv x]) (wordsOf bs) [cel b [.string s] 9] := by
  intro y W0 w J hround hS
  have hsl : bs.length = s.size := by rw [← hbs]; rfl
  go_enter Try.func77, Try.ntmps77
  go_wp2
  go_loopw [3] (fun i wr => Hid (∃ j : Nat, 8 * j ≤ bs.length + 7 ∧ i = .int .i64 ((8 * j : Nat) : Int) ∧ St W0 wr (J ((wordsOf bs).take j) ++ [cel b [.string s] 9]))) (fun i _ => bs.length + 8 - (intOf i).toNat)
  case atStart => exact Lib.hid ⟨0, by omega, rfl, hS⟩
  case round =>
    clear hS w
    obtain ⟨j, hj, rfl, hS⟩ := hrel.out
    have hm := List.mem_append_right (J ((wordsOf bs).take j)) (List.Mem.head (a := cel b [.string s] 9) [])
    by_cases hlt : 8 * j < s.size
    · obtain ⟨m, hm1⟩ : ∃ m, m = min 8 (s.size - 8 * j) := ⟨_, rfl⟩
      have hm2 : 1 ≤ m ∧ m ≤ 8 ∧ 8 * j + m ≤ s.size ∧ (m = 8 ∨ 8 * j + m = s.size) := by omega
      clear hm1
      obtain ⟨hm1, hm2, hm3, hm4⟩ := hm2
      have hltb : decide (8 * (j : Int) < (s.size : Int)) = true := by simp; omega
      by_cases h8 : 8 * j + 8 ≤ s.size
      all_goals
        go_wp2_with ((with_reducible refine g_load ?_); refine wl_load hS (by rfl) (by rfl) (by rfl) hm (by rfl) ?_)
        go_loop [4, 5] (fun x k => Hid (∃ q : Nat, q ≤ m ∧ k = .int .i64 ((8 * j + q : Nat) : Int) ∧ x = uv (leW ((bs.drop (8 * j)).take q)))) (fun _ k => (8 * j + m - intOf k).toNat)
        case atStart => exact Lib.hid ⟨0, by omega, by go_num, rfl⟩
        case round =>
          obtain ⟨q, hq, rfl, rfl⟩ := hrel.out
          by_cases hq0 : q < m
          · go_wp2_with ((with_reducible refine g_load ?_); refine wl_load hS (by rfl) (by rfl) (by rfl) hm (by rfl) ?_)
            go_round
            case rel =>
              refine Lib.hid ⟨q + 1, by omega, by go_num, ?_⟩
              have hx : (bs.drop (8 * j))[q]? = some (s[8 * j + q]'(by omega)) := by
                rw [List.getElem?_drop, ← hbs, Array.getElem?_toList]
                exact Array.getElem?_eq_getElem (xs := s.data) (i := 8 * j + q) (by show 8 * j + q < s.size; omega)
              first | with_reducible exact leW_or hx (by omega) | with_reducible exact leW_or2 hx (by omega)
            case measure => simp [intOf]; omega
          · obtain rfl : q = m := by omega
            go_upto_region 8 with ((with_reducible refine g_load ?_); refine wl_load hS (by rfl) (by rfl) (by rfl) hm (by rfl) ?_)
            have hpart := words_part (bs := bs) (j := j) (by omega)
            refine wp_yield1 (l := y) (v := uv (wordAt bs j)) rfl (congrArg uv (word_whole (by omega) (by omega))) (of_decide_eq_true (by rfl)) (hround _ _ _ _ hpart.1 hS) (fun _ _ h => h.1) ?_
            clear hS
            intro w' ⟨_, hS⟩
            rw [← hpart.2] at hS
            clear hpart hm
            go_wp2
            go_roundw
            case rel =>
              refine Lib.hid ⟨j + 1, by omega, by go_num, hS⟩
            case measure => simp [intOf]; omega
    · go_wp2_with ((with_reducible refine g_load ?_); refine wl_load hS (by rfl) (by rfl) (by rfl) hm (by rfl) ?_)
      rw [words_all (by omega)] at hS
      exact bodyPost_end (results_none rfl _ _ _) rfl ⟨⟨_, rfl⟩, hS⟩
set_option maxRecDepth 8000 in
set_option maxHeartbeats 1000000 in
theorem wordsB_gives {v : Value} {bs : List UInt8} {A0 : HP} (hA : Src [A0] eB v bs) (hs : bs.length ≤ 100000000000000) (b : Nat) :
    Gives Try.prog 72 #[.pointer (some ⟨b, 0, none⟩)] (fun x => #[uv x]) (wordsOf bs) [cel b [v] 31, A0] := by
  intro y W0 w J hround hS
  obtain ⟨A, cap, rfl, hcap⟩ := ((hA.mono fun x hx => List.mem_append_right (J []) (List.mem_cons_of_mem _ hx) : Src (J [] ++ [cel b [v] 31, A0]) eB v bs).sl hS).form
  go_enter Try.func72, Try.ntmps72
  go_wp2
  go_loopw [3] (fun i wr => Hid (∃ j : Nat, 8 * j ≤ bs.length + 7 ∧ i = .int .i64 ((8 * j : Nat) : Int) ∧ St W0 wr (J ((wordsOf bs).take j) ++ [cel b [.slice A bs.length cap] 31, A0]))) (fun i _ => bs.length + 8 - (intOf i).toNat)
  case atStart => exact Lib.hid ⟨0, by omega, rfl, hS⟩
  case round =>
    clear hS w
    obtain ⟨j, hj, rfl, hS⟩ := hrel.out
    have hm := List.mem_append_right (J ((wordsOf bs).take j)) (List.Mem.head (a := cel b [.slice A bs.length cap] 31) [A0])
    have hv : Src (J ((wordsOf bs).take j) ++ [cel b [.slice A bs.length cap] 31, A0]) eB (.slice A bs.length cap) bs := hA.mono fun x hx => List.mem_append_right (J ((wordsOf bs).take j)) (List.mem_cons_of_mem _ hx)
    by_cases hlt : 8 * j < bs.length
    · obtain ⟨m, hm1⟩ : ∃ m, m = min 8 (bs.length - 8 * j) := ⟨_, rfl⟩
      have hm2 : 1 ≤ m ∧ m ≤ 8 ∧ 8 * j + m ≤ bs.length ∧ (m = 8 ∨ 8 * j + m = bs.length) := by omega
      clear hm1
      obtain ⟨hm1, hm2, hm3, hm4⟩ := hm2
      have hltb : decide (8 * (j : Int) < (bs.length : Int)) = true := by simp; omega
      by_cases h8 : 8 * j + 8 ≤ bs.length
      all_goals
        go_wp2_with ((with_reducible refine g_load ?_); refine wl_load hS (by rfl) (by rfl) (by rfl) hm (by rfl) ?_)
        go_loop [4, 5] (fun x k => Hid (∃ q : Nat, q ≤ m ∧ k = .int .i64 ((8 * j + q : Nat) : Int) ∧ x = uv (leW ((bs.drop (8 * j)).take q)))) (fun _ k => (8 * j + m - intOf k).toNat)
        case atStart => exact Lib.hid ⟨0, by omega, by go_num, rfl⟩
        case round =>
          obtain ⟨q, hq, rfl, rfl⟩ := hrel.out
          by_cases hq0 : q < m
          · go_wp2_with (first | ((with_reducible refine g_load ?_); refine wl_load hS (by rfl) (by rfl) (by rfl) hm (by rfl) ?_) | ((with_reducible refine g_idx ?_); first | (refine wl_idxB (by rfl) (by rfl) (by rfl) (by rfl) (Src.sl (by first | exact hv | exact (hv).c | exact (hv).c.c | exact (hv).c.c.c | exact (hv).c.c.c.c) hS) (by omega) (by omega) ?_; intro b off x hx hb hcell) | (refine wl_idxI (by rfl) (by rfl) (by rfl) (by rfl) (Src.sl (by first | exact hv | exact (hv).c | exact (hv).c.c | exact (hv).c.c.c | exact (hv).c.c.c.c) hS) (by omega) (by omega) ?_; intro b off x hx hcell) | (refine wl_idxU (by rfl) (by rfl) (by rfl) (by rfl) (Src.sl (by first | exact hv | exact (hv).c | exact (hv).c.c | exact (hv).c.c.c | exact (hv).c.c.c.c) hS) (by omega) (by omega) ?_; intro b off x hx hb hcell)))
            go_round
            case rel =>
              refine Lib.hid ⟨q + 1, by omega, by go_num, ?_⟩
              have hx : (bs.drop (8 * j))[q]? = some x := by
                rw [List.getElem?_drop]
                first | exact hx | (have e : (8 * (j : Int) + (q : Int)).toNat = 8 * j + q := by omega
                                    rw [e] at hx; exact hx)
              first | with_reducible exact leW_or hx (by omega) | with_reducible exact leW_or2 hx (by omega)
            case measure => simp [intOf]; omega
          · obtain rfl : q = m := by omega
            go_upto_region 8 with ((with_reducible refine g_load ?_); refine wl_load hS (by rfl) (by rfl) (by rfl) hm (by rfl) ?_)
            have hpart := words_part (bs := bs) (j := j) (by omega)
            refine wp_yield1 (l := y) (v := uv (wordAt bs j)) rfl (congrArg uv (word_whole (by omega) (by omega))) (of_decide_eq_true (by rfl)) (hround _ _ _ _ hpart.1 hS) (fun _ _ h => h.1) ?_
            clear hS
            intro w' ⟨_, hS⟩
            rw [← hpart.2] at hS
            clear hpart hm
            go_wp2
            go_roundw
            case rel =>
              refine Lib.hid ⟨j + 1, by omega, by go_num, hS⟩
            case measure => simp [intOf]; omega
    · go_wp2_with ((with_reducible refine g_load ?_); refine wl_load hS (by rfl) (by rfl) (by rfl) hm (by rfl) ?_)
      rw [words_all (by omega)] at hS
      exact bodyPost_end (results_none rfl _ _ _) rfl ⟨⟨_, rfl⟩, hS⟩
theorem St.rot {A : HP} {W0 w : World} {L : List HP} (hS : St W0 w (A :: L)) : St W0 w (L ++ [A]) := hS.perm (List.perm_append_singleton A L).symm
theorem St.unrot {A : HP} {W0 w : World} {L : List HP} (hS : St W0 w (L ++ [A])) : St W0 w (A :: L) := hS.perm (List.perm_append_singleton A L)
theorem St.unrot2 {A B C : HP} {W0 w : World} {L : List HP} (hS : St W0 w (A :: B :: (L ++ [C]))) : St W0 w (A :: B :: L) := (hS.perm (by simpa using List.perm_append_singleton C (A :: B :: L))).drop
theorem wordsS_any {W0 w : World} {L : List HP} (hS : St W0 w L) (s : ByteArray) :
    Calls Try.prog 73 #[.string s] w fun e w' => ∃ b, e = .returned (.func (.func 77) #[] #[.pointer (some ⟨b, 0, none⟩)]) ∧ St W0 w' (cel b [.string s] 9 :: L) := by
  go_enter Try.func73, Try.ntmps73
  go_wp2_with ((with_reducible refine g_box ?_); refine wl_box hS (by rfl) (by rfl) ?_; clear hS; intro b w' hS)
  go_ret
  exact ⟨_, rfl, hS⟩
theorem wordsB_any {W0 w : World} {L : List HP} (hS : St W0 w L) {A : Option Addr} {n c : Nat} :
    Calls Try.prog 62 #[.slice A n c] w fun e w' => ∃ b, e = .returned (.func (.func 72) #[] #[.pointer (some ⟨b, 0, none⟩)]) ∧ St W0 w' (cel b [.slice A n c] 31 :: L) := by
  go_enter Try.func62, Try.ntmps62
  go_wp2_with ((with_reducible refine g_box ?_); refine wl_box hS (by rfl) (by rfl) ?_; clear hS; intro b w' hS)
  go_ret
  exact ⟨_, rfl, hS⟩
set_option maxRecDepth 8000 in
set_option maxHeartbeats 1000000 in
theorem hSum_any {W0 w : World} {L : List HP} (hS : St W0 w L) {s : ByteArray} (hs : s.size ≤ 100000000000000) {v : Value} {l : List Int} (hv : Src L eI v l) (hl : l.length ≤ 100000000000000) :
    Calls Try.prog 63 #[.string s, v] w fun e w' => e = .returned (uv (sumW s.data.toList l)) ∧ St W0 w' L := by
  obtain ⟨A, cap, rfl, hcap⟩ := (hv.sl hS).form
  obtain ⟨bs, hbs⟩ : ∃ bs, s.data.toList = bs := ⟨_, rfl⟩
  have hsl : bs.length = s.size := by rw [← hbs]; rfl
  rw [hbs]
  (refine callsIn_wide.1 (callsIn_of_wp_marks (n := 0) Try.func63 rfl trivial (wpIn_wide.2 ?_)); simp only [Try.ntmps63, List.size_toArray, List.length_cons, List.length_nil, Nat.reduceAdd, Nat.reduceSub, Array.replicate_succ, Array.replicate_zero, List.push_toArray, List.append_toArray, List.nil_append, List.cons_append])
  go_wp2_with (first | ((with_reducible refine g_alloc ?_); refine wl_alloc hS (by rfl) (by rfl) ?_; clear hS; intro c w' hS) | ((with_reducible refine g_store ?_); refine wl_store hS (by rfl) (by rfl) (by rfl) (by rfl) (by rfl) (by with_reducible first | exact at0 | exact at1 | exact at2 | exact at3 | exact at4 | exact at5 | exact at6 | exact at7 | exact at8 | exact at9 | exact at10 | exact at11 | exact at12) (of_decide_eq_true (by rfl)) ?_; clear hS; intro w' hS; (try simp only [List.set_cons_zero, List.set_cons_succ] at hS); (try simp only [Act.eval, Act.put, List.setIfInBounds_toArray, List.set_cons_zero, List.set_cons_succ, Array.getD_eq_getD_getElem?, List.getElem?_toArray, List.getElem?_cons_succ, List.getElem?_cons_zero, Option.getD_some] at hS)) | (go_at_call 73; refine (wordsS_any hS s).mono ?_; clear hS; rintro e w' ⟨b, rfl, hS⟩))
  refine wp_range1 (I := fun pre => cel c [uv (pre.foldl mix 0)] 75 :: L) rfl (by first | exact rfl | trivial | (intro a b; rfl)) (wordsS_gives hbs (by omega) b) hS.rot ?_ ?_
  · intro l D rec pre x post hx
    refine ⟨_, fun W K hK => wpIn_assign1 hK, ?_⟩
    clear hS
    intro W hS
    refine wpIn_block (wpIn_region_frl (fun _ _ h => by cases h.1) (noDefer (by rfl)) ?_)
    simp only [List.cons_append] at hS
    simp only [Act.put, Act.eval, List.setIfInBounds_toArray, List.set_cons_zero, List.set_cons_succ, List.getElem?_toArray, List.getElem?_cons_zero, List.getElem?_cons_succ]
    go_wp2_with (first | ((with_reducible refine g_load ?_); refine wl_load hS (by rfl) (by rfl) (by rfl) (by repeat (first | exact .head _ | refine .tail _ ?_)) (by rfl) ?_) | ((with_reducible refine g_store ?_); refine wl_store hS (by rfl) (by rfl) (by rfl) (by rfl) (by rfl) (by with_reducible first | exact at0 | exact at1 | exact at2 | exact at3 | exact at4 | exact at5 | exact at6 | exact at7 | exact at8 | exact at9 | exact at10 | exact at11 | exact at12) (of_decide_eq_true (by rfl)) ?_; clear hS; intro w' hS; (try simp only [List.set_cons_zero, List.set_cons_succ] at hS); (try simp only [Act.eval, Act.put, List.setIfInBounds_toArray, List.set_cons_zero, List.set_cons_succ, Array.getD_eq_getD_getElem?, List.getElem?_toArray, List.getElem?_cons_succ, List.getElem?_cons_zero, Option.getD_some] at hS)) | (go_at_call 74; refine (hmix_any _ _ _).mono ?_; rintro e w' ⟨rfl, rfl⟩))
    exact ⟨by trivial, by simpa using hS⟩
  · clear hS
    intro D W hS
    simp only [List.cons_append] at hS
    replace hS := (hS.at_ (i := 1) (A := cel c [uv ((wordsOf bs).foldl mix 0)] 75) rfl)
    simp only [List.eraseIdx_cons_succ, List.eraseIdx_cons_zero] at hS
    simp only [Exit.inBlock, Exit.then]
    go_wp2_with (first | ((with_reducible refine g_load ?_); refine wl_load hS (by rfl) (by rfl) (by rfl) (by repeat (first | exact .head _ | refine .tail _ ?_)) (by rfl) ?_) | ((with_reducible refine g_store ?_); refine wl_store hS (by rfl) (by rfl) (by rfl) (by rfl) (by rfl) (by with_reducible first | exact at0 | exact at1 | exact at2 | exact at3 | exact at4 | exact at5 | exact at6 | exact at7 | exact at8 | exact at9 | exact at10 | exact at11 | exact at12) (of_decide_eq_true (by rfl)) ?_; clear hS; intro w' hS; (try simp only [List.set_cons_zero, List.set_cons_succ] at hS); (try simp only [Act.eval, Act.put, List.setIfInBounds_toArray, List.set_cons_zero, List.set_cons_succ, Array.getD_eq_getD_getElem?, List.getElem?_toArray, List.getElem?_cons_succ, List.getElem?_cons_zero, Option.getD_some] at hS)) | (go_at_call 74; refine (hmix_i rfl (by first | exact ofIntI _ | exact u64_ofNat _ (by omega)) _).mono ?_; rintro e w' ⟨rfl, rfl⟩))
    obtain ⟨z, hz⟩ : ∃ z, mix (mix ((wordsOf bs).foldl mix 0) (UInt64.ofNat s.size)) (UInt64.ofNat l.length) = z := ⟨_, rfl⟩
    simp only [hz] at hS
    replace hz := Lib.hid hz
    replace hS := hS.unrot2
    go_loopw [26] (fun i wr => Hid (∃ j : Nat, j ≤ l.length ∧ i = .int .i64 (j : Int) ∧ St W0 wr (cel c [uv ((l.take j).foldl mixI z)] 75 :: blk D (.deferred (some [])) :: L))) (fun i _ => l.length - (intOf i).toNat)
    case atStart => exact Lib.hid ⟨0, by omega, rfl, hS⟩
    case round =>
      clear hS
      obtain ⟨j, hj, rfl, hS⟩ := hrel.out
      by_cases hlt : j < l.length
      · go_wp2_with (first | ((with_reducible refine g_idx ?_); first | (refine wl_idxB (by rfl) (by rfl) (by rfl) (by rfl) (Src.sl (by first | exact hv | exact (hv).c | exact (hv).c.c | exact (hv).c.c.c | exact (hv).c.c.c.c) hS) (by omega) (by omega) ?_; intro b off x hx hb hcell) | (refine wl_idxI (by rfl) (by rfl) (by rfl) (by rfl) (Src.sl (by first | exact hv | exact (hv).c | exact (hv).c.c | exact (hv).c.c.c | exact (hv).c.c.c.c) hS) (by omega) (by omega) ?_; intro b off x hx hcell) | (refine wl_idxU (by rfl) (by rfl) (by rfl) (by rfl) (Src.sl (by first | exact hv | exact (hv).c | exact (hv).c.c | exact (hv).c.c.c | exact (hv).c.c.c.c) hS) (by omega) (by omega) ?_; intro b off x hx hb hcell)) | ((with_reducible refine g_load ?_); refine wl_load hS (by rfl) (by rfl) (by rfl) (by repeat (first | exact .head _ | refine .tail _ ?_)) (by rfl) ?_) | ((with_reducible refine g_store ?_); refine wl_store hS (by rfl) (by rfl) (by rfl) (by rfl) (by rfl) (by with_reducible first | exact at0 | exact at1 | exact at2 | exact at3 | exact at4 | exact at5 | exact at6 | exact at7 | exact at8 | exact at9 | exact at10 | exact at11 | exact at12) (of_decide_eq_true (by rfl)) ?_; clear hS; intro w' hS; (try simp only [List.set_cons_zero, List.set_cons_succ] at hS); (try simp only [Act.eval, Act.put, List.setIfInBounds_toArray, List.set_cons_zero, List.set_cons_succ, Array.getD_eq_getD_getElem?, List.getElem?_toArray, List.getElem?_cons_succ, List.getElem?_cons_zero, Option.getD_some] at hS)) | (go_at_call 74; refine (hmix_i rfl (ofIntI _) _).mono ?_; rintro e w' ⟨rfl, rfl⟩))
        go_roundw
        case rel => exact Lib.hid ⟨j + 1, by omega, by go_num, by rw [fold_snoc (i := j) hx]; exact hS⟩
        case measure => simp [intOf]; omega
      · obtain rfl : j = l.length := by omega
        rw [List.take_length] at hS
        go_wp2_with (first | ((with_reducible refine g_load ?_); refine wl_load hS (by rfl) (by rfl) (by rfl) (by repeat (first | exact .head _ | refine .tail _ ?_)) (by rfl) ?_) | (go_at_call 74; refine (hmix_i rfl (show (0 : Int) = ((0 : UInt64).toNat : Int) from rfl) _).mono ?_; rintro e w' ⟨rfl, rfl⟩))
        refine post_marks rfl hS.drop (fun _ => results_tmp rfl _ _ _) (fun w' hS => ⟨?_, hS⟩)
        have e : sumW bs l = mix (l.foldl mixI z) 0 := by unfold sumW; rw [hsl, hz.out]
        refine Eq.trans ?_ (congrArg (fun x => Ending.returned (uv x)) e.symm)
        exact congrArg Ending.returned (by (conv => lhs; whnf); try rfl)
theorem St.sw2 {A B X : HP} {W0 w : World} {L : List HP} (hS : St W0 w (X :: A :: B :: L)) : St W0 w (A :: B :: X :: L) := hS.perm (List.perm_middle (l₁ := [A, B])).symm
theorem St.rot2 {A B : HP} {W0 w : World} {L : List HP} (hS : St W0 w (A :: B :: L)) : St W0 w (L ++ [A, B]) := hS.perm (List.perm_append_comm (l₁ := [A, B]))
theorem St.unrot22 {A B C D : HP} {W0 w : World} {L : List HP} (hS : St W0 w (A :: B :: (L ++ [C, D]))) : St W0 w (A :: B :: D :: L) :=
  (hS.perm (by simpa using (List.perm_append_comm (l₁ := A :: B :: L) (l₂ := [C, D])) : (A :: B :: (L ++ [C, D])).Perm (C :: D :: A :: B :: L))).drop.perm (List.perm_middle (l₁ := [A, B])).symm
def bx (c : Nat) (l : List Int) : HP := ex fun v => sp [cel c [v] 22, own 3 eI v l]
theorem St.bxo {c : Nat} {l : List Int} {W0 w : World} {L : List HP} (hS : St W0 w (bx c l :: L)) : ∃ v, St W0 w (cel c [v] 22 :: own 3 eI v l :: L) := by
  obtain ⟨v, h⟩ := hS.ex_
  exact ⟨v, h.open_⟩
theorem St.bxc {c : Nat} {l : List Int} {v : Value} {W0 w : World} {L : List HP} (hS : St W0 w (cel c [v] 22 :: own 3 eI v l :: L)) : St W0 w (bx c l :: L) :=
  St.mk_ex v (St.close_ (L := [cel c [v] 22, own 3 eI v l]) hS)
set_option maxRecDepth 8000 in
set_option maxHeartbeats 1000000 in
theorem hBytes_any {W0 w : World} {L : List HP} (hS : St W0 w L) {s : ByteArray} (hs : s.size ≤ 100000000000000) {v : Value} {bs : List UInt8} (hv : Src L eB v bs) (hl : bs.length ≤ 10000000000000) :
    Calls Try.prog 41 #[.string s, v] w fun e w' => e = .returned (uv (bytesW s.data.toList bs)) ∧ St W0 w' L := by
  obtain ⟨A0, hA0, hsrc⟩ := hv.one
  obtain ⟨L0, hp⟩ := hS.mem hA0
  suffices hh : Calls Try.prog 41 #[.string s, v] w fun e w' => e = .returned (uv (bytesW s.data.toList bs)) ∧ St W0 w' (A0 :: L0) from hh.mono fun _ _ h => ⟨h.1, h.2.perm hp.symm⟩
  replace hS := hS.perm hp
  clear hp hA0 hv
  have hv : Src (A0 :: L0) eB v bs := hsrc.mono fun x hx => by simp at hx; subst hx; exact List.mem_cons_self
  obtain ⟨A, cap, rfl, hcap⟩ := (hv.sl hS).form
  have hwl : (wordsOf bs).length ≤ 10000000000000 := by simp [wordsOf]; omega
  replace hwl := Lib.hid hwl
  (refine callsIn_wide.1 (callsIn_of_wp_marks (n := 0) Try.func41 rfl trivial (wpIn_wide.2 ?_)); simp only [Try.ntmps41, List.size_toArray, List.length_cons, List.length_nil, Nat.reduceAdd, Nat.reduceSub, Array.replicate_succ, Array.replicate_zero, List.push_toArray, List.append_toArray, List.nil_append, List.cons_append])
  go_wp2_with (first | ((with_reducible refine g_alloc ?_); refine wl_alloc hS (by rfl) (by rfl) ?_; clear hS; intro c w' hS) | ((with_reducible refine g_store ?_); refine wl_store hS (by rfl) (by rfl) (by rfl) (by rfl) (by rfl) (by with_reducible first | exact at0 | exact at1 | exact at2 | exact at3 | exact at4 | exact at5 | exact at6 | exact at7 | exact at8 | exact at9 | exact at10 | exact at11 | exact at12) (of_decide_eq_true (by rfl)) ?_; clear hS; intro w' hS; (try simp only [List.set_cons_zero, List.set_cons_succ] at hS); (try simp only [Act.eval, Act.put, List.setIfInBounds_toArray, List.set_cons_zero, List.set_cons_succ, Array.getD_eq_getD_getElem?, List.getElem?_toArray, List.getElem?_cons_succ, List.getElem?_cons_zero, Option.getD_some] at hS)) | (go_at_call 62; refine (wordsB_any hS).mono ?_; clear hS; rintro e w' ⟨b, rfl, hS⟩))
  replace hS : St W0 w' (cel c [.slice none 0 0] 22 :: cel b [.slice A bs.length cap] 31 :: A0 :: L0) := hS.perm (.swap _ _ _)
  replace hS := ((hS.own_nil 3 eI).perm (.swap _ _ _)).bxc
  replace hS := hS.perm ((List.perm_append_comm (l₁ := [cel b [.slice A bs.length cap] 31, A0]) (l₂ := L0)).cons (bx c []))
  refine wp_range1 (I := fun pre => bx c (pre.map toI) :: L0) rfl (by first | exact rfl | trivial | (intro a b; rfl)) (wordsB_gives hsrc (by omega) b) hS ?_ ?_
  · intro l D rec pre x post hx
    refine ⟨_, fun W K hK => wpIn_assign1 hK, ?_⟩
    clear hS
    intro W hS
    have hpl : pre.length < (wordsOf bs).length := by rw [hx]; simp
    have hwl := hwl.out
    refine wpIn_block (wpIn_region_frl (fun _ _ h => by cases h.1) (noDefer (by rfl)) ?_)
    simp only [List.cons_append] at hS
    obtain ⟨u, hS⟩ := (hS.at_ (i := 2) rfl).bxo
    simp only [List.eraseIdx_cons_succ, List.eraseIdx_cons_zero] at hS
    go_wp2_with (first | ((with_reducible refine g_load ?_); refine wl_load hS (by rfl) (by rfl) (by rfl) (by repeat (first | exact .head _ | refine .tail _ ?_)) (by rfl) ?_) | ((with_reducible refine g_lit ?_); refine L_push hS (by rfl) (fun _ => by rfl) (fun _ => (by conv => lhs; whnf)) (of_decide_eq_true (by rfl)) (by with_reducible first | exact at0 | exact at1 | exact at2 | exact at3 | exact at4 | exact at5 | exact at6 | exact at7 | exact at8 | exact at9 | exact at10 | exact at11 | exact at12) (by rfl) (by rfl) (by decide) (by decide) (fun _ _ _ => by rfl) (by (try simp); omega) ?_; clear hS; intro A A1 c w' hS; (try simp only [List.set_cons_zero, List.set_cons_succ] at hS)) | ((with_reducible refine g_store ?_); refine wl_store hS (by rfl) (by rfl) (by rfl) (by rfl) (by rfl) (by with_reducible first | exact at0 | exact at1 | exact at2 | exact at3 | exact at4 | exact at5 | exact at6 | exact at7 | exact at8 | exact at9 | exact at10 | exact at11 | exact at12) (of_decide_eq_true (by rfl)) ?_; clear hS; intro w' hS; (try simp only [List.set_cons_zero, List.set_cons_succ] at hS); (try simp only [Act.eval, Act.put, List.setIfInBounds_toArray, List.set_cons_zero, List.set_cons_succ, Array.getD_eq_getD_getElem?, List.getElem?_toArray, List.getElem?_cons_succ, List.getElem?_cons_zero, Option.getD_some] at hS)))
    replace hS := (St.bxc hS).sw2
    have e : (pre ++ [x]).map toI = pre.map toI ++ [toI x] := by simp
    refine ⟨trivial, ?_⟩
    rw [e]
    exact hS
  · clear hS
    intro D W hS
    simp only [List.cons_append] at hS
    simp only [Exit.inBlock, Exit.then]
    have hwl := hwl.out
    replace hS := ((hS.perm (.swap _ _ _)).bxo)
    obtain ⟨u, hS⟩ := hS
    go_wp2_with (first | ((with_reducible refine g_load ?_); refine wl_load hS (by rfl) (by rfl) (by rfl) (by repeat (first | exact .head _ | refine .tail _ ?_)) (by rfl) ?_) | ((with_reducible refine g_lit ?_); refine L_push hS (by rfl) (fun _ => by rfl) (fun _ => (by conv => lhs; whnf)) (of_decide_eq_true (by rfl)) (by with_reducible first | exact at0 | exact at1 | exact at2 | exact at3 | exact at4 | exact at5 | exact at6 | exact at7 | exact at8 | exact at9 | exact at10 | exact at11 | exact at12) (by rfl) (by rfl) (by decide) (by decide) (fun _ _ _ => by rfl) (by (try simp); omega) ?_; clear hS; intro A A1 c w' hS; (try simp only [List.set_cons_zero, List.set_cons_succ] at hS)) | ((with_reducible refine g_store ?_); refine wl_store hS (by rfl) (by rfl) (by rfl) (by rfl) (by rfl) (by with_reducible first | exact at0 | exact at1 | exact at2 | exact at3 | exact at4 | exact at5 | exact at6 | exact at7 | exact at8 | exact at9 | exact at10 | exact at11 | exact at12) (of_decide_eq_true (by rfl)) ?_; clear hS; intro w' hS; (try simp only [List.set_cons_zero, List.set_cons_succ] at hS); (try simp only [Act.eval, Act.put, List.setIfInBounds_toArray, List.set_cons_zero, List.set_cons_succ, Array.getD_eq_getD_getElem?, List.getElem?_toArray, List.getElem?_cons_succ, List.getElem?_cons_zero, Option.getD_some] at hS)))
    have e : bytesW s.data.toList bs = sumW s.data.toList ((wordsOf bs).map toI ++ [(bs.length : Int)]) := rfl
    rw [List.length_map] at hS
    refine (hSum_any (hS.perm (.swap _ _ _)) hs Src.head (by simp; omega)).mono ?_
    clear hS
    rintro _ w' ⟨rfl, hS⟩
    go_wp2
    refine post_marks rfl hS.drop.drop (fun _ => results_tmp rfl _ _ _) (fun w' hS => ⟨?_, (hS.perm List.perm_append_comm).drop⟩)
    refine Eq.trans ?_ (congrArg (fun x => Ending.returned (uv x)) e.symm)
    exact congrArg Ending.returned (by (conv => lhs; whnf); try rfl)
section
variable {W0 : World} {L : List HP}
theorem hSum_ct {s : ByteArray} {v : Value} {l : List Int} {z : UInt64} (hv : Src L eI v l) (hs : s.size ≤ 100000000000000) (hl : l.length ≤ 100000000000000) (hz : sumW s.data.toList l = z) :
    CT Try.prog 63 #[.string s, v] W0 L fun r L' => r = uv z ∧ L' = L :=
  ⟨fun w s' => (hSum_any s' hs hv hl).mono fun e w' ⟨h, hw⟩ => ⟨_, _, h, ⟨by rw [hz], rfl⟩, hw⟩⟩
theorem hBytes_ct {s : ByteArray} {v : Value} {l : List UInt8} {z : UInt64} (hv : Src L eB v l) (hs : s.size ≤ 100000000000000) (hl : l.length ≤ 10000000000000) (hz : bytesW s.data.toList l = z) :
    CT Try.prog 41 #[.string s, v] W0 L fun r L' => r = uv z ∧ L' = L :=
  ⟨fun w s' => (hBytes_any s' hs hv hl).mono fun e w' ⟨h, hw⟩ => ⟨_, _, h, ⟨by rw [hz], rfl⟩, hw⟩⟩
end
end Go.Proofs.Ythbgmnoaaohbcaa
namespace Go.Proofs.Ythbgmnoaaohbcaa
open Go Go.RowKit
set_option linter.unusedVariables false
set_option linter.unusedSimpArgs false
theorem rmix_any (s x : UInt64) (w : World) : Calls Try.prog 76 #[uv s, uv x] w fun e w' => e = .returned (uv (mix s x)) ∧ w = w' := by
  go_enter Try.func76, Try.ntmps76
  go_wp2
  go_ret
  exact ⟨congrArg _ (mix_walk2 s x), rfl⟩
set_option maxHeartbeats 1000000 in
theorem Words_any {W0 w : World} {L : List HP} (hS : St W0 w L) {v : Value} {l : List UInt8} (hv : Src L eB v l) (hl : l.length ≤ 140737488355328) :
    Calls Try.prog 67 #[v] w fun e w' => ∃ r, e = .returned r ∧ St W0 w' (own 75 eU r (wordsOf l) :: L) := by
  obtain ⟨A, cap, rfl, hcap⟩ := (hv.sl hS).form
  replace hS := hS.own_nil 75 eU
  go_enter Try.func67, Try.ntmps67
  go_wp2
  go_loopw [3, 4] (fun v i wr => Hid (∃ j : Nat, 8 * j ≤ l.length + 7 ∧ i = .int .i64 ((8 * j : Nat) : Int) ∧ St W0 wr (own 75 eU v ((List.range j).map (wordAt l)) :: L))) (fun _ i _ => l.length + 8 - (intOf i).toNat)
  case atStart => exact Lib.hid ⟨0, by omega, rfl, hS⟩
  case round =>
    clear hS w
    obtain ⟨j, hj, rfl, hS⟩ := hrel.out
    by_cases hlt : 8 * j < l.length
    · obtain ⟨m, hm⟩ : ∃ m, m = min 8 (l.length - 8 * j) := ⟨_, rfl⟩
      have hm1 : 1 ≤ m ∧ m ≤ 8 ∧ 8 * j + m ≤ l.length ∧ (m = 8 ∨ 8 * j + m = l.length) := by omega
      have hmm : min 8 (l.length - 8 * j) = m := hm.symm
      clear hm
      have Hm := Lib.hid hmm
      clear hmm
      obtain ⟨hm2, hm3, hm4, hm5⟩ := hm1
      by_cases h8 : 8 * j + 8 ≤ l.length
      all_goals
        go_wp2
        go_loop [5, 6] (fun x k => Hid (∃ q : Nat, q ≤ m ∧ k = .int .i64 (((8 * j + q : Nat) : Int) - 1) ∧ x = uv (leW ((l.drop (8 * j + q)).take (m - q))))) (fun _ k => (intOf k + 1 - 8 * j).toNat)
        case atStart =>
          refine Lib.hid ⟨m, Nat.le_refl _, ?_, ?_⟩
          · congr 1; omega
          · rw [Nat.sub_self]; rfl
        case round =>
          obtain ⟨q, hq, rfl, rfl⟩ := hrel.out
          by_cases hq0 : 1 ≤ q
          · go_wp2_with ((with_reducible refine g_idx ?_); first | (refine wl_idxB (by rfl) (by rfl) (by rfl) (by rfl) (Src.sl (by first | exact hv | exact (hv).c | exact (hv).c.c | exact (hv).c.c.c | exact (hv).c.c.c.c) hS) (by omega) (by omega) ?_; intro b off x hx hb hcell) | (refine wl_idxI (by rfl) (by rfl) (by rfl) (by rfl) (Src.sl (by first | exact hv | exact (hv).c | exact (hv).c.c | exact (hv).c.c.c | exact (hv).c.c.c.c) hS) (by omega) (by omega) ?_; intro b off x hx hcell) | (refine wl_idxU (by rfl) (by rfl) (by rfl) (by rfl) (Src.sl (by first | exact hv | exact (hv).c | exact (hv).c.c | exact (hv).c.c.c | exact (hv).c.c.c.c) hS) (by omega) (by omega) ?_; intro b off x hx hb hcell))
            go_round
            case rel =>
              have e : (((8 * j + q : Nat) : Int) - 1).toNat = 8 * j + (q - 1) := by omega
              rw [e] at hx
              refine Lib.hid ⟨q - 1, by omega, by congr 1; omega, ?_⟩
              have h1 := leW_snoc_step l _ x (m - q) hx
              have e2 : 8 * j + (q - 1) + 1 = 8 * j + q := by omega
              have e3 : m - q + 1 = m - (q - 1) := by omega
              rw [e2, e3] at h1
              rw [h1]
              first | exact leW_walk _ _ | exact (Value.int.inj (leW_walk _ _)).2
            case measure => simp [intOf]; omega
          · obtain rfl : q = 0 := by omega
            go_wp2_with ((with_reducible refine g_lit ?_); refine L_push hS (by rfl) (fun _ => by rfl) (fun _ => (by conv => lhs; whnf)) (of_decide_eq_true (by rfl)) (by with_reducible first | exact at0 | exact at1 | exact at2 | exact at3 | exact at4 | exact at5 | exact at6 | exact at7 | exact at8 | exact at9 | exact at10 | exact at11 | exact at12) (by rfl) (by rfl) (by decide) (by decide) (fun _ _ _ => by rfl) (by (try simp); omega) ?_; clear hS; intro A A1 c w' hS; (try simp only [List.set_cons_zero, List.set_cons_succ] at hS))
            go_roundw
            case rel =>
              refine Lib.hid ⟨j + 1, by omega, by first | rfl | (congr 1; omega), ?_⟩
              rw [List.range_succ, List.map_append]
              have e : leW (List.take (m - 0) (List.drop (8 * j + 0) l)) = wordAt l j := by
                unfold wordAt
                simp only [Nat.sub_zero, Nat.add_zero]
                rcases hm5 with rfl | h
                · rfl
                · rw [List.take_of_length_le (by simp; omega), List.take_of_length_le (by simp; omega)]
              rw [e] at hS
              simpa using hS
            case measure => simp [intOf]; omega
    · go_wp2_with fail
      go_ret
      refine ⟨_, rfl, ?_⟩
      have e : j = (l.length + 7) / 8 := by omega
      subst e
      exact hS
theorem rmix_i {a b : Int} {s x : UInt64} (ha : a = (s.toNat : Int)) (hb : b = (x.toNat : Int)) (w : World) : Calls Try.prog 76 #[.int .u64 a, .int .u64 b] w fun e w' => e = .returned (uv (mix s x)) ∧ w = w' := by
  subst ha; subst hb; exact rmix_any s x w
set_option maxRecDepth 8000 in
set_option maxHeartbeats 1000000 in
theorem rSum_any {W0 w : World} {L : List HP} (hS : St W0 w L) {s : ByteArray} (hs : s.size ≤ 100000000000000) {v : Value} {l : List Int} (hv : Src L eI v l) (hl : l.length ≤ 100000000000000) :
    Calls Try.prog 68 #[.string s, v] w fun e w' => e = .returned (uv (sumW s.data.toList l)) ∧ St W0 w' L := by
  obtain ⟨A, cap, rfl, hcap⟩ := (hv.sl hS).form
  obtain ⟨bs, hbs⟩ : ∃ bs, s.data.toList = bs := ⟨_, rfl⟩
  have hsl : bs.length = s.size := by rw [← hbs]; rfl
  rw [hbs]
  go_enter Try.func68, Try.ntmps68
  go_wp2_with ((with_reducible refine g_conv ?_); (with_reducible refine stop_op ?_))
  refine (?_ : wpList _ _ _ _ _ _)
  refine wl_bytes hS rfl (by rfl) (by rfl) ?_
  clear hS
  intro B c w' hS
  rw [hbs] at hS
  clear hbs
  go_wp2_with (go_at_call 67; refine (own_form (Words_any hS (.inl (.head _)) (by omega))).mono ?_; clear hS; rintro e w' ⟨B2, c2, rfl, hS⟩)
  obtain ⟨ws, hws⟩ : ∃ ws, wordsOf bs = ws := ⟨_, rfl⟩
  have hwl : ws.length ≤ 100000000000000 := by rw [← hws]; simp [wordsOf]; omega
  simp only [hws] at hS ⊢
  have hws := Lib.hid hws
  have hwd := Src.head (L := rd eB (.slice B s.size c) bs :: L) (t := 75) (R := eU) (v := .slice B2 ws.length c2) (l := ws)
  go_loop [5, 7] (fun v i => Hid (∃ j : Nat, j ≤ ws.length ∧ i = .int .i64 (j : Int) ∧ v = uv ((ws.take j).foldl mix 0))) (fun _ i => ws.length - (intOf i).toNat)
  case atStart => exact Lib.hid ⟨0, by omega, rfl, rfl⟩
  case round =>
    obtain ⟨j, hj, rfl, rfl⟩ := hrel.out
    by_cases hlt : j < ws.length
    · go_wp2_with ((with_reducible refine g_idx ?_); first | (refine wl_idxB (by rfl) (by rfl) (by rfl) (by rfl) (Src.sl (by first | exact hwd | exact (hwd).c | exact (hwd).c.c | exact (hwd).c.c.c | exact (hwd).c.c.c.c) hS) (by omega) (by omega) ?_; intro b off x hx hb hcell) | (refine wl_idxI (by rfl) (by rfl) (by rfl) (by rfl) (Src.sl (by first | exact hwd | exact (hwd).c | exact (hwd).c.c | exact (hwd).c.c.c | exact (hwd).c.c.c.c) hS) (by omega) (by omega) ?_; intro b off x hx hcell) | (refine wl_idxU (by rfl) (by rfl) (by rfl) (by rfl) (Src.sl (by first | exact hwd | exact (hwd).c | exact (hwd).c.c | exact (hwd).c.c.c | exact (hwd).c.c.c.c) hS) (by omega) (by omega) ?_; intro b off x hx hb hcell))
      go_wp2_with (go_at_call 76; refine (rmix_i rfl rfl _).mono ?_; rintro e w' ⟨rfl, rfl⟩)
      go_round
      case rel => exact Lib.hid ⟨j + 1, by omega, by go_num, (by rw [fold_snoc (i := j) hx]; try rfl)⟩
      case measure => simp [intOf]; omega
    · obtain rfl : j = ws.length := by omega
      rw [List.take_length]
      go_wp2_with (go_at_call 76; refine (rmix_i rfl (by first | exact ofIntI _ | exact u64_ofNat _ (by omega)) _).mono ?_; rintro e w' ⟨rfl, rfl⟩)
      obtain ⟨z, hz⟩ : ∃ z, mix (mix (ws.foldl mix 0) (UInt64.ofNat s.size)) (UInt64.ofNat l.length) = z := ⟨_, rfl⟩
      rw [hz]
      have hz := Lib.hid hz
      go_loop [5, 8] (fun v i => Hid (∃ j : Nat, j ≤ l.length ∧ i = .int .i64 (j : Int) ∧ v = uv ((l.take j).foldl mixI z))) (fun _ i => l.length - (intOf i).toNat)
      case atStart => exact Lib.hid ⟨0, by omega, rfl, rfl⟩
      case round =>
        obtain ⟨j, hj, rfl, rfl⟩ := hrel.out
        by_cases hlt : j < l.length
        · go_wp2_with ((with_reducible refine g_idx ?_); first | (refine wl_idxB (by rfl) (by rfl) (by rfl) (by rfl) (Src.sl (by first | exact hv | exact (hv).c | exact (hv).c.c | exact (hv).c.c.c | exact (hv).c.c.c.c) hS) (by omega) (by omega) ?_; intro b off x hx hb hcell) | (refine wl_idxI (by rfl) (by rfl) (by rfl) (by rfl) (Src.sl (by first | exact hv | exact (hv).c | exact (hv).c.c | exact (hv).c.c.c | exact (hv).c.c.c.c) hS) (by omega) (by omega) ?_; intro b off x hx hcell) | (refine wl_idxU (by rfl) (by rfl) (by rfl) (by rfl) (Src.sl (by first | exact hv | exact (hv).c | exact (hv).c.c | exact (hv).c.c.c | exact (hv).c.c.c.c) hS) (by omega) (by omega) ?_; intro b off x hx hb hcell))
          go_wp2_with (go_at_call 76; refine (rmix_i rfl (ofIntI _) _).mono ?_; rintro e w' ⟨rfl, rfl⟩)
          go_round
          case rel => exact Lib.hid ⟨j + 1, by omega, by go_num, (by rw [fold_snoc (i := j) hx]; try rfl)⟩
          case measure => simp [intOf]; omega
        · obtain rfl : j = l.length := by omega
          rw [List.take_length]
          go_wp2_with (go_at_call 76; refine (rmix_i rfl (show (0 : Int) = ((0 : UInt64).toNat : Int) from rfl) _).mono ?_; rintro e w' ⟨rfl, rfl⟩)
          go_ret
          refine ⟨?_, hS.drop.drop⟩
          have e : sumW bs l = mix (l.foldl mixI z) 0 := by unfold sumW; rw [hws.out, hsl, hz.out]
          refine Eq.trans ?_ (congrArg (fun x => Ending.returned (uv x)) e.symm)
          exact congrArg Ending.returned (by conv => lhs; whnf)
set_option maxRecDepth 8000 in
set_option maxHeartbeats 1000000 in
theorem rBytes_any {W0 w : World} {L : List HP} (hS : St W0 w L) {s : ByteArray} (hs : s.size ≤ 100000000000000) {v : Value} {l : List UInt8} (hv : Src L eB v l) (hl : l.length ≤ 10000000000000) :
    Calls Try.prog 53 #[.string s, v] w fun e w' => e = .returned (uv (bytesW s.data.toList l)) ∧ St W0 w' L := by
  obtain ⟨A, cap, rfl, hcap⟩ := (hv.sl hS).form
  obtain ⟨bs, hbs⟩ : ∃ bs, s.data.toList = bs := ⟨_, rfl⟩
  rw [hbs]
  go_enter Try.func53, Try.ntmps53
  go_wp2_with (go_at_call 67; refine (own_form (Words_any hS hv (by omega))).mono ?_; clear hS; rintro e w' ⟨B2, c2, rfl, hS⟩)
  obtain ⟨ws, hws⟩ : ∃ ws, wordsOf l = ws := ⟨_, rfl⟩
  have hwl : ws.length ≤ 10000000000000 := by rw [← hws]; simp [wordsOf]; omega
  simp only [hws] at hS ⊢
  have hws := Lib.hid hws
  have hwd := (Src.head (L := L) (t := 75) (R := eU) (v := .slice B2 ws.length c2) (l := ws)).c (A := own 3 eI (.slice none 0 0) [])
  replace hS := hS.own_nil 3 eI
  go_loopw [6, 7] (fun v i wr => Hid (∃ j : Nat, j ≤ ws.length ∧ i = .int .i64 (j : Int) ∧ St W0 wr (own 3 eI v ((ws.take j).map toI) :: own 75 eU (.slice B2 ws.length c2) ws :: L))) (fun _ i _ => ws.length - (intOf i).toNat)
  case atStart => exact Lib.hid ⟨0, by omega, rfl, hS⟩
  case round =>
    clear hS
    obtain ⟨j, hj, rfl, hS⟩ := hrel.out
    have hwd := (Src.head (L := L) (t := 75) (R := eU) (v := .slice B2 ws.length c2) (l := ws)).c (A := own 3 eI u6 ((ws.take j).map toI))
    by_cases hlt : j < ws.length
    · go_wp2_with (first | ((with_reducible refine g_idx ?_); first | (refine wl_idxB (by rfl) (by rfl) (by rfl) (by rfl) (Src.sl (by first | exact hwd | exact (hwd).c | exact (hwd).c.c | exact (hwd).c.c.c | exact (hwd).c.c.c.c) hS) (by omega) (by omega) ?_; intro b off x hx hb hcell) | (refine wl_idxI (by rfl) (by rfl) (by rfl) (by rfl) (Src.sl (by first | exact hwd | exact (hwd).c | exact (hwd).c.c | exact (hwd).c.c.c | exact (hwd).c.c.c.c) hS) (by omega) (by omega) ?_; intro b off x hx hcell) | (refine wl_idxU (by rfl) (by rfl) (by rfl) (by rfl) (Src.sl (by first | exact hwd | exact (hwd).c | exact (hwd).c.c | exact (hwd).c.c.c | exact (hwd).c.c.c.c) hS) (by omega) (by omega) ?_; intro b off x hx hb hcell)) | ((with_reducible refine g_lit ?_); refine L_push hS (by rfl) (fun _ => by rfl) (fun _ => (by conv => lhs; whnf)) (of_decide_eq_true (by rfl)) (by with_reducible first | exact at0 | exact at1 | exact at2 | exact at3 | exact at4 | exact at5 | exact at6 | exact at7 | exact at8 | exact at9 | exact at10 | exact at11 | exact at12) (by rfl) (by rfl) (by decide) (by decide) (fun _ _ _ => by rfl) (by (try simp); omega) ?_; clear hS; intro A A1 c w' hS; (try simp only [List.set_cons_zero, List.set_cons_succ] at hS)))
      go_roundw
      case rel =>
        refine Lib.hid ⟨j + 1, by omega, by go_num, ?_⟩
        have e : (ws.take (j + 1)).map toI = (ws.take j).map toI ++ [wrap64 (x.toNat : Int)] := by
          have hx : ws[j]? = some x := hx
          rw [List.take_add_one, hx]; simp [toI]
        rw [e]
        simpa [Nat.min_eq_left hj] using hS
      case measure => simp [intOf]; omega
    · obtain rfl : j = ws.length := by omega
      rw [List.take_length] at hS
      go_wp2_with ((with_reducible refine g_lit ?_); refine L_push hS (by rfl) (fun _ => by rfl) (fun _ => (by conv => lhs; whnf)) (of_decide_eq_true (by rfl)) (by with_reducible first | exact at0 | exact at1 | exact at2 | exact at3 | exact at4 | exact at5 | exact at6 | exact at7 | exact at8 | exact at9 | exact at10 | exact at11 | exact at12) (by rfl) (by rfl) (by decide) (by decide) (fun _ _ _ => by rfl) (by (try simp); omega) ?_; clear hS; intro A A1 c w' hS; (try simp only [List.set_cons_zero, List.set_cons_succ] at hS))
      refine (rSum_any (L := own 3 eI (.slice A (ws.length + 1) c) (ws.map toI ++ [(l.length : Int)]) :: own 75 eU (.slice B2 ws.length c2) ws :: L) (by simpa using hS) hs Src.head (by simp; omega)).mono ?_
      clear hS
      rintro e w' ⟨rfl, hS⟩
      go_wp2
      go_ret
      refine ⟨?_, hS.drop.drop⟩
      have e : bytesW bs l = sumW bs (ws.map toI ++ [(l.length : Int)]) := by unfold bytesW; rw [hws.out]
      refine Eq.trans ?_ (congrArg (fun x => Ending.returned (uv x)) e.symm)
      exact congrArg Ending.returned (by (conv => lhs; whnf); try first | rfl | (rw [hbs]; rfl))
section
variable {W0 : World} {L : List HP}
theorem rBytes_ct {s : ByteArray} {v : Value} {l : List UInt8} {z : UInt64} (hv : Src L eB v l) (hs : s.size ≤ 100000000000000) (hl : l.length ≤ 10000000000000) (hz : bytesW s.data.toList l = z) :
    CT Try.prog 53 #[.string s, v] W0 L fun r L' => r = uv z ∧ L' = L :=
  ⟨fun w s' => (rBytes_any s' hs hv (by omega)).mono fun e w' ⟨h, hw⟩ => ⟨_, _, h, ⟨by rw [hz], rfl⟩, hw⟩⟩
end
end Go.Proofs.Ythbgmnoaaohbcaa
namespace Go.Proofs.Ythbgmnoaaohbcaa
open Go Go.RowKit
set_option linter.unusedVariables false
set_option linter.unusedSimpArgs false
/-- the varint of a number -/
def varint (n : Nat) : List UInt8 := if n < 128 then [UInt8.ofNat n] else UInt8.ofNat (n % 128 + 128) :: varint (n / 128)
termination_by n
decreasing_by omega
def zig (n : Int) : Nat := if n < 0 then (-(2 * n) - 1).toNat else (2 * n).toNat
/-- how many groups of seven bits -/
def sizeV (n : Nat) : Nat := if n < 128 then 1 else sizeV (n / 128) + 1
termination_by n
decreasing_by omega
theorem varint_len (n : Nat) : (varint n).length = sizeV n := by
  induction n using varint.induct with
  | case1 n h => rw [varint, sizeV, if_pos h, if_pos h]; rfl
  | case2 n h ih => rw [varint, sizeV, if_neg h, if_neg h]; simp [ih]
theorem varint_small {n : Nat} (h : n < 128) : varint n = [UInt8.ofNat n] := by rw [varint, if_pos h]
theorem varint_big {n : Nat} (h : ¬ n < 128) : varint n = UInt8.ofNat (n % 128 + 128) :: varint (n / 128) := by rw [varint, if_neg h]
theorem sizeV_pos (n : Nat) : 1 ≤ sizeV n := by rw [sizeV]; split <;> omega
theorem sizeV_le : ∀ (k n : Nat), n < 128 ^ k → 0 < k → sizeV n ≤ k
  | 0, _, _, h => by omega
  | k + 1, n, hn, _ => by
    rw [sizeV]
    split
    · omega
    · rename_i h
      have hk : 0 < k := by
        rcases k with _ | k
        · simp at hn; omega
        · omega
      have := sizeV_le k (n / 128) (by rw [Nat.pow_succ] at hn; exact Nat.div_lt_of_lt_mul (by omega)) hk
      omega
end Go.Proofs.Ythbgmnoaaohbcaa
