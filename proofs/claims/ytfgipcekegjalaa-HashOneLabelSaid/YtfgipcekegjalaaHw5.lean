/-
  Walks of the program's hash: Sum, Bytes and Pair.
-/
import Derived.Test.YtfgipcekegjalaaHw4
namespace Go.Proofs.Ytfgipcekegjalaa
open Go Go.RowKit
set_option linter.unusedVariables false
set_option linter.unusedSimpArgs false
theorem St.rot {A : HP} {W0 w : World} {L : List HP} (hS : St W0 w (A :: L)) : St W0 w (L ++ [A]) := hS.perm (List.perm_append_singleton A L).symm
theorem St.unrot {A : HP} {W0 w : World} {L : List HP} (hS : St W0 w (L ++ [A])) : St W0 w (A :: L) := hS.perm (List.perm_append_singleton A L)
theorem St.unrot2 {A B C : HP} {W0 w : World} {L : List HP} (hS : St W0 w (A :: B :: (L ++ [C]))) : St W0 w (A :: B :: L) := (hS.perm (by simpa using List.perm_append_singleton C (A :: B :: L))).drop
theorem wordsS_any {W0 w : World} {L : List HP} (hS : St W0 w L) (s : ByteArray) :
    Calls Try.prog 25 #[.string s] w fun e w' => ∃ b, e = .returned (.func (.func 29) #[] #[.pointer (some ⟨b, 0, none⟩)]) ∧ St W0 w' (cel b [.string s] 9 :: L) := by
  go_enter Try.func25, Try.ntmps25
  go_wp2_with ((with_reducible refine g_box ?_); refine wl_box hS (by rfl) (by rfl) ?_; clear hS; intro b w' hS)
  go_ret
  exact ⟨_, rfl, hS⟩
theorem wordsB_any {W0 w : World} {L : List HP} (hS : St W0 w L) {A : Option Addr} {n c : Nat} :
    Calls Try.prog 28 #[.slice A n c] w fun e w' => ∃ b, e = .returned (.func (.func 30) #[] #[.pointer (some ⟨b, 0, none⟩)]) ∧ St W0 w' (cel b [.slice A n c] 30 :: L) := by
  go_enter Try.func28, Try.ntmps28
  go_wp2_with ((with_reducible refine g_box ?_); refine wl_box hS (by rfl) (by rfl) ?_; clear hS; intro b w' hS)
  go_ret
  exact ⟨_, rfl, hS⟩
set_option maxRecDepth 8000 in
set_option maxHeartbeats 1000000 in
theorem hSum_any {W0 w : World} {L : List HP} (hS : St W0 w L) {s : ByteArray} (hs : s.size ≤ 100000000000000) {v : Value} {l : List Int} (hv : Src L eI v l) (hl : l.length ≤ 100000000000000) :
    Calls Try.prog 13 #[.string s, v] w fun e w' => e = .returned (uv (sumW s.data.toList l)) ∧ St W0 w' L := by
  obtain ⟨A, cap, rfl, hcap⟩ := (hv.sl hS).form
  obtain ⟨bs, hbs⟩ : ∃ bs, s.data.toList = bs := ⟨_, rfl⟩
  have hsl : bs.length = s.size := by rw [← hbs]; rfl
  rw [hbs]
  (refine callsIn_wide.1 (callsIn_of_wp_marks (n := 0) Try.func13 rfl trivial (wpIn_wide.2 ?_)); simp only [Try.ntmps13, List.size_toArray, List.length_cons, List.length_nil, Nat.reduceAdd, Nat.reduceSub, Array.replicate_succ, Array.replicate_zero, List.push_toArray, List.append_toArray, List.nil_append, List.cons_append])
  go_wp2_with (first | ((with_reducible refine g_alloc ?_); refine wl_alloc hS (by rfl) (by rfl) ?_; clear hS; intro c w' hS) | ((with_reducible refine g_store ?_); refine wl_store hS (by rfl) (by rfl) (by rfl) (by rfl) (by rfl) (by with_reducible first | exact at0 | exact at1 | exact at2 | exact at3 | exact at4 | exact at5 | exact at6 | exact at7 | exact at8 | exact at9 | exact at10 | exact at11 | exact at12) (of_decide_eq_true (by rfl)) ?_; clear hS; intro w' hS; (try simp only [List.set_cons_zero, List.set_cons_succ] at hS); (try simp only [Act.eval, Array.getD_eq_getD_getElem?, List.getElem?_toArray, List.getElem?_cons_succ, List.getElem?_cons_zero, Option.getD_some] at hS)) | (go_at_call 25; refine (wordsS_any hS s).mono ?_; clear hS; rintro e w' ⟨b, rfl, hS⟩))
  refine wp_range1 (I := fun pre => cel c [uv (pre.foldl mix 0)] 25 :: L) rfl (by first | exact rfl | trivial | (intro a b; rfl)) (wordsS_gives hbs (by omega) b) hS.rot ?_ ?_
  · intro l D rec pre x post hx
    refine ⟨_, fun W K hK => wpIn_assign1 hK, ?_⟩
    clear hS
    intro W hS
    refine wpIn_block (wpIn_region_frl (fun _ _ h => by cases h.1) (noDefer (by rfl)) ?_)
    simp only [List.cons_append] at hS
    simp only [Act.put, Act.eval, List.setIfInBounds_toArray, List.set_cons_zero, List.set_cons_succ, List.getElem?_toArray, List.getElem?_cons_zero, List.getElem?_cons_succ]
    go_wp2_with (first | ((with_reducible refine g_load ?_); refine wl_load hS (by rfl) (by rfl) (by rfl) (by with_reducible first | exact List.mem_cons_self | exact List.mem_cons_of_mem _ (List.mem_cons_self) | exact List.mem_cons_of_mem _ (List.mem_cons_of_mem _ (List.mem_cons_self)) | exact List.mem_cons_of_mem _ (List.mem_cons_of_mem _ (List.mem_cons_of_mem _ (List.mem_cons_self))) | exact List.mem_cons_of_mem _ (List.mem_cons_of_mem _ (List.mem_cons_of_mem _ (List.mem_cons_of_mem _ (List.mem_cons_self)))) | exact List.mem_cons_of_mem _ (List.mem_cons_of_mem _ (List.mem_cons_of_mem _ (List.mem_cons_of_mem _ (List.mem_cons_of_mem _ (List.mem_cons_self))))) | exact List.mem_cons_of_mem _ (List.mem_cons_of_mem _ (List.mem_cons_of_mem _ (List.mem_cons_of_mem _ (List.mem_cons_of_mem _ (List.mem_cons_of_mem _ (List.mem_cons_self)))))) | exact List.mem_cons_of_mem _ (List.mem_cons_of_mem _ (List.mem_cons_of_mem _ (List.mem_cons_of_mem _ (List.mem_cons_of_mem _ (List.mem_cons_of_mem _ (List.mem_cons_of_mem _ (List.mem_cons_self))))))) | exact List.mem_cons_of_mem _ (List.mem_cons_of_mem _ (List.mem_cons_of_mem _ (List.mem_cons_of_mem _ (List.mem_cons_of_mem _ (List.mem_cons_of_mem _ (List.mem_cons_of_mem _ (List.mem_cons_of_mem _ (List.mem_cons_self)))))))) | exact List.mem_cons_of_mem _ (List.mem_cons_of_mem _ (List.mem_cons_of_mem _ (List.mem_cons_of_mem _ (List.mem_cons_of_mem _ (List.mem_cons_of_mem _ (List.mem_cons_of_mem _ (List.mem_cons_of_mem _ (List.mem_cons_of_mem _ (List.mem_cons_self)))))))))) (by rfl) ?_) | ((with_reducible refine g_store ?_); refine wl_store hS (by rfl) (by rfl) (by rfl) (by rfl) (by rfl) (by with_reducible first | exact at0 | exact at1 | exact at2 | exact at3 | exact at4 | exact at5 | exact at6 | exact at7 | exact at8 | exact at9 | exact at10 | exact at11 | exact at12) (of_decide_eq_true (by rfl)) ?_; clear hS; intro w' hS; (try simp only [List.set_cons_zero, List.set_cons_succ] at hS); (try simp only [Act.eval, Array.getD_eq_getD_getElem?, List.getElem?_toArray, List.getElem?_cons_succ, List.getElem?_cons_zero, Option.getD_some] at hS)) | (go_at_call 26; refine (hmix_any _ _ _).mono ?_; rintro e w' ⟨rfl, rfl⟩))
    exact ⟨by trivial, by simpa using hS⟩
  · clear hS
    intro D W hS
    simp only [List.cons_append] at hS
    replace hS := (hS.at_ (i := 1) (A := cel c [uv ((wordsOf bs).foldl mix 0)] 25) rfl)
    simp only [List.eraseIdx_cons_succ, List.eraseIdx_cons_zero] at hS
    simp only [Exit.inBlock, Exit.then]
    go_wp2_with (first | ((with_reducible refine g_load ?_); refine wl_load hS (by rfl) (by rfl) (by rfl) (by with_reducible first | exact List.mem_cons_self | exact List.mem_cons_of_mem _ (List.mem_cons_self) | exact List.mem_cons_of_mem _ (List.mem_cons_of_mem _ (List.mem_cons_self)) | exact List.mem_cons_of_mem _ (List.mem_cons_of_mem _ (List.mem_cons_of_mem _ (List.mem_cons_self))) | exact List.mem_cons_of_mem _ (List.mem_cons_of_mem _ (List.mem_cons_of_mem _ (List.mem_cons_of_mem _ (List.mem_cons_self)))) | exact List.mem_cons_of_mem _ (List.mem_cons_of_mem _ (List.mem_cons_of_mem _ (List.mem_cons_of_mem _ (List.mem_cons_of_mem _ (List.mem_cons_self))))) | exact List.mem_cons_of_mem _ (List.mem_cons_of_mem _ (List.mem_cons_of_mem _ (List.mem_cons_of_mem _ (List.mem_cons_of_mem _ (List.mem_cons_of_mem _ (List.mem_cons_self)))))) | exact List.mem_cons_of_mem _ (List.mem_cons_of_mem _ (List.mem_cons_of_mem _ (List.mem_cons_of_mem _ (List.mem_cons_of_mem _ (List.mem_cons_of_mem _ (List.mem_cons_of_mem _ (List.mem_cons_self))))))) | exact List.mem_cons_of_mem _ (List.mem_cons_of_mem _ (List.mem_cons_of_mem _ (List.mem_cons_of_mem _ (List.mem_cons_of_mem _ (List.mem_cons_of_mem _ (List.mem_cons_of_mem _ (List.mem_cons_of_mem _ (List.mem_cons_self)))))))) | exact List.mem_cons_of_mem _ (List.mem_cons_of_mem _ (List.mem_cons_of_mem _ (List.mem_cons_of_mem _ (List.mem_cons_of_mem _ (List.mem_cons_of_mem _ (List.mem_cons_of_mem _ (List.mem_cons_of_mem _ (List.mem_cons_of_mem _ (List.mem_cons_self)))))))))) (by rfl) ?_) | ((with_reducible refine g_store ?_); refine wl_store hS (by rfl) (by rfl) (by rfl) (by rfl) (by rfl) (by with_reducible first | exact at0 | exact at1 | exact at2 | exact at3 | exact at4 | exact at5 | exact at6 | exact at7 | exact at8 | exact at9 | exact at10 | exact at11 | exact at12) (of_decide_eq_true (by rfl)) ?_; clear hS; intro w' hS; (try simp only [List.set_cons_zero, List.set_cons_succ] at hS); (try simp only [Act.eval, Array.getD_eq_getD_getElem?, List.getElem?_toArray, List.getElem?_cons_succ, List.getElem?_cons_zero, Option.getD_some] at hS)) | (go_at_call 26; refine (hmix_i rfl (by first | exact ofIntI _ | exact u64_ofNat _ (by omega)) _).mono ?_; rintro e w' ⟨rfl, rfl⟩))
    obtain ⟨z, hz⟩ : ∃ z, mix (mix ((wordsOf bs).foldl mix 0) (UInt64.ofNat s.size)) (UInt64.ofNat l.length) = z := ⟨_, rfl⟩
    simp only [hz] at hS
    replace hz := Lib.hid hz
    replace hS := hS.unrot2
    go_loopw [26] (fun i wr => Hid (∃ j : Nat, j ≤ l.length ∧ i = .int .i64 (j : Int) ∧ St W0 wr (cel c [uv ((l.take j).foldl mixI z)] 25 :: blk D (.deferred (some [])) :: L))) (fun i _ => l.length - (intOf i).toNat)
    case atStart => exact Lib.hid ⟨0, by omega, rfl, hS⟩
    case round =>
      clear hS
      obtain ⟨j, hj, rfl, hS⟩ := hrel.out
      by_cases hlt : j < l.length
      · go_wp2_with (first | ((with_reducible refine g_idx ?_); first | (refine wl_idxB (by rfl) (by rfl) (by rfl) (by rfl) (Src.sl (by first | exact hv | exact (hv).c | exact (hv).c.c | exact (hv).c.c.c | exact (hv).c.c.c.c) hS) (by omega) (by omega) ?_; intro b off x hx hb hcell) | (refine wl_idxI (by rfl) (by rfl) (by rfl) (by rfl) (Src.sl (by first | exact hv | exact (hv).c | exact (hv).c.c | exact (hv).c.c.c | exact (hv).c.c.c.c) hS) (by omega) (by omega) ?_; intro b off x hx hcell) | (refine wl_idxU (by rfl) (by rfl) (by rfl) (by rfl) (Src.sl (by first | exact hv | exact (hv).c | exact (hv).c.c | exact (hv).c.c.c | exact (hv).c.c.c.c) hS) (by omega) (by omega) ?_; intro b off x hx hb hcell)) | ((with_reducible refine g_load ?_); refine wl_load hS (by rfl) (by rfl) (by rfl) (by with_reducible first | exact List.mem_cons_self | exact List.mem_cons_of_mem _ (List.mem_cons_self) | exact List.mem_cons_of_mem _ (List.mem_cons_of_mem _ (List.mem_cons_self)) | exact List.mem_cons_of_mem _ (List.mem_cons_of_mem _ (List.mem_cons_of_mem _ (List.mem_cons_self))) | exact List.mem_cons_of_mem _ (List.mem_cons_of_mem _ (List.mem_cons_of_mem _ (List.mem_cons_of_mem _ (List.mem_cons_self)))) | exact List.mem_cons_of_mem _ (List.mem_cons_of_mem _ (List.mem_cons_of_mem _ (List.mem_cons_of_mem _ (List.mem_cons_of_mem _ (List.mem_cons_self))))) | exact List.mem_cons_of_mem _ (List.mem_cons_of_mem _ (List.mem_cons_of_mem _ (List.mem_cons_of_mem _ (List.mem_cons_of_mem _ (List.mem_cons_of_mem _ (List.mem_cons_self)))))) | exact List.mem_cons_of_mem _ (List.mem_cons_of_mem _ (List.mem_cons_of_mem _ (List.mem_cons_of_mem _ (List.mem_cons_of_mem _ (List.mem_cons_of_mem _ (List.mem_cons_of_mem _ (List.mem_cons_self))))))) | exact List.mem_cons_of_mem _ (List.mem_cons_of_mem _ (List.mem_cons_of_mem _ (List.mem_cons_of_mem _ (List.mem_cons_of_mem _ (List.mem_cons_of_mem _ (List.mem_cons_of_mem _ (List.mem_cons_of_mem _ (List.mem_cons_self)))))))) | exact List.mem_cons_of_mem _ (List.mem_cons_of_mem _ (List.mem_cons_of_mem _ (List.mem_cons_of_mem _ (List.mem_cons_of_mem _ (List.mem_cons_of_mem _ (List.mem_cons_of_mem _ (List.mem_cons_of_mem _ (List.mem_cons_of_mem _ (List.mem_cons_self)))))))))) (by rfl) ?_) | ((with_reducible refine g_store ?_); refine wl_store hS (by rfl) (by rfl) (by rfl) (by rfl) (by rfl) (by with_reducible first | exact at0 | exact at1 | exact at2 | exact at3 | exact at4 | exact at5 | exact at6 | exact at7 | exact at8 | exact at9 | exact at10 | exact at11 | exact at12) (of_decide_eq_true (by rfl)) ?_; clear hS; intro w' hS; (try simp only [List.set_cons_zero, List.set_cons_succ] at hS); (try simp only [Act.eval, Array.getD_eq_getD_getElem?, List.getElem?_toArray, List.getElem?_cons_succ, List.getElem?_cons_zero, Option.getD_some] at hS)) | (go_at_call 26; refine (hmix_i rfl (ofIntI _) _).mono ?_; rintro e w' ⟨rfl, rfl⟩))
        go_roundw
        case rel => exact Lib.hid ⟨j + 1, by omega, by go_num, by rw [fold_snoc (i := j) hx]; exact hS⟩
        case measure => simp [intOf]; omega
      · obtain rfl : j = l.length := by omega
        rw [List.take_length] at hS
        go_wp2_with (first | ((with_reducible refine g_load ?_); refine wl_load hS (by rfl) (by rfl) (by rfl) (by with_reducible first | exact List.mem_cons_self | exact List.mem_cons_of_mem _ (List.mem_cons_self) | exact List.mem_cons_of_mem _ (List.mem_cons_of_mem _ (List.mem_cons_self)) | exact List.mem_cons_of_mem _ (List.mem_cons_of_mem _ (List.mem_cons_of_mem _ (List.mem_cons_self))) | exact List.mem_cons_of_mem _ (List.mem_cons_of_mem _ (List.mem_cons_of_mem _ (List.mem_cons_of_mem _ (List.mem_cons_self)))) | exact List.mem_cons_of_mem _ (List.mem_cons_of_mem _ (List.mem_cons_of_mem _ (List.mem_cons_of_mem _ (List.mem_cons_of_mem _ (List.mem_cons_self))))) | exact List.mem_cons_of_mem _ (List.mem_cons_of_mem _ (List.mem_cons_of_mem _ (List.mem_cons_of_mem _ (List.mem_cons_of_mem _ (List.mem_cons_of_mem _ (List.mem_cons_self)))))) | exact List.mem_cons_of_mem _ (List.mem_cons_of_mem _ (List.mem_cons_of_mem _ (List.mem_cons_of_mem _ (List.mem_cons_of_mem _ (List.mem_cons_of_mem _ (List.mem_cons_of_mem _ (List.mem_cons_self))))))) | exact List.mem_cons_of_mem _ (List.mem_cons_of_mem _ (List.mem_cons_of_mem _ (List.mem_cons_of_mem _ (List.mem_cons_of_mem _ (List.mem_cons_of_mem _ (List.mem_cons_of_mem _ (List.mem_cons_of_mem _ (List.mem_cons_self)))))))) | exact List.mem_cons_of_mem _ (List.mem_cons_of_mem _ (List.mem_cons_of_mem _ (List.mem_cons_of_mem _ (List.mem_cons_of_mem _ (List.mem_cons_of_mem _ (List.mem_cons_of_mem _ (List.mem_cons_of_mem _ (List.mem_cons_of_mem _ (List.mem_cons_self)))))))))) (by rfl) ?_) | (go_at_call 26; refine (hmix_i rfl (show (0 : Int) = ((0 : UInt64).toNat : Int) from rfl) _).mono ?_; rintro e w' ⟨rfl, rfl⟩))
        refine post_marks rfl hS.drop (fun _ => results_tmp rfl _ _ _) (fun w' hS => ⟨?_, hS⟩)
        have e : sumW bs l = mix (l.foldl mixI z) 0 := by unfold sumW; rw [hsl, hz.out]
        refine Eq.trans ?_ (congrArg (fun x => Ending.returned (uv x)) e.symm)
        exact congrArg Ending.returned (by (conv => lhs; whnf); try rfl)
theorem St.sw2 {A B X : HP} {W0 w : World} {L : List HP} (hS : St W0 w (X :: A :: B :: L)) : St W0 w (A :: B :: X :: L) := hS.perm (List.perm_middle (l₁ := [A, B])).symm
theorem St.rot2 {A B : HP} {W0 w : World} {L : List HP} (hS : St W0 w (A :: B :: L)) : St W0 w (L ++ [A, B]) := hS.perm (List.perm_append_comm (l₁ := [A, B]))
theorem St.unrot22 {A B C D : HP} {W0 w : World} {L : List HP} (hS : St W0 w (A :: B :: (L ++ [C, D]))) : St W0 w (A :: B :: D :: L) :=
  (hS.perm (by simpa using (List.perm_append_comm (l₁ := A :: B :: L) (l₂ := [C, D])) : (A :: B :: (L ++ [C, D])).Perm (C :: D :: A :: B :: L))).drop.perm (List.perm_middle (l₁ := [A, B])).symm
def bx (c : Nat) (l : List Int) : HP := ex fun v => sp [cel c [v] 22, own 3 eI v l]
theorem St.bxo {c : Nat} {l : List Int} {W0 w : World} {L : List HP} (hS : St W0 w (bx c l :: L)) : ∃ v, St W0 w (cel c [v] 22 :: own 3 eI v l :: L) := by
  obtain ⟨v, h⟩ := hS.ex_
  exact ⟨v, h.open_⟩
theorem St.bxc {c : Nat} {l : List Int} {v : Value} {W0 w : World} {L : List HP} (hS : St W0 w (cel c [v] 22 :: own 3 eI v l :: L)) : St W0 w (bx c l :: L) :=
  St.mk_ex v (St.close_ (L := [cel c [v] 22, own 3 eI v l]) hS)
set_option maxRecDepth 8000 in
set_option maxHeartbeats 1000000 in
theorem hBytes_any {W0 w : World} {L : List HP} (hS : St W0 w L) {s : ByteArray} (hs : s.size ≤ 100000000000000) {v : Value} {bs : List UInt8} (hv : Src L eB v bs) (hl : bs.length ≤ 10000000000000) :
    Calls Try.prog 17 #[.string s, v] w fun e w' => e = .returned (uv (bytesW s.data.toList bs)) ∧ St W0 w' L := by
  obtain ⟨A0, hA0, hsrc⟩ := hv.one
  obtain ⟨L0, hp⟩ := hS.mem hA0
  suffices hh : Calls Try.prog 17 #[.string s, v] w fun e w' => e = .returned (uv (bytesW s.data.toList bs)) ∧ St W0 w' (A0 :: L0) from hh.mono fun _ _ h => ⟨h.1, h.2.perm hp.symm⟩
  replace hS := hS.perm hp
  clear hp hA0 hv
  have hv : Src (A0 :: L0) eB v bs := hsrc.mono fun x hx => by simp at hx; subst hx; exact List.mem_cons_self
  obtain ⟨A, cap, rfl, hcap⟩ := (hv.sl hS).form
  have hwl : (wordsOf bs).length ≤ 10000000000000 := by simp [wordsOf]; omega
  replace hwl := Lib.hid hwl
  (refine callsIn_wide.1 (callsIn_of_wp_marks (n := 0) Try.func17 rfl trivial (wpIn_wide.2 ?_)); simp only [Try.ntmps17, List.size_toArray, List.length_cons, List.length_nil, Nat.reduceAdd, Nat.reduceSub, Array.replicate_succ, Array.replicate_zero, List.push_toArray, List.append_toArray, List.nil_append, List.cons_append])
  go_wp2_with (first | ((with_reducible refine g_alloc ?_); refine wl_alloc hS (by rfl) (by rfl) ?_; clear hS; intro c w' hS) | ((with_reducible refine g_store ?_); refine wl_store hS (by rfl) (by rfl) (by rfl) (by rfl) (by rfl) (by with_reducible first | exact at0 | exact at1 | exact at2 | exact at3 | exact at4 | exact at5 | exact at6 | exact at7 | exact at8 | exact at9 | exact at10 | exact at11 | exact at12) (of_decide_eq_true (by rfl)) ?_; clear hS; intro w' hS; (try simp only [List.set_cons_zero, List.set_cons_succ] at hS); (try simp only [Act.eval, Array.getD_eq_getD_getElem?, List.getElem?_toArray, List.getElem?_cons_succ, List.getElem?_cons_zero, Option.getD_some] at hS)) | (go_at_call 28; refine (wordsB_any hS).mono ?_; clear hS; rintro e w' ⟨b, rfl, hS⟩))
  replace hS : St W0 w' (cel c [.slice none 0 0] 22 :: cel b [.slice A bs.length cap] 30 :: A0 :: L0) := hS.perm (.swap _ _ _)
  replace hS := ((hS.own_nil 3 eI).perm (.swap _ _ _)).bxc
  replace hS := hS.perm ((List.perm_append_comm (l₁ := [cel b [.slice A bs.length cap] 30, A0]) (l₂ := L0)).cons (bx c []))
  refine wp_range1 (I := fun pre => bx c (pre.map toI) :: L0) rfl (by first | exact rfl | trivial | (intro a b; rfl)) (wordsB_gives hsrc (by omega) b) hS ?_ ?_
  · intro l D rec pre x post hx
    refine ⟨_, fun W K hK => wpIn_assign1 hK, ?_⟩
    clear hS
    intro W hS
    have hpl : pre.length < (wordsOf bs).length := by rw [hx]; simp
    have hwl := hwl.out
    refine wpIn_block (wpIn_region_frl (fun _ _ h => by cases h.1) (noDefer (by rfl)) ?_)
    simp only [List.cons_append] at hS
    obtain ⟨u, hS⟩ := (hS.at_ (i := 2) rfl).bxo
    simp only [List.eraseIdx_cons_succ, List.eraseIdx_cons_zero] at hS
    go_wp2_with (first | ((with_reducible refine g_load ?_); refine wl_load hS (by rfl) (by rfl) (by rfl) (by with_reducible first | exact List.mem_cons_self | exact List.mem_cons_of_mem _ (List.mem_cons_self) | exact List.mem_cons_of_mem _ (List.mem_cons_of_mem _ (List.mem_cons_self)) | exact List.mem_cons_of_mem _ (List.mem_cons_of_mem _ (List.mem_cons_of_mem _ (List.mem_cons_self))) | exact List.mem_cons_of_mem _ (List.mem_cons_of_mem _ (List.mem_cons_of_mem _ (List.mem_cons_of_mem _ (List.mem_cons_self)))) | exact List.mem_cons_of_mem _ (List.mem_cons_of_mem _ (List.mem_cons_of_mem _ (List.mem_cons_of_mem _ (List.mem_cons_of_mem _ (List.mem_cons_self))))) | exact List.mem_cons_of_mem _ (List.mem_cons_of_mem _ (List.mem_cons_of_mem _ (List.mem_cons_of_mem _ (List.mem_cons_of_mem _ (List.mem_cons_of_mem _ (List.mem_cons_self)))))) | exact List.mem_cons_of_mem _ (List.mem_cons_of_mem _ (List.mem_cons_of_mem _ (List.mem_cons_of_mem _ (List.mem_cons_of_mem _ (List.mem_cons_of_mem _ (List.mem_cons_of_mem _ (List.mem_cons_self))))))) | exact List.mem_cons_of_mem _ (List.mem_cons_of_mem _ (List.mem_cons_of_mem _ (List.mem_cons_of_mem _ (List.mem_cons_of_mem _ (List.mem_cons_of_mem _ (List.mem_cons_of_mem _ (List.mem_cons_of_mem _ (List.mem_cons_self)))))))) | exact List.mem_cons_of_mem _ (List.mem_cons_of_mem _ (List.mem_cons_of_mem _ (List.mem_cons_of_mem _ (List.mem_cons_of_mem _ (List.mem_cons_of_mem _ (List.mem_cons_of_mem _ (List.mem_cons_of_mem _ (List.mem_cons_of_mem _ (List.mem_cons_self)))))))))) (by rfl) ?_) | ((with_reducible refine g_lit ?_); refine L_push hS (by rfl) (fun _ => by rfl) (fun _ => (by conv => lhs; whnf)) (of_decide_eq_true (by rfl)) (by with_reducible first | exact at0 | exact at1 | exact at2 | exact at3 | exact at4 | exact at5 | exact at6 | exact at7 | exact at8 | exact at9 | exact at10 | exact at11 | exact at12) (by rfl) (by rfl) (by decide) (by decide) (fun _ _ _ => by rfl) (by (try simp); omega) ?_; clear hS; intro A A1 c w' hS; (try simp only [List.set_cons_zero, List.set_cons_succ] at hS)) | ((with_reducible refine g_store ?_); refine wl_store hS (by rfl) (by rfl) (by rfl) (by rfl) (by rfl) (by with_reducible first | exact at0 | exact at1 | exact at2 | exact at3 | exact at4 | exact at5 | exact at6 | exact at7 | exact at8 | exact at9 | exact at10 | exact at11 | exact at12) (of_decide_eq_true (by rfl)) ?_; clear hS; intro w' hS; (try simp only [List.set_cons_zero, List.set_cons_succ] at hS); (try simp only [Act.eval, Array.getD_eq_getD_getElem?, List.getElem?_toArray, List.getElem?_cons_succ, List.getElem?_cons_zero, Option.getD_some] at hS)))
    replace hS := (St.bxc hS).sw2
    have e : (pre ++ [x]).map toI = pre.map toI ++ [toI x] := by simp
    refine ⟨trivial, ?_⟩
    rw [e]
    exact hS
  · clear hS
    intro D W hS
    simp only [List.cons_append] at hS
    simp only [Exit.inBlock, Exit.then]
    have hwl := hwl.out
    replace hS := ((hS.perm (.swap _ _ _)).bxo)
    obtain ⟨u, hS⟩ := hS
    go_wp2_with (first | ((with_reducible refine g_load ?_); refine wl_load hS (by rfl) (by rfl) (by rfl) (by with_reducible first | exact List.mem_cons_self | exact List.mem_cons_of_mem _ (List.mem_cons_self) | exact List.mem_cons_of_mem _ (List.mem_cons_of_mem _ (List.mem_cons_self)) | exact List.mem_cons_of_mem _ (List.mem_cons_of_mem _ (List.mem_cons_of_mem _ (List.mem_cons_self))) | exact List.mem_cons_of_mem _ (List.mem_cons_of_mem _ (List.mem_cons_of_mem _ (List.mem_cons_of_mem _ (List.mem_cons_self)))) | exact List.mem_cons_of_mem _ (List.mem_cons_of_mem _ (List.mem_cons_of_mem _ (List.mem_cons_of_mem _ (List.mem_cons_of_mem _ (List.mem_cons_self))))) | exact List.mem_cons_of_mem _ (List.mem_cons_of_mem _ (List.mem_cons_of_mem _ (List.mem_cons_of_mem _ (List.mem_cons_of_mem _ (List.mem_cons_of_mem _ (List.mem_cons_self)))))) | exact List.mem_cons_of_mem _ (List.mem_cons_of_mem _ (List.mem_cons_of_mem _ (List.mem_cons_of_mem _ (List.mem_cons_of_mem _ (List.mem_cons_of_mem _ (List.mem_cons_of_mem _ (List.mem_cons_self))))))) | exact List.mem_cons_of_mem _ (List.mem_cons_of_mem _ (List.mem_cons_of_mem _ (List.mem_cons_of_mem _ (List.mem_cons_of_mem _ (List.mem_cons_of_mem _ (List.mem_cons_of_mem _ (List.mem_cons_of_mem _ (List.mem_cons_self)))))))) | exact List.mem_cons_of_mem _ (List.mem_cons_of_mem _ (List.mem_cons_of_mem _ (List.mem_cons_of_mem _ (List.mem_cons_of_mem _ (List.mem_cons_of_mem _ (List.mem_cons_of_mem _ (List.mem_cons_of_mem _ (List.mem_cons_of_mem _ (List.mem_cons_self)))))))))) (by rfl) ?_) | ((with_reducible refine g_lit ?_); refine L_push hS (by rfl) (fun _ => by rfl) (fun _ => (by conv => lhs; whnf)) (of_decide_eq_true (by rfl)) (by with_reducible first | exact at0 | exact at1 | exact at2 | exact at3 | exact at4 | exact at5 | exact at6 | exact at7 | exact at8 | exact at9 | exact at10 | exact at11 | exact at12) (by rfl) (by rfl) (by decide) (by decide) (fun _ _ _ => by rfl) (by (try simp); omega) ?_; clear hS; intro A A1 c w' hS; (try simp only [List.set_cons_zero, List.set_cons_succ] at hS)) | ((with_reducible refine g_store ?_); refine wl_store hS (by rfl) (by rfl) (by rfl) (by rfl) (by rfl) (by with_reducible first | exact at0 | exact at1 | exact at2 | exact at3 | exact at4 | exact at5 | exact at6 | exact at7 | exact at8 | exact at9 | exact at10 | exact at11 | exact at12) (of_decide_eq_true (by rfl)) ?_; clear hS; intro w' hS; (try simp only [List.set_cons_zero, List.set_cons_succ] at hS); (try simp only [Act.eval, Array.getD_eq_getD_getElem?, List.getElem?_toArray, List.getElem?_cons_succ, List.getElem?_cons_zero, Option.getD_some] at hS)))
    have e : bytesW s.data.toList bs = sumW s.data.toList ((wordsOf bs).map toI ++ [(bs.length : Int)]) := rfl
    rw [List.length_map] at hS
    refine (hSum_any (hS.perm (.swap _ _ _)) hs Src.head (by simp; omega)).mono ?_
    clear hS
    rintro _ w' ⟨rfl, hS⟩
    go_wp2
    refine post_marks rfl hS.drop.drop (fun _ => results_tmp rfl _ _ _) (fun w' hS => ⟨?_, (hS.perm List.perm_append_comm).drop⟩)
    refine Eq.trans ?_ (congrArg (fun x => Ending.returned (uv x)) e.symm)
    exact congrArg Ending.returned (by (conv => lhs; whnf); try rfl)
set_option maxRecDepth 8000 in
set_option maxHeartbeats 1000000 in
theorem hPair_any {W0 w : World} {L : List HP} (hS : St W0 w L) (x y : UInt64) :
    Calls Try.prog 19 #[uv x, uv y] w fun e w' => e = .returned (uv (pairW x y)) ∧ St W0 w' L := by
  go_enter Try.func19, Try.ntmps19
  go_wp2_with ((with_reducible refine g_lit ?_); (with_reducible refine stop_op ?_))
  refine (?_ : wpList _ _ _ _ _ _)
  refine wl_lit hS rfl (by rfl) (e := 3) (cells := [.int .i64 (toI x), .int .i64 (toI y)]) (R := eI) (l := [toI x, toI y]) (css := [[.int .i64 (toI x)], [.int .i64 (toI y)]]) (s := 1) (z := .int .i64 0) (by simp [Instr.fill, Act.eval, Value.cells, toI, range_2]) (by decide) (by decide) rfl rfl (fun m h _ => ⟨rfl, rfl, trivial⟩) rfl (by decide) ?_
  clear hS
  intro A w' hS
  go_wp2_with (go_at_call 13; refine (hSum_any hS (by decide) Src.head (by simp)).mono ?_; clear hS; rintro e w' ⟨rfl, hS⟩)
  go_ret
  exact ⟨congrArg Ending.returned (by (conv => lhs; whnf); try rfl), hS.drop⟩
end Go.Proofs.Ytfgipcekegjalaa
