/-
  The law HashOneWord.
-/
import Derived.Test.YtfgipcekegjalaaL5
import Derived.Test.YtfgipcekegjalaaSt7
namespace Go.Proofs.Ytfgipcekegjalaa
open Go Go.RowKit
set_option linter.unusedVariables false
set_option linter.unusedSimpArgs false
theorem word_plain {t : List UInt8} {x y : List Int} {k : Nat} {xk v : Int} (hk : k < x.length) (hxk : x[k] = xk) (hy : x.set k v = y) (hb : ∀ n ∈ x, -9223372036854775808 ≤ n ∧ n ≤ 9223372036854775807) (hv : -9223372036854775808 ≤ v ∧ v ≤ 9223372036854775807) :
    (sumW t x = sumW t y) ↔ xk = v := by
  constructor
  · intro e
    have hb' : ∀ n ∈ y, -9223372036854775808 ≤ n ∧ n ≤ 9223372036854775807 := by
      intro n hn
      rw [← hy] at hn
      rcases List.mem_or_eq_of_mem_set hn with h | rfl
      · exact hb n h
      · exact hv
    have h1 := sum_one (t := t) (l := x) (l' := y) (by rw [← hy]; simp) k (fun i hi => by rw [← hy, List.getElem?_set_ne (by omega)]) hb hb' e
    have h2 : y[k]? = some v := by rw [← hy, List.getElem?_set_self hk]
    rw [← h1, List.getElem?_eq_getElem hk, hxk] at h2
    exact Option.some.inj h2
  · intro e
    have : y = x := by rw [← hy, ← e, ← hxk]; exact List.set_getElem_self hk
    rw [this]
theorem Ints_r {W0 w : World} {L : List HP} (hS : St W0 w L) {v : Value} {l : List Int} (hv : rd eI v l ∈ L) (hl : l.length ≤ 9223372036854775807) (hb : ∀ n ∈ l, -9223372036854775808 ≤ n ∧ n ≤ 9223372036854775807) (most : Int) (hm : 0 ≤ most) (hm2 : most ≤ 1000000) :
    Calls Try.prog 12 #[v, iv most] w fun e w' => ∃ A c l', Hid (∀ n ∈ l', -9223372036854775808 ≤ n ∧ n ≤ 9223372036854775807) ∧ l'.length ≤ most.toNat ∧ e = .returned (.slice A l'.length c) ∧ St W0 w' (own 3 eI (.slice A l'.length c) l' :: L) :=
  (Ints_c hS hv hl most hm hm2).mono fun _ _ ⟨A, c, l', h1, h2⟩ => ⟨A, c, l', Lib.hid (fun n hn => by rw [h1.out] at hn; exact hb n (List.mem_of_mem_take hn)), h2⟩
set_option maxRecDepth 8000 in
set_option maxHeartbeats 2000000 in
theorem HashOneWord_any {W0 w : World} {L : List HP} (hS : St W0 w L) (s : ByteArray) (hs : s.size ≤ 9223372036854775807) {v : Value} {l : List Int} (hv : rd eI v l ∈ L) (hl : l.length ≤ 9223372036854775807) (hb : ∀ n ∈ l, -9223372036854775808 ≤ n ∧ n ≤ 9223372036854775807)
    (at_ : Int) (ha1 : -9223372036854775808 ≤ at_) (ha2 : at_ ≤ 9223372036854775807) (u : Int) (hu : -9223372036854775808 ≤ u ∧ u ≤ 9223372036854775807) :
    Calls Try.prog 5 #[.string s, v, .int .i64 at_, .int .i64 u] w fun e w' => e = .returned (.bool true) ∧ St W0 w' L := by
  replace hb := Lib.hid hb
  replace hu := Lib.hid hu
  go_enter Try.func5, Try.ntmps5
  go_wp2_with (first | (go_at_call 11; refine (Short_c _ 20 _ (by decide) (by omega)).mono ?_; rintro e w' ⟨t, te, tl, rfl, rfl⟩) | (go_at_call 12; (with_reducible refine stop_op ?_)))
  refine (Ints_r hS hv (by omega) hb.out _ (by decide) (by decide)).mono ?_; clear hS; rintro _ w' ⟨An, cn, n, nb, nl, rfl, hS⟩; (try simp only [Int.toNat_ofNat, Int.reduceToNat] at nl)
  go_wp2_with (first | ((with_reducible refine g_lit ?_); refine L_push (el := (7 : Int)) hS (by rfl) (fun _ => by rfl) (fun _ => (by conv => lhs; whnf)) (of_decide_eq_true (by rfl)) (by with_reducible first | exact at0 | exact at1 | exact at2 | exact at3 | exact at4 | exact at5 | exact at6 | exact at7 | exact at8 | exact at9 | exact at10 | exact at11 | exact at12) (by rfl) (by rfl) (by decide) (by decide) (fun _ _ _ => by rfl) (by (try simp); omega) ?_; clear hS; intro A A1 c w' hS; (try simp only [List.set_cons_zero, List.set_cons_succ] at hS)) | (go_at_call 12; (with_reducible refine stop_op ?_)))
  obtain ⟨x, hx⟩ : ∃ x, n ++ [7] = x := ⟨_, rfl⟩
  have hxl : x.length = n.length + 1 := by rw [← hx]; simp
  have hxb : Hid (∀ m ∈ x, -9223372036854775808 ≤ m ∧ m ≤ 9223372036854775807) := Lib.hid (by
    intro m hm
    rw [← hx] at hm
    rcases List.mem_append.1 hm with h | h
    · exact nb.out m h
    · simp at h; omega)
  rw [hx] at hS
  rw [← hxl] at hS ⊢
  have hx40 : x.length ≤ 10 := by omega
  have hx1 : 1 ≤ x.length := by omega
  clear hx hxl
  refine (own_form (Ints_src hS Src.head (by omega) _ (by omega))).mono ?_; clear hS; rintro _ w' ⟨By, cy, rfl, hS⟩
  go_wp2_with (go_at_call 21; (with_reducible refine stop_op ?_))
  refine (Around_c _ _ _ (by omega) (by omega) (by omega) (by omega)).mono ?_; rintro _ w' ⟨k, hk, rfl, rfl⟩
  obtain ⟨g, cap, sp, hvy, hc1, hc2, hc3, hS2⟩ := hS.own_cel (fun e => by rw [e] at hx1; simp at hx1)
  clear hS
  injection hvy with hv1 hv2 hv3
  clear hv2
  subst hv1
  subst hv3
  have hS := hS2
  clear hS2
  have hkx : k < x.length := by omega
  obtain ⟨xk, hxk⟩ : ∃ u, x[k] = u := ⟨_, rfl⟩
  have hlt : k < (x.map iv ++ sp).length := by simp; omega
  replace hlt := Lib.hid hlt
  replace hxk := Lib.hid hxk
  go_upto_region 6 with (first | ((with_reducible refine g_idx ?_); refine wl_idxOwn1 (zi := k) (by rfl) (by rfl) (by rfl) (by rfl) (by omega) ?_) | ((with_reducible refine g_store ?_); refine wl_store hS (by rfl) (by rfl) (by rfl) (by rfl) (by rfl) (by with_reducible first | exact at0 | exact at1 | exact at2 | exact at3 | exact at4 | exact at5 | exact at6 | exact at7 | exact at8 | exact at9 | exact at10 | exact at11 | exact at12) hlt.out ?_; clear hS; intro w' hS; (try simp only [List.set_cons_zero, List.set_cons_succ] at hS); (try simp only [Act.eval, Act.put, List.setIfInBounds_toArray, List.set_cons_zero, List.set_cons_succ, Array.getD_eq_getD_getElem?, List.getElem?_toArray, List.getElem?_cons_succ, List.getElem?_cons_zero, Option.getD_some] at hS)))
  obtain ⟨y, hy⟩ : ∃ y, x.set k u = y := ⟨_, rfl⟩
  have hyl : y.length = x.length := by rw [← hy]; simp
  rw [set_row (f := iv) hkx rfl, hy] at hS
  replace hS : St W0 w' (own 3 eI (.slice (some ⟨g, 0, none⟩) x.length cy) y :: own 3 eI (.slice A x.length c) x :: L) := by
    have := St.cel_own (f := iv) (hf := fun _ => rfl) (l := y) hS (by omega) hc2 (by omega)
    rw [hyl] at this
    exact this
  obtain ⟨X, hX⟩ : ∃ X, sumW t.data.toList x = X := ⟨_, rfl⟩
  obtain ⟨Y, hY⟩ : ∃ Y, sumW t.data.toList y = Y := ⟨_, rfl⟩
  have hpl := word_plain (t := t.data.toList) hkx hxk.out hy hxb.out hu.out
  obtain ⟨q, hq⟩ : ∃ q, (xk == u) = q := ⟨_, rfl⟩
  have hXY : ((X.toNat : Int) == (Y.toNat : Int)) = q := by
    rw [← hq]
    by_cases hxu : xk = u
    · rw [← hX, ← hY, hpl.2 hxu, hxu]; simp
    · rw [beq_f fun e => hxu (hpl.1 (by rw [hX, hY, e]))]; simp [hxu]
  obtain ⟨b, off, x', hx', _, rfl⟩ := (Src.sl (R := eI) (y := .slice A x.length c) (l := x) Src.head.c hS).cell1 hkx
  have hcell := St.cellsAt (W0 := W0) (f := iv) (hf := fun _ => rfl) (n := x.length) (cap := c) (L := own 3 eI (.slice (some ⟨g, 0, none⟩) x.length cy) y :: own 3 eI (.slice (some ⟨b, off, none⟩) x.length c) x :: L) Src.head.c (List.getElem?_eq_getElem hkx)
  rw [hxk.out] at hcell
  refine wp_region_st hS (by kernel_rfl) (by kernel_rfl) ?_
  cases q
  all_goals
    refine q_move (by rfl) (by (conv => lhs; whnf)) ?_; (try simp only [Act.put, List.setIfInBounds_toArray, List.set_cons_zero, List.set_cons_succ])
    refine q_move (by rfl) (by (conv => lhs; whnf)) ?_; (try simp only [Act.put, List.setIfInBounds_toArray, List.set_cons_zero, List.set_cons_succ])
    refine q_call (args := [.string t, .slice (some ⟨b, off, none⟩) x.length c]) (by first | exact rfl | trivial | (intro a b; rfl)) (by rfl) (by rfl) (fun w hw => (hSum_x hX hw (by omega) Src.head.c (by omega))) ?_; (try simp only [Act.put, List.setIfInBounds_toArray, List.set_cons_zero, List.set_cons_succ])
    refine q_move (by rfl) (by (conv => lhs; whnf)) ?_; (try simp only [Act.put, List.setIfInBounds_toArray, List.set_cons_zero, List.set_cons_succ])
    refine q_move (by rfl) (by (conv => lhs; whnf)) ?_; (try simp only [Act.put, List.setIfInBounds_toArray, List.set_cons_zero, List.set_cons_succ])
    refine q_call (args := [.string t, .slice (some ⟨g, 0, none⟩) x.length cy]) (by first | exact rfl | trivial | (intro a b; rfl)) (by rfl) (by rfl) (fun w hw => (hSum_x hY hw (by omega) Src.head (by omega))) ?_; (try simp only [Act.put, List.setIfInBounds_toArray, List.set_cons_zero, List.set_cons_succ])
    refine q_binop (v := .bool ((X.toNat : Int) == (Y.toNat : Int))) (by rfl) (by (conv => lhs; whnf)) (by (conv => lhs; whnf)) (fun _ => rfl) (fun _ => rfl) ?_; (try simp only [Act.put, List.setIfInBounds_toArray, List.set_cons_zero, List.set_cons_succ])
    refine q_move (by rfl) (by (conv => lhs; whnf)) ?_; (try simp only [Act.put, List.setIfInBounds_toArray, List.set_cons_zero, List.set_cons_succ])
    refine q_move (by rfl) (by (conv => lhs; whnf)) ?_; (try simp only [Act.put, List.setIfInBounds_toArray, List.set_cons_zero, List.set_cons_succ])
    refine q_idx1 (by rfl) (by rfl) (by rfl) hkx ?_; (try simp only [Act.put, List.setIfInBounds_toArray, List.set_cons_zero, List.set_cons_succ])
    refine q_load (by rfl) (by rfl) hcell ?_; (try simp only [Act.put, List.setIfInBounds_toArray, List.set_cons_zero, List.set_cons_succ])
    refine q_move (by rfl) (by (conv => lhs; whnf)) ?_; (try simp only [Act.put, List.setIfInBounds_toArray, List.set_cons_zero, List.set_cons_succ])
    refine q_binop (v := .bool (xk == u)) (by rfl) (by (conv => lhs; whnf)) (by (conv => lhs; whnf)) (fun _ => rfl) (fun _ => rfl) ?_; (try simp only [Act.put, List.setIfInBounds_toArray, List.set_cons_zero, List.set_cons_succ])
    rw [hXY, hq]
    refine q_binop (v := .bool true) (by rfl) (by (conv => lhs; whnf)) (by (conv => lhs; whnf)) (fun _ => rfl) (fun _ => rfl) ?_; (try simp only [Act.put, List.setIfInBounds_toArray, List.set_cons_zero, List.set_cons_succ])
    refine q_move (by rfl) (by (conv => lhs; whnf)) ?_; (try simp only [Act.put, List.setIfInBounds_toArray, List.set_cons_zero, List.set_cons_succ])
    refine q_call (args := []) (by first | exact rfl | trivial | (intro a b; rfl)) (by rfl) (by rfl) (fun w hw => lives_any hw) ?_; (try simp only [Act.put, List.setIfInBounds_toArray, List.set_cons_zero, List.set_cons_succ])
    refine q_run (v := .bool true) (by rfl) (fun _ _ => by unfold execOp; simp [Act.eval]; rfl) ?_; (try simp only [Act.put, List.setIfInBounds_toArray, List.set_cons_zero, List.set_cons_succ])
    refine q_assign (by rfl) (by (conv => lhs; whnf)) ?_; (try simp only [Act.put, List.setIfInBounds_toArray, List.set_cons_zero, List.set_cons_succ])
    refine wq_nil ?_
    intro w' hS
    go_wp2
    go_ret
    exact ⟨congrArg Ending.returned (by (conv => lhs; whnf); try rfl), hS.drop.drop⟩
end Go.Proofs.Ytfgipcekegjalaa
