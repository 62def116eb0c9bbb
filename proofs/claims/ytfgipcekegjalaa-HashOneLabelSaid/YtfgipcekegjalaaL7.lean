/-
  The law HashOneLabel.
-/
import Derived.Test.YtfgipcekegjalaaL6
namespace Go.Proofs.Ytfgipcekegjalaa
open Go Go.RowKit
set_option linter.unusedVariables false
set_option linter.unusedSimpArgs false
theorem xor_zero8 {a b : UInt8} (h : a ^^^ b = a) : b = 0 := by
  have h2 := congrArg (a ^^^ ·) h
  simp only [← UInt8.xor_assoc, UInt8.xor_self, UInt8.zero_xor] at h2
  exact h2
theorem label_plain {x y : List UInt8} {m : List Int} {k : Nat} {xk u : UInt8} (hk : k < x.length) (hxk : x[k] = xk) (hy : x.set k (xk ^^^ u) = y) : (sumW x m = sumW y m) ↔ u = 0 := by
  constructor
  · intro e
    have h1 := label_one (a := x) (b := y) (l := m) (by rw [← hy]; simp) (k / 8) (fun i hi => by rw [← hy, List.getElem?_set_ne (by intro e; exact hi (by rw [e]))]) e
    have h2 : y[k]? = some (xk ^^^ u) := by rw [← hy, List.getElem?_set_self hk]
    rw [← h1, List.getElem?_eq_getElem hk, hxk] at h2
    exact xor_zero8 (Option.some.inj h2).symm
  · intro e
    have : y = x := by rw [← hy, e, UInt8.xor_zero, ← hxk]; exact List.set_getElem_self hk
    rw [this]
theorem beq_z8 (u : UInt8) : ((u.toNat : Int) == 0) = (u == 0) := by
  by_cases h : u = 0
  · subst h; rfl
  · have : ((u.toNat : Int) == 0) = false := by
      simp only [beq_eq_false_iff_ne, ne_eq]
      intro e
      exact h (UInt8.toNat_inj.1 (by simp; omega))
    rw [this]
    simp [h]
set_option maxRecDepth 8000 in
set_option maxHeartbeats 2000000 in
theorem HashOneLabel_any {W0 w : World} {L : List HP} (hS : St W0 w L) (s : ByteArray) (hs : s.size ≤ 9223372036854775807) {v : Value} {l : List Int} (hv : rd eI v l ∈ L) (hl : l.length ≤ 9223372036854775807)
    (at_ : Int) (ha1 : -9223372036854775808 ≤ at_) (ha2 : at_ ≤ 9223372036854775807) (u : UInt8) :
    Calls Try.prog 7 #[.string s, v, .int .i64 at_, .int .u8 (u.toNat : Int)] w fun e w' => e = .returned (.bool true) ∧ St W0 w' L := by
  go_enter Try.func7, Try.ntmps7
  go_wp2_with (go_at_call 12; (with_reducible refine stop_op ?_))
  refine (Ints_c hS hv (by omega) _ (by decide) (by decide)).mono ?_; clear hS; rintro _ w' ⟨Am, cm, m, me, ml, rfl, hS⟩; (try simp only [Int.toNat_ofNat, Int.reduceToNat] at ml)
  go_wp2_with (first | (go_at_call 11; refine (Short_c _ 29 _ (by decide) (by omega)).mono ?_; rintro e w' ⟨t, te, tl, rfl, rfl⟩) | ((with_reducible refine g_conv ?_); (with_reducible refine stop_op ?_)))
  refine (?_ : wpList _ _ _ _ _ _)
  refine wl_bytes hS rfl (by rfl) (by rfl) ?_
  clear hS
  intro A c w' hS
  obtain ⟨x, hx⟩ : ∃ x, (t ++ (⟨#[120]⟩ : ByteArray)).data.toList = x := ⟨_, rfl⟩
  have hxl : x.length = (t ++ (⟨#[120]⟩ : ByteArray)).size := by rw [← hx]; rfl
  have hsz : (t ++ (⟨#[120]⟩ : ByteArray)).size = t.size + 1 := by simp [ByteArray.size_append]; rfl
  rw [hx] at hS
  rw [← hxl] at hS ⊢
  have hx30 : x.length ≤ 30 := by omega
  have hx1 : 1 ≤ x.length := by omega
  clear hx hxl hsz
  go_wp2_with (go_at_call 16; (with_reducible refine stop_op ?_))
  refine (own_form (Few_src hS (.inl List.mem_cons_self) (by omega) _ (by omega))).mono ?_; clear hS; rintro _ w' ⟨By, cy, rfl, hS⟩
  go_wp2_with (go_at_call 21; (with_reducible refine stop_op ?_))
  refine (Around_c _ _ _ (by omega) (by omega) (by omega) (by omega)).mono ?_; rintro _ w' ⟨k, hk, rfl, rfl⟩
  obtain ⟨g, cap, sp, hvy, hc1, hc2, hc3, hS2⟩ := hS.own_cel (fun e => by rw [e] at hx1; simp at hx1)
  clear hS
  injection hvy with hv1 hv2 hv3
  clear hv2
  subst hv1
  subst hv3
  have hS := hS2
  clear hS2
  have hkx : k < x.length := by omega
  obtain ⟨xk, hxk⟩ : ∃ u, x[k] = u := ⟨_, rfl⟩
  have hget : (x.map bv ++ sp)[k]? = some (bv xk) := by rw [get_row hkx, hxk]
  have hlt : k < (x.map bv ++ sp).length := by simp; omega
  replace hget := Lib.hid hget
  replace hlt := Lib.hid hlt
  replace hxk := Lib.hid hxk
  go_upto_region 6 with (first | ((with_reducible refine g_idx ?_); refine wl_idxOwn1 (zi := k) (by rfl) (by rfl) (by rfl) (by rfl) (by omega) ?_) | ((with_reducible refine g_load ?_); refine wl_load hS (by rfl) (by rfl) (by rfl) (by with_reducible first | exact List.mem_cons_self | exact List.mem_cons_of_mem _ (List.mem_cons_self) | exact List.mem_cons_of_mem _ (List.mem_cons_of_mem _ (List.mem_cons_self)) | exact List.mem_cons_of_mem _ (List.mem_cons_of_mem _ (List.mem_cons_of_mem _ (List.mem_cons_self))) | exact List.mem_cons_of_mem _ (List.mem_cons_of_mem _ (List.mem_cons_of_mem _ (List.mem_cons_of_mem _ (List.mem_cons_self)))) | exact List.mem_cons_of_mem _ (List.mem_cons_of_mem _ (List.mem_cons_of_mem _ (List.mem_cons_of_mem _ (List.mem_cons_of_mem _ (List.mem_cons_self))))) | exact List.mem_cons_of_mem _ (List.mem_cons_of_mem _ (List.mem_cons_of_mem _ (List.mem_cons_of_mem _ (List.mem_cons_of_mem _ (List.mem_cons_of_mem _ (List.mem_cons_self)))))) | exact List.mem_cons_of_mem _ (List.mem_cons_of_mem _ (List.mem_cons_of_mem _ (List.mem_cons_of_mem _ (List.mem_cons_of_mem _ (List.mem_cons_of_mem _ (List.mem_cons_of_mem _ (List.mem_cons_self))))))) | exact List.mem_cons_of_mem _ (List.mem_cons_of_mem _ (List.mem_cons_of_mem _ (List.mem_cons_of_mem _ (List.mem_cons_of_mem _ (List.mem_cons_of_mem _ (List.mem_cons_of_mem _ (List.mem_cons_of_mem _ (List.mem_cons_self)))))))) | exact List.mem_cons_of_mem _ (List.mem_cons_of_mem _ (List.mem_cons_of_mem _ (List.mem_cons_of_mem _ (List.mem_cons_of_mem _ (List.mem_cons_of_mem _ (List.mem_cons_of_mem _ (List.mem_cons_of_mem _ (List.mem_cons_of_mem _ (List.mem_cons_self)))))))))) hget.out ?_) | ((with_reducible refine g_store ?_); refine wl_store hS (by rfl) (by rfl) (by rfl) (by rfl) (by rfl) (by with_reducible first | exact at0 | exact at1 | exact at2 | exact at3 | exact at4 | exact at5 | exact at6 | exact at7 | exact at8 | exact at9 | exact at10 | exact at11 | exact at12) hlt.out ?_; clear hS; intro w' hS; (try simp only [List.set_cons_zero, List.set_cons_succ] at hS); (try simp only [Act.eval, Act.put, List.setIfInBounds_toArray, List.set_cons_zero, List.set_cons_succ, Array.getD_eq_getD_getElem?, List.getElem?_toArray, List.getElem?_cons_succ, List.getElem?_cons_zero, Option.getD_some] at hS)))
  obtain ⟨y, hy⟩ : ∃ y, x.set k (xk ^^^ u) = y := ⟨_, rfl⟩
  have hyl : y.length = x.length := by rw [← hy]; simp
  rw [set_row (f := bv) hkx (u8_xor xk u), hy] at hS
  replace hS : St W0 w' (own 5 eB (.slice (some ⟨g, 0, none⟩) x.length cy) y :: rd eB (.slice A x.length c) x :: own 3 eI (.slice Am m.length cm) m :: L) := by
    have := St.cel_own (f := bv) (hf := fun _ => rfl) (l := y) hS (by omega) hc2 (by omega)
    rw [hyl] at this
    exact this
  obtain ⟨X, hX⟩ : ∃ X, sumW x m = X := ⟨_, rfl⟩
  obtain ⟨Y, hY⟩ : ∃ Y, sumW y m = Y := ⟨_, rfl⟩
  have hpl := label_plain (m := m) hkx hxk.out hy
  obtain ⟨q, hq⟩ : ∃ q, ((u.toNat : Int) == 0) = q := ⟨_, rfl⟩
  have hXY : ((X.toNat : Int) == (Y.toNat : Int)) = q := by
    rw [← hq, beq_z8]
    by_cases hu : u = 0
    · rw [← hX, ← hY, hpl.2 hu, hu]; simp
    · rw [beq_f fun e => hu (hpl.1 (by rw [hX, hY, e]))]; simp [hu]
  have sz1 : (ByteArray.mk x.toArray).size ≤ 100000000000000 := by show x.toArray.size ≤ _; simp; omega
  have sz2 : (ByteArray.mk y.toArray).size ≤ 100000000000000 := by show y.toArray.size ≤ _; simp; omega
  refine wp_region_st hS (by kernel_rfl) (by kernel_rfl) ?_
  cases q
  all_goals
    refine q_move (by rfl) (by (conv => lhs; whnf)) ?_; (try simp only [Act.put, List.setIfInBounds_toArray, List.set_cons_zero, List.set_cons_succ])
    refine q_string (l := x) (by rfl) (by (conv => lhs; whnf)) (.inl (List.mem_cons_of_mem _ List.mem_cons_self)) ?_; (try simp only [Act.put, List.setIfInBounds_toArray, List.set_cons_zero, List.set_cons_succ])
    refine q_move (by rfl) (by (conv => lhs; whnf)) ?_; (try simp only [Act.put, List.setIfInBounds_toArray, List.set_cons_zero, List.set_cons_succ])
    refine q_call (args := [.string ⟨x.toArray⟩, .slice Am m.length cm]) (by first | exact rfl | trivial | (intro a b; rfl)) (by rfl) (by rfl) (fun w hw => (hSum_x (s := ⟨x.toArray⟩) hX hw sz1 Src.head.c.c (by omega))) ?_; (try simp only [Act.put, List.setIfInBounds_toArray, List.set_cons_zero, List.set_cons_succ])
    refine q_move (by rfl) (by (conv => lhs; whnf)) ?_; (try simp only [Act.put, List.setIfInBounds_toArray, List.set_cons_zero, List.set_cons_succ])
    refine q_string (l := y) (by rfl) (by (conv => lhs; whnf)) Src.head ?_; (try simp only [Act.put, List.setIfInBounds_toArray, List.set_cons_zero, List.set_cons_succ])
    refine q_move (by rfl) (by (conv => lhs; whnf)) ?_; (try simp only [Act.put, List.setIfInBounds_toArray, List.set_cons_zero, List.set_cons_succ])
    refine q_call (args := [.string ⟨y.toArray⟩, .slice Am m.length cm]) (by first | exact rfl | trivial | (intro a b; rfl)) (by rfl) (by rfl) (fun w hw => (hSum_x (s := ⟨y.toArray⟩) hY hw sz2 Src.head.c.c (by omega))) ?_; (try simp only [Act.put, List.setIfInBounds_toArray, List.set_cons_zero, List.set_cons_succ])
    refine q_binop (v := .bool ((X.toNat : Int) == (Y.toNat : Int))) (by rfl) (by (conv => lhs; whnf)) (by (conv => lhs; whnf)) (fun _ => rfl) (fun _ => rfl) ?_; (try simp only [Act.put, List.setIfInBounds_toArray, List.set_cons_zero, List.set_cons_succ])
    refine q_move (by rfl) (by (conv => lhs; whnf)) ?_; (try simp only [Act.put, List.setIfInBounds_toArray, List.set_cons_zero, List.set_cons_succ])
    refine q_binop (v := .bool ((u.toNat : Int) == 0)) (by rfl) (by (conv => lhs; whnf)) (by (conv => lhs; whnf)) (fun _ => rfl) (fun _ => rfl) ?_; (try simp only [Act.put, List.setIfInBounds_toArray, List.set_cons_zero, List.set_cons_succ])
    rw [hXY, hq]
    refine q_binop (v := .bool true) (by rfl) (by (conv => lhs; whnf)) (by (conv => lhs; whnf)) (fun _ => rfl) (fun _ => rfl) ?_; (try simp only [Act.put, List.setIfInBounds_toArray, List.set_cons_zero, List.set_cons_succ])
    refine q_move (by rfl) (by (conv => lhs; whnf)) ?_; (try simp only [Act.put, List.setIfInBounds_toArray, List.set_cons_zero, List.set_cons_succ])
    refine q_call (args := []) (by first | exact rfl | trivial | (intro a b; rfl)) (by rfl) (by rfl) (fun w hw => lives_any hw) ?_; (try simp only [Act.put, List.setIfInBounds_toArray, List.set_cons_zero, List.set_cons_succ])
    refine q_run (v := .bool true) (by rfl) (fun _ _ => by unfold execOp; simp [Act.eval]; rfl) ?_; (try simp only [Act.put, List.setIfInBounds_toArray, List.set_cons_zero, List.set_cons_succ])
    refine q_assign (by rfl) (by (conv => lhs; whnf)) ?_; (try simp only [Act.put, List.setIfInBounds_toArray, List.set_cons_zero, List.set_cons_succ])
    refine wq_nil ?_
    intro w' hS
    go_wp2
    go_ret
    exact ⟨congrArg Ending.returned (by (conv => lhs; whnf); try rfl), hS.drop.drop.drop⟩
end Go.Proofs.Ytfgipcekegjalaa
