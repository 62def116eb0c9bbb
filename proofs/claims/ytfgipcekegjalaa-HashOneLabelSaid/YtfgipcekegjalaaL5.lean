/-
  The law HashOneGroup.
-/
import Derived.Test.YtfgipcekegjalaaHw6
import Derived.Test.YtfgipcekegjalaaHr
import Derived.Test.YtfgipcekegjalaaRow
import Derived.Test.YtfgipcekegjalaaSt6
namespace Go.Proofs.Ytfgipcekegjalaa
open Go Go.RowKit
set_option linter.unusedVariables false
set_option linter.unusedSimpArgs false
theorem around_rng {n m : Int} (hm : 1 ≤ m) : 0 ≤ around n m ∧ around n m < m := by
  unfold around
  split
  · exact ⟨Int.emod_nonneg _ (by omega), Int.emod_lt_of_pos _ (by omega)⟩
  · exact ⟨Int.emod_nonneg _ (by omega), Int.emod_lt_of_pos _ (by omega)⟩
theorem Around_c (n most : Int) (w : World) (h1 : -9223372036854775808 ≤ n) (h2 : n ≤ 9223372036854775807) (h3 : 1 ≤ most) (h4 : most ≤ 9223372036854775807) :
    Calls Try.prog 21 #[iv n, iv most] w fun e w' => ∃ k : Nat, (k : Int) < most ∧ e = .returned (.int .i64 (k : Int)) ∧ w = w' := by
  refine (Around_any n most w h1 h2 h3 h4).mono ?_
  rintro _ _ ⟨rfl, h⟩
  have := around_rng (n := n) h3
  refine ⟨(around n most).toNat, by omega, ?_, h⟩
  have e : ((around n most).toNat : Int) = around n most := by omega
  rw [e]
theorem SameBytes_q {q : Bool} {W0 w : World} {L : List HP} {va vb : Value} {la lb : List UInt8} (e : decide (la = lb) = q) (hS : St W0 w L) (ha : Src L eB va la) (hb : Src L eB vb lb) (hla : la.length ≤ 140737488355328) (hlb : lb.length ≤ 140737488355328) :
    Calls Try.prog 22 #[va, vb] w fun e w' => e = .returned (.bool q) ∧ St W0 w' L := e ▸ SameBytes_any hS ha hb hla hlb
theorem set_row {α : Type} {f : α → Value} {x : List α} {sp : List Value} {k : Nat} {u : α} {v : Value} (hk : k < x.length) (hv : v = f u) : (x.map f ++ sp).set k v = (x.set k u).map f ++ sp := by
  rw [hv, List.set_append_left _ _ (by simpa using hk), List.map_set]
theorem u8_xor (a b : UInt8) : (Value.int .u8 (bits .xor .u8 (a.toNat : Int) (b.toNat : Int))) = bv (a ^^^ b) := by
  have ha : BitVec.ofInt 8 (a.toNat : Int) = a.toBitVec := by
    apply BitVec.eq_of_toNat_eq
    rw [BitVec.ofInt_natCast, BitVec.toNat_ofNat]
    exact Nat.mod_eq_of_lt a.toNat_lt
  have hb : BitVec.ofInt 8 (b.toNat : Int) = b.toBitVec := by
    apply BitVec.eq_of_toNat_eq
    rw [BitVec.ofInt_natCast, BitVec.toNat_ofNat]
    exact Nat.mod_eq_of_lt b.toNat_lt
  show Value.int .u8 (IntKind.u8.wrap ((BitVec.ofInt 8 (a.toNat : Int) ^^^ BitVec.ofInt 8 (b.toNat : Int)).toNat : Int)) = _
  rw [ha, hb]
  have e : ((a.toBitVec ^^^ b.toBitVec).toNat : Int) = ((a ^^^ b).toNat : Int) := rfl
  rw [e]
  have h := (a ^^^ b).toNat_lt
  rw [IntKind.wrap_u8]
  congr 1
  omega
theorem get_row {α : Type} {f : α → Value} {x : List α} {sp : List Value} {k : Nat} (hk : k < x.length) : (x.map f ++ sp)[k]? = some (f x[k]) := by
  rw [List.getElem?_append_left (by simpa using hk), List.getElem?_map, List.getElem?_eq_getElem hk]; rfl
set_option maxRecDepth 8000 in
set_option maxHeartbeats 2000000 in
theorem HashOneGroup_any {W0 w : World} {L : List HP} (hS : St W0 w L) (s : ByteArray) (hs : s.size ≤ 9223372036854775807) {v : Value} {l : List UInt8} (hv : rd eB v l ∈ L) (hl : l.length ≤ 9223372036854775807) (at_ : Int) (ha1 : -9223372036854775808 ≤ at_) (ha2 : at_ ≤ 9223372036854775807) (one two : UInt8) :
    Calls Try.prog 6 #[.string s, v, .int .i64 at_, .int .u8 (one.toNat : Int), .int .u8 (two.toNat : Int)] w fun e w' => e = .returned (.bool true) ∧ St W0 w' L := by
  go_enter Try.func6, Try.ntmps6
  go_wp2_with (first | (go_at_call 11; refine (Short_c _ 20 _ (by decide) (by omega)).mono ?_; rintro e w' ⟨t, te, tl, rfl, rfl⟩) | (go_at_call 16; (with_reducible refine stop_op ?_)))
  refine (Few_c hS hv (by omega) _ (by decide) (by decide)).mono ?_; clear hS; rintro _ w' ⟨An, cn, n, ne, nl, rfl, hS⟩; (try simp only [Int.toNat_ofNat, Int.reduceToNat] at nl)
  go_wp2_with (first | ((with_reducible refine g_lit ?_); refine L_push (el := (65 : UInt8)) hS (by rfl) (fun _ => by rfl) (fun _ => (by conv => lhs; whnf)) (of_decide_eq_true (by rfl)) (by with_reducible first | exact at0 | exact at1 | exact at2 | exact at3 | exact at4 | exact at5 | exact at6 | exact at7 | exact at8 | exact at9 | exact at10 | exact at11 | exact at12) (by rfl) (by rfl) (by decide) (by decide) (fun _ _ _ => by rfl) (by (try simp); omega) ?_; clear hS; intro A A1 c w' hS; (try simp only [List.set_cons_zero, List.set_cons_succ] at hS)) | (go_at_call 16; (with_reducible refine stop_op ?_)))
  obtain ⟨x, hx⟩ : ∃ x, n ++ [65] = x := ⟨_, rfl⟩
  have hxl : x.length = n.length + 1 := by rw [← hx]; simp
  rw [hx] at hS
  rw [← hxl] at hS ⊢
  have hx40 : x.length ≤ 40 := by omega
  have hx1 : 1 ≤ x.length := by omega
  clear hx ne hxl
  refine (own_form (Few_src hS Src.head (by omega) _ (by omega))).mono ?_; clear hS; rintro _ w' ⟨By, cy, rfl, hS⟩
  go_wp2_with (go_at_call 21; (with_reducible refine stop_op ?_))
  refine (Around_c _ _ _ (by omega) (by omega) (by omega) (by omega)).mono ?_; rintro _ w' ⟨k, hk, rfl, rfl⟩
  obtain ⟨g, cap, sp, hvy, hc1, hc2, hc3, hS2⟩ := hS.own_cel (fun e => by rw [e] at hx1; simp at hx1)
  clear hS
  injection hvy with hv1 hv2 hv3
  clear hv2
  subst hv1
  subst hv3
  have hS := hS2
  clear hS2
  have hkx : k < x.length := by omega
  obtain ⟨xk, hxk⟩ : ∃ u, x[k] = u := ⟨_, rfl⟩
  have hget : (x.map bv ++ sp)[k]? = some (bv xk) := by rw [get_row hkx, hxk]
  have hlt : k < (x.map bv ++ sp).length := by simp; omega
  replace hget := Lib.hid hget
  replace hlt := Lib.hid hlt
  replace hxk := Lib.hid hxk
  go_upto_region 6 with (first | ((with_reducible refine g_idx ?_); refine wl_idxOwn1 (zi := k) (by rfl) (by rfl) (by rfl) (by rfl) (by omega) ?_) | ((with_reducible refine g_load ?_); refine wl_load hS (by rfl) (by rfl) (by rfl) (by with_reducible first | exact List.mem_cons_self | exact List.mem_cons_of_mem _ (List.mem_cons_self) | exact List.mem_cons_of_mem _ (List.mem_cons_of_mem _ (List.mem_cons_self)) | exact List.mem_cons_of_mem _ (List.mem_cons_of_mem _ (List.mem_cons_of_mem _ (List.mem_cons_self))) | exact List.mem_cons_of_mem _ (List.mem_cons_of_mem _ (List.mem_cons_of_mem _ (List.mem_cons_of_mem _ (List.mem_cons_self)))) | exact List.mem_cons_of_mem _ (List.mem_cons_of_mem _ (List.mem_cons_of_mem _ (List.mem_cons_of_mem _ (List.mem_cons_of_mem _ (List.mem_cons_self))))) | exact List.mem_cons_of_mem _ (List.mem_cons_of_mem _ (List.mem_cons_of_mem _ (List.mem_cons_of_mem _ (List.mem_cons_of_mem _ (List.mem_cons_of_mem _ (List.mem_cons_self)))))) | exact List.mem_cons_of_mem _ (List.mem_cons_of_mem _ (List.mem_cons_of_mem _ (List.mem_cons_of_mem _ (List.mem_cons_of_mem _ (List.mem_cons_of_mem _ (List.mem_cons_of_mem _ (List.mem_cons_self))))))) | exact List.mem_cons_of_mem _ (List.mem_cons_of_mem _ (List.mem_cons_of_mem _ (List.mem_cons_of_mem _ (List.mem_cons_of_mem _ (List.mem_cons_of_mem _ (List.mem_cons_of_mem _ (List.mem_cons_of_mem _ (List.mem_cons_self)))))))) | exact List.mem_cons_of_mem _ (List.mem_cons_of_mem _ (List.mem_cons_of_mem _ (List.mem_cons_of_mem _ (List.mem_cons_of_mem _ (List.mem_cons_of_mem _ (List.mem_cons_of_mem _ (List.mem_cons_of_mem _ (List.mem_cons_of_mem _ (List.mem_cons_self)))))))))) hget.out ?_) | ((with_reducible refine g_store ?_); refine wl_store hS (by rfl) (by rfl) (by rfl) (by rfl) (by rfl) (by with_reducible first | exact at0 | exact at1 | exact at2 | exact at3 | exact at4 | exact at5 | exact at6 | exact at7 | exact at8 | exact at9 | exact at10 | exact at11 | exact at12) hlt.out ?_; clear hS; intro w' hS; (try simp only [List.set_cons_zero, List.set_cons_succ] at hS); (try simp only [Act.eval, Act.put, List.setIfInBounds_toArray, List.set_cons_zero, List.set_cons_succ, Array.getD_eq_getD_getElem?, List.getElem?_toArray, List.getElem?_cons_succ, List.getElem?_cons_zero, Option.getD_some] at hS)))
  obtain ⟨y1, hy1⟩ : ∃ y1, x.set k (xk ^^^ one) = y1 := ⟨_, rfl⟩
  have hl1 : y1.length = x.length := by rw [← hy1]; simp
  have hd1 : ∀ i, i ≠ k → x[i]? = y1[i]? := by intro i hi; rw [← hy1, List.getElem?_set_ne (by omega)]
  rw [set_row hkx (u8_xor xk one), hy1] at hS
  replace hy1 := Lib.hid hy1
  replace hl1 := Lib.hid hl1
  replace hd1 := Lib.hid hd1
  by_cases hk1 : k + 1 < x.length
  · obtain ⟨xk2, hxk2⟩ : ∃ u, y1[k + 1]'(by rw [hl1.out]; exact hk1) = u := ⟨_, rfl⟩
    have hget2 : (y1.map bv ++ sp)[k + 1]? = some (bv xk2) := by rw [get_row (by rw [hl1.out]; exact hk1), hxk2]
    have hlt2 : k + 1 < (y1.map bv ++ sp).length := by simp; have := hl1.out; omega
    replace hget2 := Lib.hid hget2
    replace hlt2 := Lib.hid hlt2
    replace hxk2 := Lib.hid hxk2
    by_cases hmod : (k + 1) % 8 = 0
    · have hmb : (((k : Int) + 1) % 8 != 0) = false := by simp; omega
      go_upto_region 8 with fail
      obtain ⟨y, rfl⟩ : ∃ y, y = y1 := ⟨_, rfl⟩
      obtain ⟨hyl, hd⟩ : y.length = x.length ∧ ∀ i, i / 8 ≠ k / 8 → x[i]? = y[i]? := ⟨hl1.out, fun i hi => hd1.out i (fun e => hi (by rw [e]))⟩
      replace hS : St W0 w' (own 5 eB (.slice (some ⟨g, 0, none⟩) x.length cy) y :: own 5 eB (.slice A x.length c) x :: L) := by
        have := St.cel_own (f := bv) (hf := fun _ => rfl) (l := y) hS (by omega) hc2 (by omega)
        rw [hyl] at this
        exact this
      have hlen40 : y.length ≤ 40 := by omega
      obtain ⟨X, hX⟩ : ∃ X, bytesW t.data.toList x = X := ⟨_, rfl⟩
      obtain ⟨Y, hY⟩ : ∃ Y, bytesW t.data.toList y = Y := ⟨_, rfl⟩
      obtain ⟨q, hq⟩ : ∃ q, decide (x = y) = q := ⟨_, rfl⟩
      have hXY : ((X.toNat : Int) == (Y.toNat : Int)) = q := by
        rw [← hq]
        by_cases hxy : x = y
        · rw [← hX, ← hY, hxy]; simp
        · rw [beq_f fun e => hxy (bytes_one (t := t.data.toList) hyl.symm (k / 8) hd (by omega) (by rw [hX, hY, e]))]; simp [hxy]
      replace hX := Lib.hid hX
      replace hY := Lib.hid hY
      replace hq := Lib.hid hq
      replace hd := Lib.hid hd
      replace hyl := Lib.hid hyl
      cases q
      all_goals
        go_wp2_with (go_at_call 17; (with_reducible refine stop_op ?_))
        refine (hBytes_x hX.out hS (by omega) Src.head.c (by omega)).mono ?_; clear hS; rintro _ w' ⟨rfl, hS⟩
        go_wp2_with (go_at_call 17; (with_reducible refine stop_op ?_))
        refine (hBytes_x hY.out hS (by omega) Src.head (by omega)).mono ?_; clear hS; rintro _ w' ⟨rfl, hS⟩
        go_wp2_with (go_at_call 22; (with_reducible refine stop_op ?_))
        refine (SameBytes_q hq.out hS Src.head.c Src.head (by omega) (by omega)).mono ?_; clear hS; rintro _ w' ⟨rfl, hS⟩
        go_wp2_with (go_at_call 15; (with_reducible refine stop_op ?_))
        refine (lives_any hS).mono ?_; clear hS; rintro _ w' ⟨rfl, hS⟩
        go_wp2
        go_ret
        exact ⟨congrArg Ending.returned (by (conv => lhs; whnf); try rfl), hS.drop.drop⟩
    · have hmb : (((k : Int) + 1) % 8 != 0) = true := by simp; omega
      go_upto_region 8 with (first | ((with_reducible refine g_idx ?_); refine wl_idxOwn1 (zi := (k + 1)) (by rfl) (by rfl) (by rfl) (by rfl) (by omega) ?_) | ((with_reducible refine g_load ?_); refine wl_load hS (by rfl) (by rfl) (by rfl) (by with_reducible first | exact List.mem_cons_self | exact List.mem_cons_of_mem _ (List.mem_cons_self) | exact List.mem_cons_of_mem _ (List.mem_cons_of_mem _ (List.mem_cons_self)) | exact List.mem_cons_of_mem _ (List.mem_cons_of_mem _ (List.mem_cons_of_mem _ (List.mem_cons_self))) | exact List.mem_cons_of_mem _ (List.mem_cons_of_mem _ (List.mem_cons_of_mem _ (List.mem_cons_of_mem _ (List.mem_cons_self)))) | exact List.mem_cons_of_mem _ (List.mem_cons_of_mem _ (List.mem_cons_of_mem _ (List.mem_cons_of_mem _ (List.mem_cons_of_mem _ (List.mem_cons_self))))) | exact List.mem_cons_of_mem _ (List.mem_cons_of_mem _ (List.mem_cons_of_mem _ (List.mem_cons_of_mem _ (List.mem_cons_of_mem _ (List.mem_cons_of_mem _ (List.mem_cons_self)))))) | exact List.mem_cons_of_mem _ (List.mem_cons_of_mem _ (List.mem_cons_of_mem _ (List.mem_cons_of_mem _ (List.mem_cons_of_mem _ (List.mem_cons_of_mem _ (List.mem_cons_of_mem _ (List.mem_cons_self))))))) | exact List.mem_cons_of_mem _ (List.mem_cons_of_mem _ (List.mem_cons_of_mem _ (List.mem_cons_of_mem _ (List.mem_cons_of_mem _ (List.mem_cons_of_mem _ (List.mem_cons_of_mem _ (List.mem_cons_of_mem _ (List.mem_cons_self)))))))) | exact List.mem_cons_of_mem _ (List.mem_cons_of_mem _ (List.mem_cons_of_mem _ (List.mem_cons_of_mem _ (List.mem_cons_of_mem _ (List.mem_cons_of_mem _ (List.mem_cons_of_mem _ (List.mem_cons_of_mem _ (List.mem_cons_of_mem _ (List.mem_cons_self)))))))))) hget2.out ?_) | ((with_reducible refine g_store ?_); refine wl_store hS (by rfl) (by rfl) (by rfl) (by rfl) (by rfl) (by with_reducible first | exact at0 | exact at1 | exact at2 | exact at3 | exact at4 | exact at5 | exact at6 | exact at7 | exact at8 | exact at9 | exact at10 | exact at11 | exact at12) hlt2.out ?_; clear hS; intro w' hS; (try simp only [List.set_cons_zero, List.set_cons_succ] at hS); (try simp only [Act.eval, Act.put, List.setIfInBounds_toArray, List.set_cons_zero, List.set_cons_succ, Array.getD_eq_getD_getElem?, List.getElem?_toArray, List.getElem?_cons_succ, List.getElem?_cons_zero, Option.getD_some] at hS)))
      obtain ⟨y, hy⟩ : ∃ y, y1.set (k + 1) (xk2 ^^^ two) = y := ⟨_, rfl⟩
      rw [set_row (by rw [hl1.out]; exact hk1) (u8_xor xk2 two), hy] at hS
      obtain ⟨hyl, hd⟩ : y.length = x.length ∧ ∀ i, i / 8 ≠ k / 8 → x[i]? = y[i]? := ⟨by rw [← hy, List.length_set]; exact hl1.out, fun i hi => by rw [← hy, List.getElem?_set_ne (by omega)]; exact hd1.out i (by omega)⟩
      replace hS : St W0 w' (own 5 eB (.slice (some ⟨g, 0, none⟩) x.length cy) y :: own 5 eB (.slice A x.length c) x :: L) := by
        have := St.cel_own (f := bv) (hf := fun _ => rfl) (l := y) hS (by omega) hc2 (by omega)
        rw [hyl] at this
        exact this
      have hlen40 : y.length ≤ 40 := by omega
      obtain ⟨X, hX⟩ : ∃ X, bytesW t.data.toList x = X := ⟨_, rfl⟩
      obtain ⟨Y, hY⟩ : ∃ Y, bytesW t.data.toList y = Y := ⟨_, rfl⟩
      obtain ⟨q, hq⟩ : ∃ q, decide (x = y) = q := ⟨_, rfl⟩
      have hXY : ((X.toNat : Int) == (Y.toNat : Int)) = q := by
        rw [← hq]
        by_cases hxy : x = y
        · rw [← hX, ← hY, hxy]; simp
        · rw [beq_f fun e => hxy (bytes_one (t := t.data.toList) hyl.symm (k / 8) hd (by omega) (by rw [hX, hY, e]))]; simp [hxy]
      replace hX := Lib.hid hX
      replace hY := Lib.hid hY
      replace hq := Lib.hid hq
      replace hd := Lib.hid hd
      replace hyl := Lib.hid hyl
      cases q
      all_goals
        go_wp2_with (go_at_call 17; (with_reducible refine stop_op ?_))
        refine (hBytes_x hX.out hS (by omega) Src.head.c (by omega)).mono ?_; clear hS; rintro _ w' ⟨rfl, hS⟩
        go_wp2_with (go_at_call 17; (with_reducible refine stop_op ?_))
        refine (hBytes_x hY.out hS (by omega) Src.head (by omega)).mono ?_; clear hS; rintro _ w' ⟨rfl, hS⟩
        go_wp2_with (go_at_call 22; (with_reducible refine stop_op ?_))
        refine (SameBytes_q hq.out hS Src.head.c Src.head (by omega) (by omega)).mono ?_; clear hS; rintro _ w' ⟨rfl, hS⟩
        go_wp2_with (go_at_call 15; (with_reducible refine stop_op ?_))
        refine (lives_any hS).mono ?_; clear hS; rintro _ w' ⟨rfl, hS⟩
        go_wp2
        go_ret
        exact ⟨congrArg Ending.returned (by (conv => lhs; whnf); try rfl), hS.drop.drop⟩
  · have hk2 := hk1
    by_cases htriv : True
    · go_upto_region 8 with fail
      obtain ⟨y, rfl⟩ : ∃ y, y = y1 := ⟨_, rfl⟩
      obtain ⟨hyl, hd⟩ : y.length = x.length ∧ ∀ i, i / 8 ≠ k / 8 → x[i]? = y[i]? := ⟨hl1.out, fun i hi => hd1.out i (fun e => hi (by rw [e]))⟩
      replace hS : St W0 w' (own 5 eB (.slice (some ⟨g, 0, none⟩) x.length cy) y :: own 5 eB (.slice A x.length c) x :: L) := by
        have := St.cel_own (f := bv) (hf := fun _ => rfl) (l := y) hS (by omega) hc2 (by omega)
        rw [hyl] at this
        exact this
      have hlen40 : y.length ≤ 40 := by omega
      obtain ⟨X, hX⟩ : ∃ X, bytesW t.data.toList x = X := ⟨_, rfl⟩
      obtain ⟨Y, hY⟩ : ∃ Y, bytesW t.data.toList y = Y := ⟨_, rfl⟩
      obtain ⟨q, hq⟩ : ∃ q, decide (x = y) = q := ⟨_, rfl⟩
      have hXY : ((X.toNat : Int) == (Y.toNat : Int)) = q := by
        rw [← hq]
        by_cases hxy : x = y
        · rw [← hX, ← hY, hxy]; simp
        · rw [beq_f fun e => hxy (bytes_one (t := t.data.toList) hyl.symm (k / 8) hd (by omega) (by rw [hX, hY, e]))]; simp [hxy]
      replace hX := Lib.hid hX
      replace hY := Lib.hid hY
      replace hq := Lib.hid hq
      replace hd := Lib.hid hd
      replace hyl := Lib.hid hyl
      cases q
      all_goals
        go_wp2_with (go_at_call 17; (with_reducible refine stop_op ?_))
        refine (hBytes_x hX.out hS (by omega) Src.head.c (by omega)).mono ?_; clear hS; rintro _ w' ⟨rfl, hS⟩
        go_wp2_with (go_at_call 17; (with_reducible refine stop_op ?_))
        refine (hBytes_x hY.out hS (by omega) Src.head (by omega)).mono ?_; clear hS; rintro _ w' ⟨rfl, hS⟩
        go_wp2_with (go_at_call 22; (with_reducible refine stop_op ?_))
        refine (SameBytes_q hq.out hS Src.head.c Src.head (by omega) (by omega)).mono ?_; clear hS; rintro _ w' ⟨rfl, hS⟩
        go_wp2_with (go_at_call 15; (with_reducible refine stop_op ?_))
        refine (lives_any hS).mono ?_; clear hS; rintro _ w' ⟨rfl, hS⟩
        go_wp2
        go_ret
        exact ⟨congrArg Ending.returned (by (conv => lhs; whnf); try rfl), hS.drop.drop⟩
    · exact absurd trivial htriv
end Go.Proofs.Ytfgipcekegjalaa
