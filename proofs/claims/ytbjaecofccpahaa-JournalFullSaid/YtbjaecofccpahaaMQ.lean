/-
  Walks of package wire by the engine: lists, byte slices, strings.
-/
import Derived.Test.YtbjaecofccpahaaMP
namespace Go.Proofs.Ytbjaecofccpahaa
open Go Go.RowKit
set_option linter.unusedVariables false
set_option linter.unusedSimpArgs false
set_option maxRecDepth 20000
set_option synthInstance.maxSize 100000
set_option synthInstance.maxHeartbeats 400000
/-- what a round of list keeps -/
def LIV {α : Type} (f : Rs → α × Rs) (m most : Nat) (fin : List α × Rs) (i : Nat) (v : Value) (out : List α) (b : List UInt8) (e : Int) : Prop :=
  i ≤ m ∧ out.length = i ∧ (∃ A c, v = .slice A i c) ∧ b.length ≤ most ∧ (m ≤ most ∨ e ≠ 0) ∧ (out ++ (rMany f (m - i) (b, e)).1, (rMany f (m - i) (b, e)).2) = fin
theorem rI_len (s : Rs) : (rI s).2.1.length ≤ s.1.length := rU_len s
section
variable {W0 : World} {L : List HP}
theorem listB_ct {p : Nat} {l : List UInt8} {bs bs' : List UInt8} {e e' : Int} (h : rList rNext (bs, e) = (l, (bs', e'))) (hl : bs.length ≤ 1000000000000) : CT Try.prog 55 #[.pointer (some ⟨p, 0, none⟩), .func (.func 56) #[.pointer (some ⟨p, 0, none⟩)] #[]] W0 (rr p bs e :: L) fun r L' => ∃ A c, r = .slice A l.length c ∧ L' = own 5 eB (.slice A l.length c) l :: rr p bs' e' :: L := by
  obtain ⟨m, b1, e1, hu⟩ : ∃ m b1 e1, rU (bs, e) = (m, (b1, e1)) := ⟨_, _, _, rfl⟩
  have hm := rU_lt (bs, e)
  have hb1 := rU_len (bs, e)
  rw [hu] at hm hb1
  dsimp only at hm hb1
  obtain ⟨b2, e2, hf⟩ : ∃ b2 e2, (if b1.length < m then rFail (b1, e1) 3 else (b1, e1)) = (b2, e2) := ⟨_, _, rfl⟩
  obtain ⟨l3, b3, e3, hmany⟩ : ∃ l3 b3 e3, rMany rNext m (b2, e2) = (l3, (b3, e3)) := ⟨_, _, _, rfl⟩
  have hfin : (if e3 = 0 then l3 else [], ((b3, e3) : Rs)) = (l, (bs', e')) := by
    rw [← h]
    unfold rList
    simp only [hu, hf, hmany]
  simp only [Prod.mk.injEq] at hfin
  obtain ⟨hl3, rfl, rfl⟩ := hfin
  clear h
  have hcase : b2.length ≤ bs.length ∧ (m ≤ b1.length ∨ e2 ≠ 0) := by
    by_cases hlt : b1.length < m
    · rw [if_pos hlt] at hf
      by_cases h0 : e1 = 0
      · simp only [rFail, h0, if_true, Prod.mk.injEq] at hf
        rw [← hf.1]
        exact ⟨hb1, .inr (by rw [← hf.2]; decide)⟩
      · simp only [rFail, h0, if_false, Prod.mk.injEq] at hf
        rw [← hf.1]
        exact ⟨hb1, .inr (by rw [← hf.2]; exact h0)⟩
    · rw [if_neg hlt] at hf
      simp only [Prod.mk.injEq] at hf
      rw [← hf.1]
      exact ⟨hb1, .inl (by omega)⟩
  obtain ⟨hb2, hme⟩ := hcase
  replace hu := Lib.hid hu
  replace hl3 := Lib.hid hl3
  replace hmany := Lib.hid hmany
  refine CT_enter Try.func55 rfl ?_; (simp only [Try.ntmps55, List.size_toArray, List.length_cons, List.length_nil, Nat.reduceAdd, Nat.reduceSub, Array.replicate_succ, Array.replicate_zero, List.push_toArray, List.append_toArray, List.nil_append, List.cons_append])
  repeat' (first | refine go ?_ | intro _ | (apply cG; first | refine cT ?_ | refine cF ?_ | refine cS (fun _ => ?_) fun _ => ?_) | (apply gW; refine sW ?_) | (apply gI; refine sI ?_) | (apply gE; refine sE ?_) | (apply gP; refine sP ?_) | (apply gC; refine sC ?_) | (apply gD; refine sD ?_) | fail)
  refine O_d (dy_call ArgsI.pf (by first | exact rfl | trivial | (intro a b; rfl)) (Uint_ct hu.out (by omega))) ?_; rintro _ _ ⟨_, ⟨rfl, rfl⟩, rfl⟩; refine O_n ?_
  repeat' (first | refine go ?_ | intro _ | (apply cG; first | refine cT ?_ | refine cF ?_ | refine cS (fun _ => ?_) fun _ => ?_) | (apply gW; refine sW ?_) | (apply gI; refine sI ?_) | (apply gE; refine sE ?_) | (apply gP; refine sP ?_) | (apply gC; refine sC ?_) | (apply gD; refine sD ?_) | fail)
  refine rr_open fun A n c hn => ?_
  by_cases hlt : b1.length < m
  rotate_left
  rw [if_neg hlt] at hf
  simp only [Prod.mk.injEq] at hf
  obtain ⟨rfl, rfl⟩ := hf
  repeat' (first | refine go ?_ | intro _ | (apply cG; first | refine cT ?_ | refine cF ?_ | refine cS (fun _ => ?_) fun _ => ?_) | (apply gW; refine sW ?_) | (apply gI; refine sI ?_) | (apply gE; refine sE ?_) | (apply gP; refine sP ?_) | (apply gC; refine sC ?_) | (apply gD; refine sD ?_) | fail)
  refine C_sub rr_sub ?_
  rotate_left
  rw [if_pos hlt] at hf
  replace hf := Lib.hid hf
  repeat' (first | refine go ?_ | intro _ | (apply cG; first | refine cT ?_ | refine cF ?_ | refine cS (fun _ => ?_) fun _ => ?_) | (apply gW; refine sW ?_) | (apply gI; refine sI ?_) | (apply gE; refine sE ?_) | (apply gP; refine sP ?_) | (apply gC; refine sC ?_) | (apply gD; refine sD ?_) | fail)
  refine O_sub rr_sub ?_
  refine O_d (dy_call ArgsI.pf (by first | exact rfl | trivial | (intro a b; rfl)) (fail_ct hf.out)) ?_; rintro _ _ ⟨_, rfl, rfl⟩; refine O_n ?_
  repeat' (first | refine go ?_ | intro _ | (apply cG; first | refine cT ?_ | refine cF ?_ | refine cS (fun _ => ?_) fun _ => ?_) | (apply gW; refine sW ?_) | (apply gI; refine sI ?_) | (apply gE; refine sE ?_) | (apply gP; refine sP ?_) | (apply gC; refine sC ?_) | (apply gD; refine sD ?_) | fail)
  all_goals
    refine C_ownnil 5 eB ?_
    refine C_loop (κ := Nat × Value × List UInt8 × List UInt8 × Int) [false, false, false, false, false, false, true, true, false, false, false, false, false, false, false, false, false, false, false, false, true, true, true, true, true, true, true, true, true, true, true, true, true, true, true, true, true, false, false, false, false, false, false] (fun k => [(6, k.2.1), (7, .int .u64 (k.1 : Int))]) (fun k => rr p k.2.2.2.1 k.2.2.2.2 :: own 5 eB k.2.1 k.2.2.1 :: L) (fun k => LIV rNext m bs.length (l3, (b3, e3)) k.1 k.2.1 k.2.2.1 k.2.2.2.1 k.2.2.2.2) (fun k => m - k.1) (0, .slice none 0 0, [], _, _) ⟨Nat.zero_le _, rfl, ⟨none, 0, rfl⟩, hb2, hme.imp (fun h => Nat.le_trans h hb1) id, by have := hmany.out; rw [Nat.sub_zero, this]; rfl⟩ ⟨rfl, rfl, trivial⟩ (fun m h s => s.swap) ?_
    rintro ⟨i, v, out, b, ee⟩ u ⟨hi, hol, ⟨A, c, hv⟩, hbl, hmb, hinv⟩
    dsimp only at hi hol hv hbl hmb hinv
    subst hv
    subst hol
    replace hinv := Lib.hid hinv
    ((try dsimp only); refine C_n ?_; (try simp only [Nat.reduceAdd, Nat.zero_add]))
    by_cases him : out.length < m
    · by_cases he : ee = 0
      · subst he
        obtain ⟨x, b', ee', hx⟩ : ∃ x b' ee', rNext (b, 0) = (x, (b', ee')) := ⟨_, _, _, rfl⟩
        have hmb2 : m ≤ bs.length := hmb.resolve_right (fun h => h rfl)
        have hnext : (out ++ [x] ++ (rMany rNext (m - (out.length + 1)) (b', ee')).1, (rMany rNext (m - (out.length + 1)) (b', ee')).2) = (l3, ((b3, e3) : Rs)) := by
          rw [← hinv.out]
          have e1 : m - out.length = (m - (out.length + 1)) + 1 := by omega
          rw [e1, rMany, if_pos rfl, hx]
          simp
        have hb' : b'.length ≤ bs.length := by
          have := rNext_len (b, 0)
          rw [hx] at this
          dsimp only at this
          omega
        have hst : m ≤ bs.length ∨ ee' ≠ 0 := .inl hmb2
        replace hnext := Lib.hid hnext
        replace hx := Lib.hid hx
        clear hinv
        repeat' (first | refine go ?_ | intro _ | (apply cG; first | refine cT ?_ | refine cF ?_ | refine cS (fun _ => ?_) fun _ => ?_) | (apply gW; refine sW ?_) | (apply gI; refine sI ?_) | (apply gE; refine sE ?_) | (apply gP; refine sP ?_) | (apply gC; refine sC ?_) | (apply gD; refine sD ?_) | fail)
        refine rr_open fun A' n' c' hn' => ?_
        repeat' (first | refine go ?_ | intro _ | (apply cG; first | refine cT ?_ | refine cF ?_ | refine cS (fun _ => ?_) fun _ => ?_) | (apply gW; refine sW ?_) | (apply gI; refine sI ?_) | (apply gE; refine sE ?_) | (apply gP; refine sP ?_) | (apply gC; refine sC ?_) | (apply gD; refine sD ?_) | fail)
        refine O_sub rr_sub ?_
        refine O_d (dy_callv Ev.pf ArgsI.pf (by simp only [List.append_toArray, List.nil_append, List.append_nil, List.cons_append] <;> exact rfl) (by first | exact rfl | trivial | (intro a b; rfl)) (next_ct hx.out (by omega))) ?_; rintro _ _ ⟨_, ⟨rfl, rfl⟩, rfl⟩; refine O_n ?_
        refine O_d (dy_lit1 (R := eB) x (hcs := by rfl) (hel := fun _ _ _ => by rfl)) ?_; rintro _ _ ⟨_, rfl, rfl⟩; refine O_n ?_
        refine O_d dy_append ?_; rintro _ _ ⟨A2, c2, rfl, rfl⟩; refine O_n ?_
        repeat' (first | refine go ?_ | intro _ | (apply cG; first | refine cT ?_ | refine cF ?_ | refine cS (fun _ => ?_) fun _ => ?_) | (apply gW; refine sW ?_) | (apply gI; refine sI ?_) | (apply gE; refine sE ?_) | (apply gP; refine sP ?_) | (apply gC; refine sC ?_) | (apply gD; refine sD ?_) | fail)
        exact E_round (out.length + 1, .slice A2 (out.length + 1) c2, out ++ [x], b', ee') ⟨him, List.length_append, ⟨A2, c2, rfl⟩, hb', hst, hnext.out⟩ (by show m - (out.length + 1) < m - out.length; omega) ⟨rfl, rfl, trivial⟩ (sub_drop (Sub.refl _))
      · have hfin : out = l3 ∧ b = b3 ∧ ee = e3 := by
          have h1 := hinv.out
          have e1 : m - out.length = (m - (out.length + 1)) + 1 := by omega
          rw [e1, rMany, if_neg he] at h1
          simpa using h1
        obtain ⟨hf1, rfl, rfl⟩ := hfin
        clear hinv
        repeat' (first | refine go ?_ | intro _ | (apply cG; first | refine cT ?_ | refine cF ?_ | refine cS (fun _ => ?_) fun _ => ?_) | (apply gW; refine sW ?_) | (apply gI; refine sI ?_) | (apply gE; refine sE ?_) | (apply gP; refine sP ?_) | (apply gC; refine sC ?_) | (apply gD; refine sD ?_) | fail)
        refine rr_open fun A' n' c' hn' => ?_
        repeat' (first | refine go ?_ | intro _ | (apply cG; first | refine cT ?_ | refine cF ?_ | refine cS (fun _ => ?_) fun _ => ?_) | (apply gW; refine sW ?_) | (apply gI; refine sI ?_) | (apply gE; refine sE ?_) | (apply gP; refine sP ?_) | (apply gC; refine sC ?_) | (apply gD; refine sD ?_) | fail)
        have hl0 : l = [] := by have := hl3.out; rw [if_neg he] at this; exact this.symm
        subst hl0
        refine E_sub rr_sub ?_
        refine E_ownnil 5 eB ?_
        refine E_sub (sub_skip (sub_skip (sub_drop (Sub.refl _)))) ?_
        refine E_end1 (by rfl) (by rfl) Ev.pf ⟨none, 0, rfl, rfl⟩
    · obtain rfl : m = out.length := by omega
      have hfin : out = l3 ∧ b = b3 ∧ ee = e3 := by
        have h1 := hinv.out
        rw [Nat.sub_self, rMany] at h1
        simpa using h1
      obtain ⟨hf1, rfl, rfl⟩ := hfin
      clear hinv
      by_cases he : ee = 0
      · have hl0 : l = out := by have := hl3.out; rw [if_pos he] at this; rw [hf1]; exact this.symm
        subst hl0
        repeat' (first | refine go ?_ | intro _ | (apply cG; first | refine cT ?_ | refine cF ?_ | refine cS (fun _ => ?_) fun _ => ?_) | (apply gW; refine sW ?_) | (apply gI; refine sI ?_) | (apply gE; refine sE ?_) | (apply gP; refine sP ?_) | (apply gC; refine sC ?_) | (apply gD; refine sD ?_) | fail)
        refine rr_open fun A' n' c' hn' => ?_
        repeat' (first | refine go ?_ | intro _ | (apply cG; first | refine cT ?_ | refine cF ?_ | refine cS (fun _ => ?_) fun _ => ?_) | (apply gW; refine sW ?_) | (apply gI; refine sI ?_) | (apply gE; refine sE ?_) | (apply gP; refine sP ?_) | (apply gC; refine sC ?_) | (apply gD; refine sD ?_) | fail)
        refine E_sub rr_sub ?_
        refine E_sub (fun m h s => s.swap) ?_
        refine E_end1 (by rfl) (by rfl) Ev.pf ⟨_, _, rfl, rfl⟩
      · have hl0 : l = [] := by have := hl3.out; rw [if_neg he] at this; exact this.symm
        subst hl0
        repeat' (first | refine go ?_ | intro _ | (apply cG; first | refine cT ?_ | refine cF ?_ | refine cS (fun _ => ?_) fun _ => ?_) | (apply gW; refine sW ?_) | (apply gI; refine sI ?_) | (apply gE; refine sE ?_) | (apply gP; refine sP ?_) | (apply gC; refine sC ?_) | (apply gD; refine sD ?_) | fail)
        refine rr_open fun A' n' c' hn' => ?_
        repeat' (first | refine go ?_ | intro _ | (apply cG; first | refine cT ?_ | refine cF ?_ | refine cS (fun _ => ?_) fun _ => ?_) | (apply gW; refine sW ?_) | (apply gI; refine sI ?_) | (apply gE; refine sE ?_) | (apply gP; refine sP ?_) | (apply gC; refine sC ?_) | (apply gD; refine sD ?_) | fail)
        refine E_sub rr_sub ?_
        refine E_ownnil 5 eB ?_
        refine E_sub (sub_skip (sub_skip (sub_drop (Sub.refl _)))) ?_
        refine E_end1 (by rfl) (by rfl) Ev.pf ⟨none, 0, rfl, rfl⟩
theorem Raw_ct {p : Nat} {l bs bs' : List UInt8} {e e' : Int} (h : rList rNext (bs, e) = (l, (bs', e'))) (hl : bs.length ≤ 1000000000000) : CT Try.prog 32 #[.pointer (some ⟨p, 0, none⟩)] W0 (rr p bs e :: L) fun r L' => ∃ A c, r = .slice A l.length c ∧ L' = own 5 eB (.slice A l.length c) l :: rr p bs' e' :: L := by
  replace h := Lib.hid h
  refine CT_enter Try.func32 rfl ?_; (simp only [Try.ntmps32, List.size_toArray, List.length_cons, List.length_nil, Nat.reduceAdd, Nat.reduceSub, Array.replicate_succ, Array.replicate_zero, List.push_toArray, List.append_toArray, List.nil_append, List.cons_append])
  repeat' (first | refine go ?_ | intro _ | (apply cG; first | refine cT ?_ | refine cF ?_ | refine cS (fun _ => ?_) fun _ => ?_) | (apply gW; refine sW ?_) | (apply gI; refine sI ?_) | (apply gE; refine sE ?_) | (apply gP; refine sP ?_) | (apply gC; refine sC ?_) | (apply gD; refine sD ?_) | fail)
  refine O_d (dy_call ArgsI.pf (by first | exact rfl | trivial | (intro a b; rfl)) (listB_ct h.out hl)) ?_; rintro _ _ ⟨_, ⟨A, c, rfl, rfl⟩, rfl⟩; refine O_n ?_
  repeat' (first | refine go ?_ | intro _ | (apply cG; first | refine cT ?_ | refine cF ?_ | refine cS (fun _ => ?_) fun _ => ?_) | (apply gW; refine sW ?_) | (apply gI; refine sI ?_) | (apply gE; refine sE ?_) | (apply gP; refine sP ?_) | (apply gC; refine sC ?_) | (apply gD; refine sD ?_) | fail)
  refine E_end1 (by rfl) (by rfl) Ev.pf ⟨_, _, rfl, rfl⟩
end
end Go.Proofs.Ytbjaecofccpahaa
namespace Go.Proofs.Ytbjaecofccpahaa
open Go Go.RowKit
set_option linter.unusedVariables false
set_option linter.unusedSimpArgs false
theorem ofNat_toNat8 {c : Nat} (h : c < 256) : (UInt8.ofNat c).toNat = c := by
  simp [UInt8.toNat_ofNat']
  omega
theorem rUi_varint (m : Nat) : ∀ (i n : Nat) (t : List UInt8), m * 128 ^ i < 18446744073709551616 → (0 < m ∨ i = 0) → rUi i n (varint m ++ t) = (n + m * 128 ^ i, (t, 0)) := by
  induction m using varint.induct with
  | case1 m h =>
    intro i n t hb hp
    rw [varint_small h, List.cons_append, List.nil_append, rUi, ofNat_toNat8 (by omega), if_neg, if_pos h]
    rintro (⟨rfl, h1⟩ | ⟨h1, h2⟩)
    · have e9 : (128 : Nat) ^ 9 = 9223372036854775808 := by decide
      rw [e9] at hb
      omega
    · omega
  | case2 m h ih =>
    intro i n t hb hp
    have hc : (UInt8.ofNat (m % 128 + 128)).toNat = m % 128 + 128 := ofNat_toNat8 (by omega)
    have hm : m = m / 128 * 128 + m % 128 := by omega
    have e1 : m / 128 * 128 ^ (i + 1) + m % 128 * 128 ^ i = m * 128 ^ i := by
      rw [Nat.pow_succ, Nat.mul_comm (128 ^ i) 128, ← Nat.mul_assoc, ← Nat.add_mul, ← hm]
    rw [varint_big h, List.cons_append, rUi, hc, if_neg, if_neg (by omega), ih _ _ _ (by omega) (.inl (by omega))]
    · congr 1
      rw [Nat.add_sub_cancel]
      omega
    · rintro (⟨rfl, h1⟩ | ⟨h1, h2⟩)
      · have e9 : (128 : Nat) ^ 9 = 9223372036854775808 := by decide
        rw [e9] at hb
        omega
      · omega
theorem rU_varint {m : Nat} (h : m < 18446744073709551616) (t : List UInt8) : rU (varint m ++ t, 0) = (m, (t, 0)) := by
  unfold rU
  rw [if_pos rfl, rUi_varint m 0 0 t (by simpa using h) (.inr rfl)]
  simp
theorem unzig_zig (n : Int) : unzig (zig n) = n := by
  unfold unzig zig
  split <;> split <;> omega
theorem rI_zig {n : Int} (h1 : -9223372036854775808 ≤ n) (h2 : n ≤ 9223372036854775807) (t : List UInt8) : rI (varint (zig n) ++ t, 0) = (n, (t, 0)) := by
  unfold rI
  rw [rU_varint (zig_lt h1 h2), unzig_zig]
theorem rB_bool (b : Bool) (t : List UInt8) : rB (varint (if b = true then 1 else 0) ++ t, 0) = (b, (t, 0)) := by
  cases b
  · rw [if_neg (by decide), varint_small (by decide)]; rfl
  · rw [if_pos rfl, varint_small (by decide)]; rfl
theorem rMany_bytes : ∀ (l t : List UInt8), rMany rNext l.length (l ++ t, 0) = (l, (t, 0))
  | [], t => rfl
  | c :: l, t => by
    rw [List.length_cons, rMany, if_pos rfl]
    have : rNext (c :: l ++ t, 0) = (c, (l ++ t, 0)) := rfl
    rw [this, rMany_bytes l t]
theorem rMany_ints : ∀ (l : List Int) (t : List UInt8), (∀ n ∈ l, -9223372036854775808 ≤ n ∧ n ≤ 9223372036854775807) → rMany rI l.length (encI l ++ t, 0) = (l, (t, 0))
  | [], t, _ => rfl
  | n :: l, t, h => by
    rw [List.length_cons, rMany, if_pos rfl]
    have hn := h n (.head _)
    have : rI (encI (n :: l) ++ t, 0) = (n, (encI l ++ t, 0)) := by
      rw [← rI_zig hn.1 hn.2]
      simp [encI]
    rw [this, rMany_ints l t fun x hx => h x (.tail _ hx)]
theorem rList_of {α : Type} {f : Rs → α × Rs} {s : Rs} {n : Nat} {b t : List UInt8} {l : List α} (h1 : rU s = (n, (b, 0))) (h2 : n ≤ b.length) (h3 : rMany f n (b, 0) = (l, (t, 0))) : rList f s = (l, (t, 0)) := by
  have e : rList f s = (if (rMany f (rU s).1 (if (rU s).2.1.length < (rU s).1 then rFail (rU s).2 3 else (rU s).2)).2.2 = 0 then (rMany f (rU s).1 (if (rU s).2.1.length < (rU s).1 then rFail (rU s).2 3 else (rU s).2)).1 else [], (rMany f (rU s).1 (if (rU s).2.1.length < (rU s).1 then rFail (rU s).2 3 else (rU s).2)).2) := rfl
  rw [e, h1]
  dsimp only
  rw [if_neg (Nat.not_lt.2 h2), h3]
  rfl
theorem rRaw_enc {l : List UInt8} (hl : l.length < 18446744073709551616) (t : List UInt8) : rList rNext (varint l.length ++ l ++ t, 0) = (l, (t, 0)) := by
  refine rList_of (n := l.length) (b := l ++ t) ?_ (by simp) (rMany_bytes l t)
  rw [List.append_assoc, rU_varint hl]
theorem varint_pos (m : Nat) : 1 ≤ (varint m).length := by rw [varint_len]; exact sizeV_pos m
theorem encI_ge : ∀ (l : List Int), l.length ≤ (encI l).length
  | [] => Nat.le_refl _
  | n :: l => by
    have h := varint_pos (zig n)
    have := encI_ge l
    simp only [encI, List.map_cons, List.flatten_cons, List.length_append, List.length_cons] at this ⊢
    omega
theorem rInts_enc {l : List Int} (h : ∀ n ∈ l, -9223372036854775808 ≤ n ∧ n ≤ 9223372036854775807) (hl : l.length < 18446744073709551616) (t : List UInt8) : rList rI (varint l.length ++ encI l ++ t, 0) = (l, (t, 0)) := by
  refine rList_of (n := l.length) (b := encI l ++ t) ?_ (by have := encI_ge l; simp; omega) (rMany_ints l t h)
  rw [List.append_assoc, rU_varint hl]
end Go.Proofs.Ytbjaecofccpahaa
namespace Go.Proofs.Ytbjaecofccpahaa
open Go Go.RowKit
set_option linter.unusedVariables false
set_option linter.unusedSimpArgs false
/-- errors stay -/
theorem rI_err {s : Rs} (h : s.2 ≠ 0) : rI s = (0, s) := by unfold rI; rw [rU_err h]; simp [unzig]
theorem rNext_err {s : Rs} (h : s.2 ≠ 0) : rNext s = (0, s) := by unfold rNext; rw [if_neg h]
theorem rB_err {s : Rs} (h : s.2 ≠ 0) : rB s = (false, s) := by unfold rB; rw [rNext_err h]; rfl
theorem rList_eq {α : Type} (f : Rs → α × Rs) (s : Rs) : rList f s = (if (rMany f (rU s).1 (if (rU s).2.1.length < (rU s).1 then rFail (rU s).2 3 else (rU s).2)).2.2 = 0 then (rMany f (rU s).1 (if (rU s).2.1.length < (rU s).1 then rFail (rU s).2 3 else (rU s).2)).1 else [], (rMany f (rU s).1 (if (rU s).2.1.length < (rU s).1 then rFail (rU s).2 3 else (rU s).2)).2) := rfl
theorem rList_err {α : Type} {f : Rs → α × Rs} {s : Rs} (h : s.2 ≠ 0) : rList f s = ([], s) := by
  rw [rList_eq, rU_err h]
  simp only [Nat.not_lt_zero, if_false, rMany, if_neg h]
theorem rFail_3 {b : List UInt8} : rFail (b, 0) 3 = (b, 3) := rfl
theorem rList_more {α : Type} {f : Rs → α × Rs} {s : Rs} {n : Nat} {b : List UInt8} (h1 : rU s = (n, (b, 0))) (h2 : b.length < n) : (rList f s).2.2 = 3 := by
  rw [rList_eq, h1]
  dsimp only
  rw [if_pos h2, rFail_3]
  rcases n with _ | n
  · omega
  · rfl
theorem rList_many {α : Type} {f : Rs → α × Rs} {s : Rs} {n : Nat} {b : List UInt8} (h1 : rU s = (n, (b, 0))) (h2 : n ≤ b.length) : (rList f s).2 = (rMany f n (b, 0)).2 := by
  rw [rList_eq, h1]
  dsimp only
  rw [if_neg (Nat.not_lt.2 h2)]
theorem rMany_err {α : Type} {f : Rs → α × Rs} : ∀ {n : Nat} {s : Rs}, s.2 ≠ 0 → rMany f n s = ([], s)
  | 0, _, _ => rfl
  | n + 1, s, h => by rw [rMany, if_neg h]
theorem rMany_len {α : Type} {f : Rs → α × Rs} (hf : ∀ s, (f s).2.1.length ≤ s.1.length) : ∀ (n : Nat) (s : Rs), (rMany f n s).2.1.length ≤ s.1.length
  | 0, s => Nat.le_refl _
  | n + 1, s => by
    rw [rMany]
    split
    · exact Nat.le_trans (rMany_len hf n (f s).2) (hf s)
    · exact Nat.le_refl _
theorem rList_len {α : Type} {f : Rs → α × Rs} (hf : ∀ s, (f s).2.1.length ≤ s.1.length) (s : Rs) : (rList f s).2.1.length ≤ s.1.length := by
  rw [rList_eq]
  refine Nat.le_trans (rMany_len hf _ _) ?_
  refine Nat.le_trans ?_ (rU_len s)
  split
  · unfold rFail; split <;> exact Nat.le_refl _
  · exact Nat.le_refl _
theorem rB_len (s : Rs) : (rB s).2.1.length ≤ s.1.length := by
  unfold rB
  refine Nat.le_trans ?_ (rNext_len s)
  dsimp only
  split
  · unfold rFail; split <;> exact Nat.le_refl _
  · exact Nat.le_refl _
theorem rList_cases {α : Type} {f : Rs → α × Rs} {bs b1 bs' : List UInt8} {e e1 e' : Int} {m : Nat} {l : List α} (hu : rU (bs, e) = (m, (b1, e1))) (h : rList f (bs, e) = (l, (bs', e'))) :
    (e1 ≠ 0 ∧ l = [] ∧ e' = e1) ∨ (e1 = 0 ∧ b1.length < m ∧ l = [] ∧ e' = 3) ∨ (e1 = 0 ∧ m ≤ b1.length ∧ (rMany f m (b1, 0)).2 = (bs', e') ∧ l = if e' = 0 then (rMany f m (b1, 0)).1 else []) := by
  rw [rList_eq, hu] at h
  dsimp only at h
  by_cases he : e1 = 0
  · subst he
    by_cases hl : b1.length < m
    · rw [if_pos hl, rFail_3, rMany_err (by show (3 : Int) ≠ 0; decide)] at h
      simp only [Prod.mk.injEq] at h
      exact .inr (.inl ⟨rfl, hl, by rw [← h.1]; simp, h.2.2.symm⟩)
    · rw [if_neg hl] at h
      simp only [Prod.mk.injEq] at h
      exact .inr (.inr ⟨rfl, by omega, h.2, by rw [← h.1, h.2]⟩)
  · have h5 : (if b1.length < m then rFail (b1, e1) 3 else (b1, e1)) = (b1, e1) := by
      split
      · simp only [rFail, if_neg he]
      · rfl
    rw [h5, rMany_err he] at h
    simp only [Prod.mk.injEq] at h
    exact .inl ⟨he, by rw [← h.1]; simp, h.2.2.symm⟩
theorem rMany_take : ∀ (n : Nat) (b : List UInt8), n ≤ b.length → rMany rNext n (b, 0) = (b.take n, (b.drop n, 0))
  | 0, b, _ => rfl
  | n + 1, [], h => by simp at h
  | n + 1, c :: r, h => by
    rw [rMany, if_pos rfl]
    have e : rNext (c :: r, 0) = (c, (r, 0)) := rfl
    rw [e]
    dsimp only
    rw [rMany_take n r (by simpa using h)]
    rfl
theorem rUi_step {i n : Nat} {c : UInt8} {r : List UInt8} (h1 : ¬ ((i = 9 ∧ 1 < c.toNat) ∨ (0 < i ∧ c.toNat = 0))) (h2 : ¬ c.toNat < 128) : rUi i n (c :: r) = rUi (i + 1) (n + c.toNat % 128 * 128 ^ i) r := by
  rw [rUi, if_neg h1, if_neg h2]
  have : c.toNat - 128 = c.toNat % 128 := by have := c.toNat_lt; omega
  rw [this]
theorem drop_get {α : Type} {l : List α} {i : Nat} {x : α} (h : l[i]? = some x) : l.drop i = x :: l.drop (i + 1) := by
  obtain ⟨hlt, rfl⟩ := List.getElem?_eq_some_iff.1 h
  exact List.drop_eq_getElem_cons hlt
end Go.Proofs.Ytbjaecofccpahaa
namespace Go.Proofs.Ytbjaecofccpahaa
open Go Go.RowKit
set_option linter.unusedVariables false
set_option linter.unusedSimpArgs false
set_option maxRecDepth 20000
set_option synthInstance.maxSize 100000
set_option synthInstance.maxHeartbeats 400000
section
variable {W0 : World} {L : List HP}
theorem fUint_ct {m : Nat} (hm : m < 18446744073709551616) : CT Try.prog 49 #[.int .u64 (m : Int)] W0 L fun r L' => ∃ A c, r = .slice A (varint m).length c ∧ L' = own 5 eB (.slice A (varint m).length c) (varint m) :: L := by
  refine CT_enter Try.func49 rfl ?_; (simp only [Try.ntmps49, List.size_toArray, List.length_cons, List.length_nil, Nat.reduceAdd, Nat.reduceSub, Array.replicate_succ, Array.replicate_zero, List.push_toArray, List.append_toArray, List.nil_append, List.cons_append])
  have hvl := vlen hm
  repeat' (first | refine go ?_ | intro _ | (apply cG; first | refine cT ?_ | refine cF ?_ | refine cS (fun _ => ?_) fun _ => ?_) | (apply gW; refine sW ?_) | (apply gI; refine sI ?_) | (apply gE; refine sE ?_) | (apply gP; refine sP ?_) | (apply gC; refine sC ?_) | (apply gD; refine sD ?_) | fail)
  refine C_ownnil 5 eB ?_
  refine C_loopS (κ := Nat × Value × List UInt8) [true, false, false, true, true, true, true, true, true, true, true, true, true, true, true, false, false, false, false, false] (fun k => [(0, .int .u64 (k.1 : Int)), (3, k.2.1)]) (fun k => [(0, own 5 eB k.2.1 k.2.2)]) (fun k => k.1 < 18446744073709551616 ∧ (∃ A c, k.2.1 = .slice A k.2.2.length c) ∧ k.2.2 ++ varint k.1 = varint m) (fun k => k.1) (m, .slice none 0 0, []) ⟨hm, ⟨none, 0, rfl⟩, rfl⟩ ⟨rfl, rfl, trivial⟩ ?_
  rintro ⟨n, vo, out⟩ u ⟨hn, ⟨A, c, hvo⟩, hout⟩
  dsimp only at hn hvo hout
  subst hvo
  have hol : out.length ≤ 10 := by have := congrArg List.length hout; rw [List.length_append] at this; omega
  ((try dsimp only); refine C_n ?_; (try simp only [Nat.reduceAdd, Nat.zero_add]))
  by_cases hb : 127 < n
  · have e : (128 + (n : Int) % 128) = ((UInt8.ofNat (n % 128 + 128)).toNat : Int) := by rw [ofNat_toNat8 (by omega)]; omega
    repeat' (first | refine go ?_ | intro _ | (apply cG; first | refine cT ?_ | refine cF ?_ | refine cS (fun _ => ?_) fun _ => ?_) | (apply gW; refine sW ?_) | (apply gI; refine sI ?_) | (apply gE; refine sE ?_) | (apply gP; refine sP ?_) | (apply gC; refine sC ?_) | (apply gD; refine sD ?_) | fail)
    rw [e]
    refine O_d (dy_lit1 (R := eB) (UInt8.ofNat (n % 128 + 128)) (hcs := by rfl) (hel := fun _ _ _ => by rfl)) ?_; rintro _ _ ⟨_, rfl, rfl⟩; refine O_n ?_
    repeat' (first | refine go ?_ | intro _ | (apply cG; first | refine cT ?_ | refine cF ?_ | refine cS (fun _ => ?_) fun _ => ?_) | (apply gW; refine sW ?_) | (apply gI; refine sI ?_) | (apply gE; refine sE ?_) | (apply gP; refine sP ?_) | (apply gC; refine sC ?_) | (apply gD; refine sD ?_) | fail)
    rename_i A2 c2
    exact E_round (n / 128, .slice A2 (out.length + 1) c2, out ++ [UInt8.ofNat (n % 128 + 128)]) ⟨by show n / 128 < _; omega, ⟨A2, c2, by rw [List.length_append]; rfl⟩, by
      show (out ++ [UInt8.ofNat (n % 128 + 128)]) ++ varint (n / 128) = varint m
      rw [← hout, varint_big (by omega : ¬ n < 128), List.append_assoc]; rfl⟩ (by show n / 128 < n; omega) ⟨rfl, rfl, trivial⟩ Sb
  · have e : (n : Int) = ((UInt8.ofNat n).toNat : Int) := by rw [ofNat_toNat8 (by omega)]
    repeat' (first | refine go ?_ | intro _ | (apply cG; first | refine cT ?_ | refine cF ?_ | refine cS (fun _ => ?_) fun _ => ?_) | (apply gW; refine sW ?_) | (apply gI; refine sI ?_) | (apply gE; refine sE ?_) | (apply gP; refine sP ?_) | (apply gC; refine sC ?_) | (apply gD; refine sD ?_) | fail)
    rw [varint_small (by omega)] at hout
    obtain ⟨z, hz⟩ : ∃ z : UInt8, z = UInt8.ofNat n := ⟨_, rfl⟩
    rw [← hz] at e hout
    refine O_d (dy_lit1 (R := eB) z (cs := [bv z]) (hcs := by show [Value.int .u8 (n : Int)] = _; rw [e]) (hel := fun _ _ _ => by rfl)) ?_; rintro _ _ ⟨_, rfl, rfl⟩; refine O_n ?_
    repeat' (first | refine go ?_ | intro _ | (apply cG; first | refine cT ?_ | refine cF ?_ | refine cS (fun _ => ?_) fun _ => ?_) | (apply gW; refine sW ?_) | (apply gI; refine sI ?_) | (apply gE; refine sE ?_) | (apply gP; refine sP ?_) | (apply gC; refine sC ?_) | (apply gD; refine sD ?_) | fail)
    rw [hout]
    have hl : out.length + 1 = (varint m).length := by rw [← hout, List.length_append]; rfl
    rw [hl]
    refine E_res1 (by rfl) (by rfl) ⟨_, _, rfl, rfl⟩ Sb
theorem fZig_ct {n : Int} (h1 : -9223372036854775808 ≤ n) (h2 : n ≤ 9223372036854775807) : CT Try.prog 78 #[.int .i64 n] W0 L fun r L' => r = .int .u64 (zig n : Int) ∧ L' = L := by
  refine CT_enter Try.func78 rfl ?_; (simp only [Try.ntmps78, List.size_toArray, List.length_cons, List.length_nil, Nat.reduceAdd, Nat.reduceSub, Array.replicate_succ, Array.replicate_zero, List.push_toArray, List.append_toArray, List.nil_append, List.cons_append])
  by_cases h0 : n < 0
  · have e : 2 * -(n + 1) + 1 = ((zig n : Nat) : Int) := by unfold zig; rw [if_pos h0]; omega
    repeat' (first | refine go ?_ | intro _ | (apply cG; first | refine cT ?_ | refine cF ?_ | refine cS (fun _ => ?_) fun _ => ?_) | (apply gW; refine sW ?_) | (apply gI; refine sI ?_) | (apply gE; refine sE ?_) | (apply gP; refine sP ?_) | (apply gC; refine sC ?_) | (apply gD; refine sD ?_) | fail)
    rw [e]
    refine E_res1 (by rfl) (by rfl) ⟨rfl, rfl⟩ Sb
  · have e : 2 * n = ((zig n : Nat) : Int) := by unfold zig; rw [if_neg h0]; omega
    repeat' (first | refine go ?_ | intro _ | (apply cG; first | refine cT ?_ | refine cF ?_ | refine cS (fun _ => ?_) fun _ => ?_) | (apply gW; refine sW ?_) | (apply gI; refine sI ?_) | (apply gE; refine sE ?_) | (apply gP; refine sP ?_) | (apply gC; refine sC ?_) | (apply gD; refine sD ?_) | fail)
    rw [e]
    refine E_res1 (by rfl) (by rfl) ⟨rfl, rfl⟩ Sb
theorem fInt_ct {n : Int} (h1 : -9223372036854775808 ≤ n) (h2 : n ≤ 9223372036854775807) : CT Try.prog 64 #[.int .i64 n] W0 L fun r L' => ∃ A c, r = .slice A (varint (zig n)).length c ∧ L' = own 5 eB (.slice A (varint (zig n)).length c) (varint (zig n)) :: L := by
  refine CT_enter Try.func64 rfl ?_; (simp only [Try.ntmps64, List.size_toArray, List.length_cons, List.length_nil, Nat.reduceAdd, Nat.reduceSub, Array.replicate_succ, Array.replicate_zero, List.push_toArray, List.append_toArray, List.nil_append, List.cons_append])
  repeat' (first | refine go ?_ | intro _ | (apply cG; first | refine cT ?_ | refine cF ?_ | refine cS (fun _ => ?_) fun _ => ?_) | (apply gW; refine sW ?_) | (apply gI; refine sI ?_) | (apply gE; refine sE ?_) | (apply gP; refine sP ?_) | (apply gC; refine sC ?_) | (apply gD; refine sD ?_) | fail)
  refine O_d (dy_call ArgsI.pf (by first | exact rfl | trivial | (intro a b; rfl)) (fZig_ct h1 h2)) ?_; rintro _ _ ⟨_, ⟨rfl, hLL⟩, rfl⟩; replace hLL := hLL.symm; subst hLL; refine O_n ?_
  repeat' (first | refine go ?_ | intro _ | (apply cG; first | refine cT ?_ | refine cF ?_ | refine cS (fun _ => ?_) fun _ => ?_) | (apply gW; refine sW ?_) | (apply gI; refine sI ?_) | (apply gE; refine sE ?_) | (apply gP; refine sP ?_) | (apply gC; refine sC ?_) | (apply gD; refine sD ?_) | fail)
  refine O_d (dy_call ArgsI.pf (by first | exact rfl | trivial | (intro a b; rfl)) (fUint_ct (zig_lt h1 h2))) ?_; rintro _ _ ⟨_, ⟨A, c, rfl, rfl⟩, rfl⟩; refine O_n ?_
  repeat' (first | refine go ?_ | intro _ | (apply cG; first | refine cT ?_ | refine cF ?_ | refine cS (fun _ => ?_) fun _ => ?_) | (apply gW; refine sW ?_) | (apply gI; refine sI ?_) | (apply gE; refine sE ?_) | (apply gP; refine sP ?_) | (apply gC; refine sC ?_) | (apply gD; refine sD ?_) | fail)
  refine E_res1 (by rfl) (by rfl) ⟨_, _, rfl, rfl⟩ Sb
theorem fRaw_ct {v : Value} {l : List UInt8} (hv : Src L eB v l) (hl : l.length ≤ 1000000000000) : CT Try.prog 48 #[v] W0 L fun r L' => ∃ A c, r = .slice A (varint l.length ++ l).length c ∧ L' = own 5 eB (.slice A (varint l.length ++ l).length c) (varint l.length ++ l) :: L := by
  refine CT_fact (fun w s => (hv.sl s).form) ?_
  rintro ⟨A, cap, rfl, hcap⟩
  replace hv : Sc L (.slice A l.length cap) eB l := ⟨hv⟩
  have hvl := vlen (m := l.length) (by omega)
  refine CT_enter Try.func48 rfl ?_; (simp only [Try.ntmps48, List.size_toArray, List.length_cons, List.length_nil, Nat.reduceAdd, Nat.reduceSub, Array.replicate_succ, Array.replicate_zero, List.push_toArray, List.append_toArray, List.nil_append, List.cons_append])
  repeat' (first | refine go ?_ | intro _ | (apply cG; first | refine cT ?_ | refine cF ?_ | refine cS (fun _ => ?_) fun _ => ?_) | (apply gW; refine sW ?_) | (apply gI; refine sI ?_) | (apply gE; refine sE ?_) | (apply gP; refine sP ?_) | (apply gC; refine sC ?_) | (apply gD; refine sD ?_) | fail)
  refine O_d (dy_call ArgsI.pf (by first | exact rfl | trivial | (intro a b; rfl)) (fUint_ct (m := l.length) (by omega))) ?_; rintro _ _ ⟨_, ⟨A2, c2, rfl, rfl⟩, rfl⟩; refine O_n ?_
  repeat' (first | refine go ?_ | intro _ | (apply cG; first | refine cT ?_ | refine cF ?_ | refine cS (fun _ => ?_) fun _ => ?_) | (apply gW; refine sW ?_) | (apply gI; refine sI ?_) | (apply gE; refine sE ?_) | (apply gP; refine sP ?_) | (apply gC; refine sC ?_) | (apply gD; refine sD ?_) | fail)
  rw [← List.length_append]
  refine E_res1 (by rfl) (by rfl) ⟨_, _, rfl, rfl⟩ Sb
end
end Go.Proofs.Ytbjaecofccpahaa
