/-
  Walks of package wire by the engine: lists, byte slices, strings.
-/
import Derived.Test.YtbjaecofccpahaaV3
namespace Go.Proofs.Ytbjaecofccpahaa
open Go Go.RowKit
set_option linter.unusedVariables false
set_option linter.unusedSimpArgs false
set_option maxRecDepth 20000
set_option synthInstance.maxSize 100000
set_option synthInstance.maxHeartbeats 400000
/-- what a round of list keeps -/
def LIV {α : Type} (f : Rs → α × Rs) (m most : Nat) (fin : List α × Rs) (i : Nat) (v : Value) (out : List α) (b : List UInt8) (e : Int) : Prop :=
  i ≤ m ∧ out.length = i ∧ (∃ A c, v = .slice A i c) ∧ b.length ≤ most ∧ (m ≤ most ∨ e ≠ 0) ∧ (out ++ (rMany f (m - i) (b, e)).1, (rMany f (m - i) (b, e)).2) = fin
theorem rI_len (s : Rs) : (rI s).2.1.length ≤ s.1.length := rU_len s
section
variable {W0 : World} {L : List HP}
theorem listB_ct {p : Nat} {l : List UInt8} {bs bs' : List UInt8} {e e' : Int} (h : rList rNext (bs, e) = (l, (bs', e'))) (hl : bs.length ≤ 1000000000000) : CT Try.prog 55 #[.pointer (some ⟨p, 0, none⟩), .func (.func 56) #[.pointer (some ⟨p, 0, none⟩)] #[]] W0 (rr p bs e :: L) fun r L' => ∃ A c, r = .slice A l.length c ∧ L' = own 5 eB (.slice A l.length c) l :: rr p bs' e' :: L := by
  obtain ⟨m, b1, e1, hu⟩ : ∃ m b1 e1, rU (bs, e) = (m, (b1, e1)) := ⟨_, _, _, rfl⟩
  have hm := rU_lt (bs, e)
  have hb1 := rU_len (bs, e)
  rw [hu] at hm hb1
  dsimp only at hm hb1
  obtain ⟨b2, e2, hf⟩ : ∃ b2 e2, (if b1.length < m then rFail (b1, e1) 3 else (b1, e1)) = (b2, e2) := ⟨_, _, rfl⟩
  obtain ⟨l3, b3, e3, hmany⟩ : ∃ l3 b3 e3, rMany rNext m (b2, e2) = (l3, (b3, e3)) := ⟨_, _, _, rfl⟩
  have hfin : (if e3 = 0 then l3 else [], ((b3, e3) : Rs)) = (l, (bs', e')) := by
    rw [← h]
    unfold rList
    simp only [hu, hf, hmany]
  simp only [Prod.mk.injEq] at hfin
  obtain ⟨hl3, rfl, rfl⟩ := hfin
  clear h
  have hcase : b2.length ≤ bs.length ∧ (m ≤ b1.length ∨ e2 ≠ 0) := by
    by_cases hlt : b1.length < m
    · rw [if_pos hlt] at hf
      by_cases h0 : e1 = 0
      · simp only [rFail, h0, if_true, Prod.mk.injEq] at hf
        rw [← hf.1]
        exact ⟨hb1, .inr (by rw [← hf.2]; decide)⟩
      · simp only [rFail, h0, if_false, Prod.mk.injEq] at hf
        rw [← hf.1]
        exact ⟨hb1, .inr (by rw [← hf.2]; exact h0)⟩
    · rw [if_neg hlt] at hf
      simp only [Prod.mk.injEq] at hf
      rw [← hf.1]
      exact ⟨hb1, .inl (by omega)⟩
  obtain ⟨hb2, hme⟩ := hcase
  replace hu := Lib.hid hu
  replace hl3 := Lib.hid hl3
  replace hmany := Lib.hid hmany
  refine CT_enter Try.func55 rfl ?_; (simp only [Try.ntmps55, List.size_toArray, List.length_cons, List.length_nil, Nat.reduceAdd, Nat.reduceSub, Array.replicate_succ, Array.replicate_zero, List.push_toArray, List.append_toArray, List.nil_append, List.cons_append])
  repeat' (first | refine go ?_ | intro _ | (apply cG; first | refine cT ?_ | refine cF ?_ | refine cS (fun _ => ?_) fun _ => ?_) | (apply gW; refine sW ?_) | (apply gI; refine sI ?_) | (apply gE; refine sE ?_) | (apply gP; refine sP ?_) | (apply gC; refine sC ?_) | (apply gD; refine sD ?_) | fail)
  refine O_d (dy_call ArgsI.pf (by first | exact rfl | trivial | (intro a b; rfl)) (Uint_ct hu.out (by omega))) ?_; rintro _ _ ⟨_, ⟨rfl, rfl⟩, rfl⟩; refine O_n ?_
  repeat' (first | refine go ?_ | intro _ | (apply cG; first | refine cT ?_ | refine cF ?_ | refine cS (fun _ => ?_) fun _ => ?_) | (apply gW; refine sW ?_) | (apply gI; refine sI ?_) | (apply gE; refine sE ?_) | (apply gP; refine sP ?_) | (apply gC; refine sC ?_) | (apply gD; refine sD ?_) | fail)
  refine rr_open fun A n c hn => ?_
  by_cases hlt : b1.length < m
  rotate_left
  rw [if_neg hlt] at hf
  simp only [Prod.mk.injEq] at hf
  obtain ⟨rfl, rfl⟩ := hf
  repeat' (first | refine go ?_ | intro _ | (apply cG; first | refine cT ?_ | refine cF ?_ | refine cS (fun _ => ?_) fun _ => ?_) | (apply gW; refine sW ?_) | (apply gI; refine sI ?_) | (apply gE; refine sE ?_) | (apply gP; refine sP ?_) | (apply gC; refine sC ?_) | (apply gD; refine sD ?_) | fail)
  refine C_sub rr_sub ?_
  rotate_left
  rw [if_pos hlt] at hf
  replace hf := Lib.hid hf
  repeat' (first | refine go ?_ | intro _ | (apply cG; first | refine cT ?_ | refine cF ?_ | refine cS (fun _ => ?_) fun _ => ?_) | (apply gW; refine sW ?_) | (apply gI; refine sI ?_) | (apply gE; refine sE ?_) | (apply gP; refine sP ?_) | (apply gC; refine sC ?_) | (apply gD; refine sD ?_) | fail)
  refine O_sub rr_sub ?_
  refine O_d (dy_call ArgsI.pf (by first | exact rfl | trivial | (intro a b; rfl)) (fail_ct hf.out)) ?_; rintro _ _ ⟨_, rfl, rfl⟩; refine O_n ?_
  repeat' (first | refine go ?_ | intro _ | (apply cG; first | refine cT ?_ | refine cF ?_ | refine cS (fun _ => ?_) fun _ => ?_) | (apply gW; refine sW ?_) | (apply gI; refine sI ?_) | (apply gE; refine sE ?_) | (apply gP; refine sP ?_) | (apply gC; refine sC ?_) | (apply gD; refine sD ?_) | fail)
  all_goals
    refine C_ownnil 5 eB ?_
    refine C_loop (κ := Nat × Value × List UInt8 × List UInt8 × Int) [false, false, false, false, false, false, true, true, false, false, false, false, false, false, false, false, false, false, false, false, true, true, true, true, true, true, true, true, true, true, true, true, true, true, true, true, true, false, false, false, false, false, false] (fun k => [(6, k.2.1), (7, .int .u64 (k.1 : Int))]) (fun k => rr p k.2.2.2.1 k.2.2.2.2 :: own 5 eB k.2.1 k.2.2.1 :: L) (fun k => LIV rNext m bs.length (l3, (b3, e3)) k.1 k.2.1 k.2.2.1 k.2.2.2.1 k.2.2.2.2) (fun k => m - k.1) (0, .slice none 0 0, [], _, _) ⟨Nat.zero_le _, rfl, ⟨none, 0, rfl⟩, hb2, hme.imp (fun h => Nat.le_trans h hb1) id, by have := hmany.out; rw [Nat.sub_zero, this]; rfl⟩ ⟨rfl, rfl, trivial⟩ (fun m h s => s.swap) ?_
    rintro ⟨i, v, out, b, ee⟩ u ⟨hi, hol, ⟨A, c, hv⟩, hbl, hmb, hinv⟩
    dsimp only at hi hol hv hbl hmb hinv
    subst hv
    subst hol
    replace hinv := Lib.hid hinv
    ((try dsimp only); refine C_n ?_; (try simp only [Nat.reduceAdd, Nat.zero_add]))
    by_cases him : out.length < m
    · by_cases he : ee = 0
      · subst he
        obtain ⟨x, b', ee', hx⟩ : ∃ x b' ee', rNext (b, 0) = (x, (b', ee')) := ⟨_, _, _, rfl⟩
        have hmb2 : m ≤ bs.length := hmb.resolve_right (fun h => h rfl)
        have hnext : (out ++ [x] ++ (rMany rNext (m - (out.length + 1)) (b', ee')).1, (rMany rNext (m - (out.length + 1)) (b', ee')).2) = (l3, ((b3, e3) : Rs)) := by
          rw [← hinv.out]
          have e1 : m - out.length = (m - (out.length + 1)) + 1 := by omega
          rw [e1, rMany, if_pos rfl, hx]
          simp
        have hb' : b'.length ≤ bs.length := by
          have := rNext_len (b, 0)
          rw [hx] at this
          dsimp only at this
          omega
        have hst : m ≤ bs.length ∨ ee' ≠ 0 := .inl hmb2
        replace hnext := Lib.hid hnext
        replace hx := Lib.hid hx
        clear hinv
        repeat' (first | refine go ?_ | intro _ | (apply cG; first | refine cT ?_ | refine cF ?_ | refine cS (fun _ => ?_) fun _ => ?_) | (apply gW; refine sW ?_) | (apply gI; refine sI ?_) | (apply gE; refine sE ?_) | (apply gP; refine sP ?_) | (apply gC; refine sC ?_) | (apply gD; refine sD ?_) | fail)
        refine rr_open fun A' n' c' hn' => ?_
        repeat' (first | refine go ?_ | intro _ | (apply cG; first | refine cT ?_ | refine cF ?_ | refine cS (fun _ => ?_) fun _ => ?_) | (apply gW; refine sW ?_) | (apply gI; refine sI ?_) | (apply gE; refine sE ?_) | (apply gP; refine sP ?_) | (apply gC; refine sC ?_) | (apply gD; refine sD ?_) | fail)
        refine O_sub rr_sub ?_
        refine O_d (dy_callv Ev.pf ArgsI.pf (by simp only [List.append_toArray, List.nil_append, List.append_nil, List.cons_append] <;> exact rfl) (by first | exact rfl | trivial | (intro a b; rfl)) (next_ct hx.out (by omega))) ?_; rintro _ _ ⟨_, ⟨rfl, rfl⟩, rfl⟩; refine O_n ?_
        refine O_d (dy_lit1 (R := eB) x (hcs := by rfl) (hel := fun _ _ _ => by rfl)) ?_; rintro _ _ ⟨_, rfl, rfl⟩; refine O_n ?_
        refine O_d dy_append ?_; rintro _ _ ⟨A2, c2, rfl, rfl⟩; refine O_n ?_
        repeat' (first | refine go ?_ | intro _ | (apply cG; first | refine cT ?_ | refine cF ?_ | refine cS (fun _ => ?_) fun _ => ?_) | (apply gW; refine sW ?_) | (apply gI; refine sI ?_) | (apply gE; refine sE ?_) | (apply gP; refine sP ?_) | (apply gC; refine sC ?_) | (apply gD; refine sD ?_) | fail)
        exact E_round (out.length + 1, .slice A2 (out.length + 1) c2, out ++ [x], b', ee') ⟨him, List.length_append, ⟨A2, c2, rfl⟩, hb', hst, hnext.out⟩ (by show m - (out.length + 1) < m - out.length; omega) ⟨rfl, rfl, trivial⟩ (sub_drop (Sub.refl _))
      · have hfin : out = l3 ∧ b = b3 ∧ ee = e3 := by
          have h1 := hinv.out
          have e1 : m - out.length = (m - (out.length + 1)) + 1 := by omega
          rw [e1, rMany, if_neg he] at h1
          simpa using h1
        obtain ⟨hf1, rfl, rfl⟩ := hfin
        clear hinv
        repeat' (first | refine go ?_ | intro _ | (apply cG; first | refine cT ?_ | refine cF ?_ | refine cS (fun _ => ?_) fun _ => ?_) | (apply gW; refine sW ?_) | (apply gI; refine sI ?_) | (apply gE; refine sE ?_) | (apply gP; refine sP ?_) | (apply gC; refine sC ?_) | (apply gD; refine sD ?_) | fail)
        refine rr_open fun A' n' c' hn' => ?_
        repeat' (first | refine go ?_ | intro _ | (apply cG; first | refine cT ?_ | refine cF ?_ | refine cS (fun _ => ?_) fun _ => ?_) | (apply gW; refine sW ?_) | (apply gI; refine sI ?_) | (apply gE; refine sE ?_) | (apply gP; refine sP ?_) | (apply gC; refine sC ?_) | (apply gD; refine sD ?_) | fail)
        have hl0 : l = [] := by have := hl3.out; rw [if_neg he] at this; exact this.symm
        subst hl0
        refine E_sub rr_sub ?_
        refine E_ownnil 5 eB ?_
        refine E_sub (sub_skip (sub_skip (sub_drop (Sub.refl _)))) ?_
        refine E_end1 (by rfl) (by rfl) Ev.pf ⟨none, 0, rfl, rfl⟩
    · obtain rfl : m = out.length := by omega
      have hfin : out = l3 ∧ b = b3 ∧ ee = e3 := by
        have h1 := hinv.out
        rw [Nat.sub_self, rMany] at h1
        simpa using h1
      obtain ⟨hf1, rfl, rfl⟩ := hfin
      clear hinv
      by_cases he : ee = 0
      · have hl0 : l = out := by have := hl3.out; rw [if_pos he] at this; rw [hf1]; exact this.symm
        subst hl0
        repeat' (first | refine go ?_ | intro _ | (apply cG; first | refine cT ?_ | refine cF ?_ | refine cS (fun _ => ?_) fun _ => ?_) | (apply gW; refine sW ?_) | (apply gI; refine sI ?_) | (apply gE; refine sE ?_) | (apply gP; refine sP ?_) | (apply gC; refine sC ?_) | (apply gD; refine sD ?_) | fail)
        refine rr_open fun A' n' c' hn' => ?_
        repeat' (first | refine go ?_ | intro _ | (apply cG; first | refine cT ?_ | refine cF ?_ | refine cS (fun _ => ?_) fun _ => ?_) | (apply gW; refine sW ?_) | (apply gI; refine sI ?_) | (apply gE; refine sE ?_) | (apply gP; refine sP ?_) | (apply gC; refine sC ?_) | (apply gD; refine sD ?_) | fail)
        refine E_sub rr_sub ?_
        refine E_sub (fun m h s => s.swap) ?_
        refine E_end1 (by rfl) (by rfl) Ev.pf ⟨_, _, rfl, rfl⟩
      · have hl0 : l = [] := by have := hl3.out; rw [if_neg he] at this; exact this.symm
        subst hl0
        repeat' (first | refine go ?_ | intro _ | (apply cG; first | refine cT ?_ | refine cF ?_ | refine cS (fun _ => ?_) fun _ => ?_) | (apply gW; refine sW ?_) | (apply gI; refine sI ?_) | (apply gE; refine sE ?_) | (apply gP; refine sP ?_) | (apply gC; refine sC ?_) | (apply gD; refine sD ?_) | fail)
        refine rr_open fun A' n' c' hn' => ?_
        repeat' (first | refine go ?_ | intro _ | (apply cG; first | refine cT ?_ | refine cF ?_ | refine cS (fun _ => ?_) fun _ => ?_) | (apply gW; refine sW ?_) | (apply gI; refine sI ?_) | (apply gE; refine sE ?_) | (apply gP; refine sP ?_) | (apply gC; refine sC ?_) | (apply gD; refine sD ?_) | fail)
        refine E_sub rr_sub ?_
        refine E_ownnil 5 eB ?_
        refine E_sub (sub_skip (sub_skip (sub_drop (Sub.refl _)))) ?_
        refine E_end1 (by rfl) (by rfl) Ev.pf ⟨none, 0, rfl, rfl⟩
theorem Raw_ct {p : Nat} {l bs bs' : List UInt8} {e e' : Int} (h : rList rNext (bs, e) = (l, (bs', e'))) (hl : bs.length ≤ 1000000000000) : CT Try.prog 32 #[.pointer (some ⟨p, 0, none⟩)] W0 (rr p bs e :: L) fun r L' => ∃ A c, r = .slice A l.length c ∧ L' = own 5 eB (.slice A l.length c) l :: rr p bs' e' :: L := by
  replace h := Lib.hid h
  refine CT_enter Try.func32 rfl ?_; (simp only [Try.ntmps32, List.size_toArray, List.length_cons, List.length_nil, Nat.reduceAdd, Nat.reduceSub, Array.replicate_succ, Array.replicate_zero, List.push_toArray, List.append_toArray, List.nil_append, List.cons_append])
  repeat' (first | refine go ?_ | intro _ | (apply cG; first | refine cT ?_ | refine cF ?_ | refine cS (fun _ => ?_) fun _ => ?_) | (apply gW; refine sW ?_) | (apply gI; refine sI ?_) | (apply gE; refine sE ?_) | (apply gP; refine sP ?_) | (apply gC; refine sC ?_) | (apply gD; refine sD ?_) | fail)
  refine O_d (dy_call ArgsI.pf (by first | exact rfl | trivial | (intro a b; rfl)) (listB_ct h.out hl)) ?_; rintro _ _ ⟨_, ⟨A, c, rfl, rfl⟩, rfl⟩; refine O_n ?_
  repeat' (first | refine go ?_ | intro _ | (apply cG; first | refine cT ?_ | refine cF ?_ | refine cS (fun _ => ?_) fun _ => ?_) | (apply gW; refine sW ?_) | (apply gI; refine sI ?_) | (apply gE; refine sE ?_) | (apply gP; refine sP ?_) | (apply gC; refine sC ?_) | (apply gD; refine sD ?_) | fail)
  refine E_end1 (by rfl) (by rfl) Ev.pf ⟨_, _, rfl, rfl⟩
end
end Go.Proofs.Ytbjaecofccpahaa
