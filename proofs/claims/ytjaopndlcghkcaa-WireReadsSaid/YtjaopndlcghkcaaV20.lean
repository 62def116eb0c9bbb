/-
  Walks of the reference 02: the reader's other methods.
-/
import Derived.Test.YtjaopndlcghkcaaV19
namespace Go.Proofs.Ytjaopndlcghkcaa
open Go Go.RowKit
set_option linter.unusedVariables false
set_option linter.unusedSimpArgs false
set_option synthInstance.maxSize 100000
set_option synthInstance.maxHeartbeats 400000
theorem rList_cases {α : Type} {f : Rs → α × Rs} {bs b1 bs' : List UInt8} {e e1 e' : Int} {m : Nat} {l : List α} (hu : rU (bs, e) = (m, (b1, e1))) (h : rList f (bs, e) = (l, (bs', e'))) :
    (e1 ≠ 0 ∧ l = [] ∧ e' = e1) ∨ (e1 = 0 ∧ b1.length < m ∧ l = [] ∧ e' = 3) ∨ (e1 = 0 ∧ m ≤ b1.length ∧ (rMany f m (b1, 0)).2 = (bs', e') ∧ l = if e' = 0 then (rMany f m (b1, 0)).1 else []) := by
  rw [rList_eq, hu] at h
  dsimp only at h
  by_cases he : e1 = 0
  · subst he
    by_cases hl : b1.length < m
    · rw [if_pos hl, rFail_3, rMany_err (by show (3 : Int) ≠ 0; decide)] at h
      simp only [Prod.mk.injEq] at h
      exact .inr (.inl ⟨rfl, hl, by rw [← h.1]; simp, h.2.2.symm⟩)
    · rw [if_neg hl] at h
      simp only [Prod.mk.injEq] at h
      exact .inr (.inr ⟨rfl, by omega, h.2, by rw [← h.1, h.2]⟩)
  · have h5 : (if b1.length < m then rFail (b1, e1) 3 else (b1, e1)) = (b1, e1) := by
      split
      · simp only [rFail, if_neg he]
      · rfl
    rw [h5, rMany_err he] at h
    simp only [Prod.mk.injEq] at h
    exact .inl ⟨he, by rw [← h.1]; simp, h.2.2.symm⟩
theorem rMany_take : ∀ (n : Nat) (b : List UInt8), n ≤ b.length → rMany rNext n (b, 0) = (b.take n, (b.drop n, 0))
  | 0, b, _ => rfl
  | n + 1, [], h => by simp at h
  | n + 1, c :: r, h => by
    rw [rMany, if_pos rfl]
    have e : rNext (c :: r, 0) = (c, (r, 0)) := rfl
    rw [e]
    dsimp only
    rw [rMany_take n r (by simpa using h)]
    rfl
section
variable {W0 : World} {L : List HP}
theorem fBack_ct {m : Nat} (hm : m < 18446744073709551616) : CT Try.prog 63 #[.int .u64 (m : Int)] W0 L fun r L' => r = .int .i64 (unzig m) ∧ L' = L := by
  refine CT_enter Try.func63 rfl ?_; (simp only [Try.ntmps63, List.size_toArray, List.length_cons, List.length_nil, Nat.reduceAdd, Nat.reduceSub, Array.replicate_succ, Array.replicate_zero, List.push_toArray, List.append_toArray, List.nil_append, List.cons_append])
  by_cases h : m % 2 = 1
  · have e : -((m : Int) / 2) - 1 = unzig m := by unfold unzig; rw [if_pos h]; push_cast; rfl
    repeat' (first | refine go ?_ | intro _ | (apply cG; first | refine cT ?_ | refine cF ?_ | refine cS (fun _ => ?_) fun _ => ?_) | (apply gW; refine sW ?_) | (apply gI; refine sI ?_) | (apply gE; refine sE ?_) | (apply gP; refine sP ?_) | (apply gC; refine sC ?_) | (apply gD; refine sD ?_) | fail)
    rw [e]
    refine E_res1 (by rfl) (by rfl) ⟨rfl, rfl⟩ Sb
  · have e : (m : Int) / 2 = unzig m := by unfold unzig; rw [if_neg h]; push_cast; rfl
    repeat' (first | refine go ?_ | intro _ | (apply cG; first | refine cT ?_ | refine cF ?_ | refine cS (fun _ => ?_) fun _ => ?_) | (apply gW; refine sW ?_) | (apply gI; refine sI ?_) | (apply gE; refine sE ?_) | (apply gP; refine sP ?_) | (apply gC; refine sC ?_) | (apply gD; refine sD ?_) | fail)
    rw [e]
    refine E_res1 (by rfl) (by rfl) ⟨rfl, rfl⟩ Sb
theorem fI_ct {p : Nat} {x : Int} {bs bs' : List UInt8} {e e' : Int} (h : rI (bs, e) = (x, (bs', e'))) (hl : bs.length ≤ 1000000000000) :
    CT Try.prog 51 #[.pointer (some ⟨p, 0, none⟩)] W0 (fr p bs e :: L) fun r L' => ∃ b, Kp bs bs' b e' ∧ r = .int .i64 x ∧ L' = fr p b e' :: L := by
  unfold rI at h
  simp only [Prod.mk.injEq] at h
  obtain ⟨rfl, h⟩ := h
  refine CT_enter Try.func51 rfl ?_; (simp only [Try.ntmps51, List.size_toArray, List.length_cons, List.length_nil, Nat.reduceAdd, Nat.reduceSub, Array.replicate_succ, Array.replicate_zero, List.push_toArray, List.append_toArray, List.nil_append, List.cons_append])
  repeat' (first | refine go ?_ | intro _ | (apply cG; first | refine cT ?_ | refine cF ?_ | refine cS (fun _ => ?_) fun _ => ?_) | (apply gW; refine sW ?_) | (apply gI; refine sI ?_) | (apply gE; refine sE ?_) | (apply gP; refine sP ?_) | (apply gC; refine sC ?_) | (apply gD; refine sD ?_) | fail)
  refine O_d (dy_call ArgsI.pf (by first | exact rfl | trivial | (intro a b; rfl)) (fU_ct (m := (rU (bs, e)).1) (bs' := bs') (e' := e') (by rw [← h]) hl)) ?_; rintro _ _ ⟨_, ⟨b, hk, rfl, rfl⟩, rfl⟩; refine O_n ?_
  repeat' (first | refine go ?_ | intro _ | (apply cG; first | refine cT ?_ | refine cF ?_ | refine cS (fun _ => ?_) fun _ => ?_) | (apply gW; refine sW ?_) | (apply gI; refine sI ?_) | (apply gE; refine sE ?_) | (apply gP; refine sP ?_) | (apply gC; refine sC ?_) | (apply gD; refine sD ?_) | fail)
  refine O_d (dy_call ArgsI.pf (by first | exact rfl | trivial | (intro a b; rfl)) (fBack_ct (rU_lt _))) ?_; rintro _ _ ⟨_, ⟨rfl, hLL⟩, rfl⟩; replace hLL := hLL.symm; subst hLL; refine O_n ?_
  repeat' (first | refine go ?_ | intro _ | (apply cG; first | refine cT ?_ | refine cF ?_ | refine cS (fun _ => ?_) fun _ => ?_) | (apply gW; refine sW ?_) | (apply gI; refine sI ?_) | (apply gE; refine sE ?_) | (apply gP; refine sP ?_) | (apply gC; refine sC ?_) | (apply gD; refine sD ?_) | fail)
  refine E_res1 (by rfl) (by rfl) ⟨b, hk, rfl, rfl⟩ Sb
theorem fEnd_ct {p : Nat} {bs : List UInt8} {e : Int} (hl : bs.length ≤ 1000000000000) :
    CT Try.prog 26 #[.pointer (some ⟨p, 0, none⟩)] W0 (fr p bs e :: L) fun r L' => r = .int .i64 (rEnd (bs, e)) ∧ L' = fr p bs e :: L := by
  refine fr_ct fun A n c hn hnc => ?_
  refine CT_enter Try.func26 rfl ?_; (simp only [Try.ntmps26, List.size_toArray, List.length_cons, List.length_nil, Nat.reduceAdd, Nat.reduceSub, Array.replicate_succ, Array.replicate_zero, List.push_toArray, List.append_toArray, List.nil_append, List.cons_append])
  unfold rEnd
  dsimp only
  by_cases he : e = 0
  · by_cases h0 : 0 < bs.length
    · rw [if_pos ⟨he, h0⟩]
      repeat' (first | refine go ?_ | intro _ | (apply cG; first | refine cT ?_ | refine cF ?_ | refine cS (fun _ => ?_) fun _ => ?_) | (apply gW; refine sW ?_) | (apply gI; refine sI ?_) | (apply gE; refine sE ?_) | (apply gP; refine sP ?_) | (apply gC; refine sC ?_) | (apply gD; refine sD ?_) | fail)
      refine E_res1 (by rfl) (by rfl) ⟨rfl, rfl⟩ (Sub.trans Sb (fr_sub (v := .slice A n c)))
    · rw [if_neg (fun h => h0 h.2)]
      repeat' (first | refine go ?_ | intro _ | (apply cG; first | refine cT ?_ | refine cF ?_ | refine cS (fun _ => ?_) fun _ => ?_) | (apply gW; refine sW ?_) | (apply gI; refine sI ?_) | (apply gE; refine sE ?_) | (apply gP; refine sP ?_) | (apply gC; refine sC ?_) | (apply gD; refine sD ?_) | fail)
      refine E_res1 (by rfl) (by rfl) ⟨rfl, rfl⟩ (Sub.trans Sb (fr_sub (v := .slice A n c)))
  · rw [if_neg (fun h => he h.1)]
    repeat' (first | refine go ?_ | intro _ | (apply cG; first | refine cT ?_ | refine cF ?_ | refine cS (fun _ => ?_) fun _ => ?_) | (apply gW; refine sW ?_) | (apply gI; refine sI ?_) | (apply gE; refine sE ?_) | (apply gP; refine sP ?_) | (apply gC; refine sC ?_) | (apply gD; refine sD ?_) | fail)
    refine E_res1 (by rfl) (by rfl) ⟨rfl, rfl⟩ (Sub.trans Sb (fr_sub (v := .slice A n c)))
theorem fB_ct {p : Nat} {x : Bool} {bs bs' : List UInt8} {e e' : Int} (h : rB (bs, e) = (x, (bs', e'))) (hl : bs.length ≤ 1000000000000) :
    CT Try.prog 52 #[.pointer (some ⟨p, 0, none⟩)] W0 (fr p bs e :: L) fun r L' => ∃ b, Kp bs bs' b e' ∧ r = .bool x ∧ L' = fr p b e' :: L := by
  refine fr_ct fun A n c hn hnc => ?_
  refine CT_enter Try.func52 rfl ?_; (simp only [Try.ntmps52, List.size_toArray, List.length_cons, List.length_nil, Nat.reduceAdd, Nat.reduceSub, Array.replicate_succ, Array.replicate_zero, List.push_toArray, List.append_toArray, List.nil_append, List.cons_append])
  by_cases he : e = 0
  rotate_left
  · rw [rB_err he] at h
    simp only [Prod.mk.injEq] at h
    obtain ⟨rfl, rfl, rfl⟩ := h
    repeat' (first | refine go ?_ | intro _ | (apply cG; first | refine cT ?_ | refine cF ?_ | refine cS (fun _ => ?_) fun _ => ?_) | (apply gW; refine sW ?_) | (apply gI; refine sI ?_) | (apply gE; refine sE ?_) | (apply gP; refine sP ?_) | (apply gC; refine sC ?_) | (apply gD; refine sD ?_) | fail)
    refine E_res1 (by rfl) (by rfl) ⟨bs, ⟨fun h => absurd h he, Nat.le_refl _⟩, rfl, rfl⟩ (Sub.trans Sb (fr_sub (v := .slice A n c)))
  subst he
  unfold rB at h
  rcases bs with _ | ⟨c8, r⟩
  · have e : rNext (([] : List UInt8), 0) = (0, ([], 3)) := rfl
    rw [e] at h
    simp only [Prod.mk.injEq] at h
    obtain ⟨rfl, h⟩ := h
    have h3 : ([], 3) = ((bs', e') : Rs) := h
    simp only [Prod.mk.injEq] at h3
    obtain ⟨rfl, rfl⟩ := h3
    simp only [List.length_nil] at hn
    subst hn
    repeat' (first | refine go ?_ | intro _ | (apply cG; first | refine cT ?_ | refine cF ?_ | refine cS (fun _ => ?_) fun _ => ?_) | (apply gW; refine sW ?_) | (apply gI; refine sI ?_) | (apply gE; refine sE ?_) | (apply gP; refine sP ?_) | (apply gC; refine sC ?_) | (apply gD; refine sD ?_) | fail)
    refine E_res1 (by rfl) (by rfl) ⟨[], ⟨fun h => absurd h (by decide), Nat.le_refl _⟩, rfl, rfl⟩ (Sub.trans Sb (fr_sub (v := .slice A 0 c)))
  · have e : rNext (c8 :: r, 0) = (c8, (r, 0)) := rfl
    rw [e] at h
    simp only [Prod.mk.injEq] at h
    obtain ⟨rfl, h⟩ := h
    have hax : At (c8 :: r) 0 c8 := ⟨rfl⟩
    simp only [List.length_cons] at hn
    by_cases h1 : 1 < c8.toNat
    · rw [if_pos h1] at h
      simp only [rFail, if_true, Prod.mk.injEq] at h
      obtain ⟨rfl, rfl⟩ := h
      repeat' (first | refine go ?_ | intro _ | (apply cG; first | refine cT ?_ | refine cF ?_ | refine cS (fun _ => ?_) fun _ => ?_) | (apply gW; refine sW ?_) | (apply gI; refine sI ?_) | (apply gE; refine sE ?_) | (apply gP; refine sP ?_) | (apply gC; refine sC ?_) | (apply gD; refine sD ?_) | fail)
      refine E_res1 (by rfl) (by rfl) ⟨c8 :: r, ⟨fun h => absurd h (by decide), Nat.le_refl _⟩, congrArg Value.bool (decide_eq_false (by omega)).symm, rfl⟩ (Sub.trans Sb (fr_sub (v := .slice A n c)))
    · rw [if_neg h1] at h
      simp only [Prod.mk.injEq] at h
      obtain ⟨rfl, rfl⟩ := h
      by_cases h2 : c8.toNat = 1
      · repeat' (first | refine go ?_ | intro _ | (apply cG; first | refine cT ?_ | refine cF ?_ | refine cS (fun _ => ?_) fun _ => ?_) | (apply gW; refine sW ?_) | (apply gI; refine sI ?_) | (apply gE; refine sE ?_) | (apply gP; refine sP ?_) | (apply gC; refine sC ?_) | (apply gD; refine sD ?_) | fail)
        rename_i A2 c2
        have hdr : ((c8 :: r).drop 1).take (n - 1) = r := by subst hn; simp
        rw [hdr]
        refine E_res1 (by rfl) (by rfl) ⟨r, ⟨fun _ => rfl, by simp⟩, congrArg Value.bool (decide_eq_true h2).symm, rfl⟩ (Sub.trans Sb (fr_sub (v := .slice A2 (n - 1) c2)))
      · repeat' (first | refine go ?_ | intro _ | (apply cG; first | refine cT ?_ | refine cF ?_ | refine cS (fun _ => ?_) fun _ => ?_) | (apply gW; refine sW ?_) | (apply gI; refine sI ?_) | (apply gE; refine sE ?_) | (apply gP; refine sP ?_) | (apply gC; refine sC ?_) | (apply gD; refine sD ?_) | fail)
        rename_i A2 c2
        have hdr : ((c8 :: r).drop 1).take (n - 1) = r := by subst hn; simp
        rw [hdr]
        refine E_res1 (by rfl) (by rfl) ⟨r, ⟨fun _ => rfl, by simp⟩, congrArg Value.bool (decide_eq_false h2).symm, rfl⟩ (Sub.trans Sb (fr_sub (v := .slice A2 (n - 1) c2)))
/-- a length: m, or an error -/
theorem fLen_ct {p m : Nat} {bs b1 : List UInt8} {e e1 : Int} (h : rU (bs, e) = (m, (b1, e1))) (hl : bs.length ≤ 1000000000000) :
    CT Try.prog 64 #[.pointer (some ⟨p, 0, none⟩)] W0 (fr p bs e :: L) fun r L' => ∃ b e2 k, b.length ≤ bs.length ∧ ((e1 ≠ 0 ∧ e2 = e1 ∧ k = 0) ∨ (e1 = 0 ∧ b1.length < m ∧ e2 = 3 ∧ k = 0) ∨ (e1 = 0 ∧ m ≤ b1.length ∧ e2 = 0 ∧ b = b1 ∧ k = (m : Int))) ∧ r = .int .i64 k ∧ L' = fr p b e2 :: L := by
  refine CT_enter Try.func64 rfl ?_; (simp only [Try.ntmps64, List.size_toArray, List.length_cons, List.length_nil, Nat.reduceAdd, Nat.reduceSub, Array.replicate_succ, Array.replicate_zero, List.push_toArray, List.append_toArray, List.nil_append, List.cons_append])
  have hlen := rU_len (bs, e)
  rw [h] at hlen
  dsimp only at hlen
  repeat' (first | refine go ?_ | intro _ | (apply cG; first | refine cT ?_ | refine cF ?_ | refine cS (fun _ => ?_) fun _ => ?_) | (apply gW; refine sW ?_) | (apply gI; refine sI ?_) | (apply gE; refine sE ?_) | (apply gP; refine sP ?_) | (apply gC; refine sC ?_) | (apply gD; refine sD ?_) | fail)
  refine O_d (dy_call ArgsI.pf (by first | exact rfl | trivial | (intro a b; rfl)) (fU_ct h hl)) ?_; rintro _ _ ⟨_, ⟨b, hk, rfl, rfl⟩, rfl⟩; refine O_n ?_
  obtain ⟨hk1, hk2⟩ := hk
  repeat' (first | refine go ?_ | intro _ | (apply cG; first | refine cT ?_ | refine cF ?_ | refine cS (fun _ => ?_) fun _ => ?_) | (apply gW; refine sW ?_) | (apply gI; refine sI ?_) | (apply gE; refine sE ?_) | (apply gP; refine sP ?_) | (apply gC; refine sC ?_) | (apply gD; refine sD ?_) | fail)
  refine fr_open fun A n c hn hnc => ?_
  by_cases he : e1 = 0
  · have hb := hk1 he
    subst hb
    by_cases hlt : b.length < m
    · repeat' (first | refine go ?_ | intro _ | (apply cG; first | refine cT ?_ | refine cF ?_ | refine cS (fun _ => ?_) fun _ => ?_) | (apply gW; refine sW ?_) | (apply gI; refine sI ?_) | (apply gE; refine sE ?_) | (apply gP; refine sP ?_) | (apply gC; refine sC ?_) | (apply gD; refine sD ?_) | fail)
      refine E_res1 (by rfl) (by rfl) ⟨b, 3, 0, hk2, .inr (.inl ⟨he, hlt, rfl, rfl⟩), rfl, rfl⟩ (Sub.trans Sb (fr_sub (v := .slice A n c)))
    · repeat' (first | refine go ?_ | intro _ | (apply cG; first | refine cT ?_ | refine cF ?_ | refine cS (fun _ => ?_) fun _ => ?_) | (apply gW; refine sW ?_) | (apply gI; refine sI ?_) | (apply gE; refine sE ?_) | (apply gP; refine sP ?_) | (apply gC; refine sC ?_) | (apply gD; refine sD ?_) | fail)
      refine E_res1 (by rfl) (by rfl) ⟨b, e1, m, hk2, .inr (.inr ⟨he, by omega, he, rfl, rfl⟩), rfl, rfl⟩ (Sub.trans Sb (fr_sub (v := .slice A n c)))
  · repeat' (first | refine go ?_ | intro _ | (apply cG; first | refine cT ?_ | refine cF ?_ | refine cS (fun _ => ?_) fun _ => ?_) | (apply gW; refine sW ?_) | (apply gI; refine sI ?_) | (apply gE; refine sE ?_) | (apply gP; refine sP ?_) | (apply gC; refine sC ?_) | (apply gD; refine sD ?_) | fail)
    refine E_res1 (by rfl) (by rfl) ⟨b, e1, 0, hk2, .inl ⟨he, rfl, rfl⟩, rfl, rfl⟩ (Sub.trans Sb (fr_sub (v := .slice A n c)))
end
end Go.Proofs.Ytjaopndlcghkcaa
