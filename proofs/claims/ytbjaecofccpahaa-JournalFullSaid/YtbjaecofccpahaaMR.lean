/-
  Walks of the reference 02: the reader.
-/
import Derived.Test.YtbjaecofccpahaaMQ
import Derived.Test.YtbjaecofccpahaaMJ
namespace Go.Proofs.Ytbjaecofccpahaa
open Go Go.RowKit
set_option linter.unusedVariables false
set_option linter.unusedSimpArgs false
set_option maxRecDepth 20000
set_option synthInstance.maxSize 100000
set_option synthInstance.maxHeartbeats 400000
section
variable {W0 : World} {L : List HP}
/-- the reference's reader at block p -/
def fr (p : Nat) (bs : List UInt8) (e : Int) : HP := ex fun v => sp [cel p [v, .int .i64 e] 110, rd eB v bs]
theorem fr_ct {f : FuncId} {args : Array Value} {R : Value → List HP → Prop} {p : Nat} {bs : List UInt8} {e : Int} (k : ∀ A n c, n = bs.length → n ≤ c → CT Try.prog f args W0 (cel p [.slice A n c, .int .i64 e] 110 :: rd eB (.slice A n c) bs :: L) R) : CT Try.prog f args W0 (fr p bs e :: L) R := by
  refine ⟨fun w st => ?_⟩
  obtain ⟨v, h⟩ := st.ex_
  have h := h.open_
  obtain ⟨A, c, rfl, hc⟩ := (h.rd (.tail _ (.head _))).form
  exact (k A _ c rfl hc).run w h
theorem fr_open {ops : Array Oper} {Q : Exit → Act → World → Prop} {rest : List Oper} {a : Act} {p : Nat} {bs : List UInt8} {e : Int} (k : ∀ A n c, n = bs.length → n ≤ c → OL Try.prog W0 (cel p [.slice A n c, .int .i64 e] 110 :: rd eB (.slice A n c) bs :: L) ops Q rest a) : OL Try.prog W0 (fr p bs e :: L) ops Q rest a := by
  refine ⟨fun w st => ?_⟩
  obtain ⟨v, h⟩ := st.ex_
  have h := h.open_
  obtain ⟨A, c, rfl, hc⟩ := (h.rd (.tail _ (.head _))).form
  exact (k A _ c rfl hc).run w h
theorem fr_sub {p : Nat} {v : Value} {bs : List UInt8} {e : Int} : Sub (cel p [v, .int .i64 e] 110 :: rd eB v bs :: L) (fr p bs e :: L) := (sub_close (Ls := [cel p [v, .int .i64 e] 110, rd eB v bs])).trans (sub_ex (F := fun v => sp [cel p [v, .int .i64 e] 110, rd eB v bs]) v)
/-- what the reference's reader keeps after an error -/
def Kp (bs bs' b : List UInt8) (e' : Int) : Prop := (e' = 0 → b = bs') ∧ b.length ≤ bs.length
set_option maxHeartbeats 1000000 in
theorem fU_ct {p m : Nat} {bs bs' : List UInt8} {e e' : Int} (h : rU (bs, e) = (m, (bs', e'))) (hl : bs.length ≤ 1000000000000) :
    CT Try.prog 84 #[.pointer (some ⟨p, 0, none⟩)] W0 (fr p bs e :: L) fun r L' => ∃ b, Kp bs bs' b e' ∧ r = .int .u64 (m : Int) ∧ L' = fr p b e' :: L := by
  refine fr_ct fun A n c hn hnc => ?_
  refine CT_enter Try.func84 rfl ?_; (simp only [Try.ntmps84, List.size_toArray, List.length_cons, List.length_nil, Nat.reduceAdd, Nat.reduceSub, Array.replicate_succ, Array.replicate_zero, List.push_toArray, List.append_toArray, List.nil_append, List.cons_append])
  by_cases he : e = 0
  rotate_left
  · rw [rU_err he] at h
    simp only [Prod.mk.injEq] at h
    obtain ⟨rfl, rfl, rfl⟩ := h
    repeat' (first | refine go ?_ | intro _ | (apply cG; first | refine cT ?_ | refine cF ?_ | refine cS (fun _ => ?_) fun _ => ?_) | (apply gW; refine sW ?_) | (apply gI; refine sI ?_) | (apply gE; refine sE ?_) | (apply gP; refine sP ?_) | (apply gC; refine sC ?_) | (apply gD; refine sD ?_) | fail)
    refine C_loopS (κ := Unit) [false, false, true, true, true, true, true, true, true, true, true, true, true, true, true, true, true, true, true, true, true, true, true, true, true, true, true, true, true, true, true, true, true, true, true, true, true, true, true, true, true, true, true, true, true, true, true, true, true, true, true, true, true, true, true, true, true, true, true, true, true, true, true, true, true, true, true, true, true, true] (fun k => [(3, .int .u64 0), (4, .int .u64 1), (5, .int .i64 0)]) (fun k => []) (fun k => True) (fun k => 0) () trivial ⟨rfl, rfl, rfl, trivial⟩ ?_
    rintro ⟨⟩ u _
    ((try dsimp only); refine C_n ?_; (try simp only [Nat.reduceAdd, Nat.zero_add]))
    repeat' (first | refine go ?_ | intro _ | (apply cG; first | refine cT ?_ | refine cF ?_ | refine cS (fun _ => ?_) fun _ => ?_) | (apply gW; refine sW ?_) | (apply gI; refine sI ?_) | (apply gE; refine sE ?_) | (apply gP; refine sP ?_) | (apply gC; refine sC ?_) | (apply gD; refine sD ?_) | fail)
    refine E_res1 (by rfl) (by rfl) ⟨bs, ⟨fun h => absurd h he, Nat.le_refl _⟩, rfl, rfl⟩ (Sub.trans Sb (fr_sub (v := .slice A n c)))
  subst he
  unfold rU at h
  rw [if_pos rfl] at h
  dsimp only at h
  repeat' (first | refine go ?_ | intro _ | (apply cG; first | refine cT ?_ | refine cF ?_ | refine cS (fun _ => ?_) fun _ => ?_) | (apply gW; refine sW ?_) | (apply gI; refine sI ?_) | (apply gE; refine sE ?_) | (apply gP; refine sP ?_) | (apply gC; refine sC ?_) | (apply gD; refine sD ?_) | fail)
  refine C_loopS (κ := Nat × Nat) [false, false, true, true, true, true, true, true, true, true, true, true, true, true, true, true, true, true, true, true, true, true, true, true, true, true, true, true, true, true, true, true, true, true, true, true, true, true, true, true, true, true, true, true, true, true, true, true, true, true, true, true, true, true, true, true, true, true, true, true, true, true, true, true, true, true, true, true, true, true] (fun k => [(3, .int .u64 (k.2 : Int)), (4, .int .u64 ((128 ^ k.1 : Nat) : Int)), (5, .int .i64 (k.1 : Int))]) (fun k => []) (fun k => k.1 ≤ 9 ∧ k.1 ≤ bs.length ∧ k.2 < 128 ^ k.1 ∧ rUi k.1 k.2 (bs.drop k.1) = (m, (bs', e'))) (fun k => bs.length - k.1) (0, 0) ⟨by decide, Nat.zero_le _, by decide, h⟩ ⟨rfl, rfl, rfl, trivial⟩ ?_
  rintro ⟨i, x⟩ u ⟨h9, hi, hx, hr⟩
  dsimp only at h9 hi hx hr
  ((try dsimp only); refine C_n ?_; (try simp only [Nat.reduceAdd, Nat.zero_add]))
  have hp9 : 128 ^ i ≤ 9223372036854775808 := by
    have : 128 ^ i ≤ 128 ^ 9 := Nat.pow_le_pow_right (by decide) h9
    have e9 : (128 : Nat) ^ 9 = 9223372036854775808 := by decide
    omega
  obtain ⟨un, hun⟩ : ∃ un, 128 ^ i = un := ⟨_, rfl⟩
  rw [hun] at hp9 hx ⊢
  by_cases hlt : i < bs.length
  rotate_left
  · rw [List.drop_of_length_le (by omega)] at hr
    simp only [rUi, Prod.mk.injEq] at hr
    obtain ⟨rfl, rfl, rfl⟩ := hr
    repeat' (first | refine go ?_ | intro _ | (apply cG; first | refine cT ?_ | refine cF ?_ | refine cS (fun _ => ?_) fun _ => ?_) | (apply gW; refine sW ?_) | (apply gI; refine sI ?_) | (apply gE; refine sE ?_) | (apply gP; refine sP ?_) | (apply gC; refine sC ?_) | (apply gD; refine sD ?_) | fail)
    refine E_res1 (by rfl) (by rfl) ⟨bs, ⟨fun h => absurd h (by decide), Nat.le_refl _⟩, rfl, rfl⟩ (Sub.trans Sb (fr_sub (v := .slice A n c)))
  obtain ⟨c8, hc8⟩ : ∃ c8, bs[i]? = some c8 := ⟨_, List.getElem?_eq_getElem hlt⟩
  have hac : At bs i c8 := ⟨hc8⟩
  have hc := c8.toNat_lt
  rw [drop_get hc8] at hr
  by_cases hf : (i = 9 ∧ 1 < c8.toNat) ∨ (0 < i ∧ c8.toNat = 0)
  · rw [rUi, if_pos hf] at hr
    simp only [Prod.mk.injEq] at hr
    obtain ⟨rfl, rfl, rfl⟩ := hr
    by_cases hi9 : i = 9
    · by_cases h1 : 1 < c8.toNat
      · repeat' (first | refine go ?_ | intro _ | (apply cG; first | refine cT ?_ | refine cF ?_ | refine cS (fun _ => ?_) fun _ => ?_) | (apply gW; refine sW ?_) | (apply gI; refine sI ?_) | (apply gE; refine sE ?_) | (apply gP; refine sP ?_) | (apply gC; refine sC ?_) | (apply gD; refine sD ?_) | fail)
        refine E_res1 (by rfl) (by rfl) ⟨bs, ⟨fun h => absurd h (by decide), Nat.le_refl _⟩, rfl, rfl⟩ (Sub.trans Sb (fr_sub (v := .slice A n c)))
      · repeat' (first | refine go ?_ | intro _ | (apply cG; first | refine cT ?_ | refine cF ?_ | refine cS (fun _ => ?_) fun _ => ?_) | (apply gW; refine sW ?_) | (apply gI; refine sI ?_) | (apply gE; refine sE ?_) | (apply gP; refine sP ?_) | (apply gC; refine sC ?_) | (apply gD; refine sD ?_) | fail)
        refine E_res1 (by rfl) (by rfl) ⟨bs, ⟨fun h => absurd h (by decide), Nat.le_refl _⟩, rfl, rfl⟩ (Sub.trans Sb (fr_sub (v := .slice A n c)))
    · repeat' (first | refine go ?_ | intro _ | (apply cG; first | refine cT ?_ | refine cF ?_ | refine cS (fun _ => ?_) fun _ => ?_) | (apply gW; refine sW ?_) | (apply gI; refine sI ?_) | (apply gE; refine sE ?_) | (apply gP; refine sP ?_) | (apply gC; refine sC ?_) | (apply gD; refine sD ?_) | fail)
      refine E_res1 (by rfl) (by rfl) ⟨bs, ⟨fun h => absurd h (by decide), Nat.le_refl _⟩, rfl, rfl⟩ (Sub.trans Sb (fr_sub (v := .slice A n c)))
  have h9' : i = 9 → c8.toNat ≤ 1 := fun h => by
    rcases Nat.lt_or_ge 1 c8.toNat with hh | hh
    · exact absurd (.inl ⟨h, hh⟩) hf
    · exact hh
  have hsh := shl_ok h9 h9'
  have hmul : ((c8.toNat : Int) % 128) * (un : Int) = ((c8.toNat % 128 * un : Nat) : Int) := by push_cast; rfl
  rw [hun] at hsh
  obtain ⟨y, hy⟩ : ∃ y, c8.toNat % 128 * un = y := ⟨_, rfl⟩
  rw [hy] at hsh hmul
  have hw2 : (x : Int) + (y : Int) = ((x + y : Nat) : Int) := by push_cast; rfl
  by_cases h128 : c8.toNat < 128
  · have hcm : c8.toNat % 128 = c8.toNat := Nat.mod_eq_of_lt h128
    rw [rUi, if_neg hf, if_pos h128, hun, ← hcm, hy] at hr
    simp only [Prod.mk.injEq] at hr
    obtain ⟨rfl, rfl, rfl⟩ := hr
    repeat' (first | refine go ?_ | intro _ | (apply cG; first | refine cT ?_ | refine cF ?_ | refine cS (fun _ => ?_) fun _ => ?_) | (apply gW; refine sW ?_) | (apply gI; refine sI ?_) | (apply gE; refine sE ?_) | (apply gP; refine sP ?_) | (apply gC; refine sC ?_) | (apply gD; refine sD ?_) | fail)
    all_goals
      rw [hmul, hw2]
      rename_i A2 c2
      have hdr : (bs.drop (i + 1)).take (n - (i + 1)) = bs.drop (i + 1) := List.take_of_length_le (by rw [List.length_drop]; omega)
      rw [hdr]
      refine E_res1 (by rfl) (by rfl) ⟨bs.drop (i + 1), ⟨fun _ => rfl, by rw [List.length_drop]; omega⟩, rfl, rfl⟩ (Sub.trans Sb (fr_sub (v := .slice A2 (n - (i + 1)) c2)))
  · rw [rUi_step hf h128, hun, hy] at hr
    have hi8 : i ≤ 8 := by
      rcases Nat.lt_or_ge i 9 with hh | hh
      · omega
      · have := h9' (by omega); omega
    have hp8 : 128 ^ i ≤ 128 ^ 8 := Nat.pow_le_pow_right (by decide) hi8
    have e8 : (128 : Nat) ^ 8 = 72057594037927936 := by decide
    rw [hun, e8] at hp8
    have hnext : 128 ^ (i + 1) = un * 128 := by rw [Nat.pow_succ, hun]
    have hyl : y ≤ 127 * un := by rw [← hy]; exact Nat.mul_le_mul_right _ (by omega)
    repeat' (first | refine go ?_ | intro _ | (apply cG; first | refine cT ?_ | refine cF ?_ | refine cS (fun _ => ?_) fun _ => ?_) | (apply gW; refine sW ?_) | (apply gI; refine sI ?_) | (apply gE; refine sE ?_) | (apply gP; refine sP ?_) | (apply gC; refine sC ?_) | (apply gD; refine sD ?_) | fail)
    all_goals
      rw [hmul, hw2]
      exact E_round (i + 1, x + y) ⟨by show i + 1 ≤ 9; omega, hlt, by show x + y < 128 ^ (i + 1); rw [hnext]; omega, hr⟩ (by show bs.length - (i + 1) < bs.length - i; omega) ⟨rfl, by show _ = Value.int .u64 ((128 ^ (i + 1) : Nat) : Int); rw [hnext]; push_cast; rfl, rfl, trivial⟩ Sb
end
section
variable {W0 : World} {L : List HP}
theorem fBack_ct {m : Nat} (hm : m < 18446744073709551616) : CT Try.prog 83 #[.int .u64 (m : Int)] W0 L fun r L' => r = .int .i64 (unzig m) ∧ L' = L := by
  refine CT_enter Try.func83 rfl ?_; (simp only [Try.ntmps83, List.size_toArray, List.length_cons, List.length_nil, Nat.reduceAdd, Nat.reduceSub, Array.replicate_succ, Array.replicate_zero, List.push_toArray, List.append_toArray, List.nil_append, List.cons_append])
  by_cases h : m % 2 = 1
  · have e : -((m : Int) / 2) - 1 = unzig m := by unfold unzig; rw [if_pos h]; push_cast; rfl
    repeat' (first | refine go ?_ | intro _ | (apply cG; first | refine cT ?_ | refine cF ?_ | refine cS (fun _ => ?_) fun _ => ?_) | (apply gW; refine sW ?_) | (apply gI; refine sI ?_) | (apply gE; refine sE ?_) | (apply gP; refine sP ?_) | (apply gC; refine sC ?_) | (apply gD; refine sD ?_) | fail)
    rw [e]
    refine E_res1 (by rfl) (by rfl) ⟨rfl, rfl⟩ Sb
  · have e : (m : Int) / 2 = unzig m := by unfold unzig; rw [if_neg h]; push_cast; rfl
    repeat' (first | refine go ?_ | intro _ | (apply cG; first | refine cT ?_ | refine cF ?_ | refine cS (fun _ => ?_) fun _ => ?_) | (apply gW; refine sW ?_) | (apply gI; refine sI ?_) | (apply gE; refine sE ?_) | (apply gP; refine sP ?_) | (apply gC; refine sC ?_) | (apply gD; refine sD ?_) | fail)
    rw [e]
    refine E_res1 (by rfl) (by rfl) ⟨rfl, rfl⟩ Sb
theorem fI_ct {p : Nat} {x : Int} {bs bs' : List UInt8} {e e' : Int} (h : rI (bs, e) = (x, (bs', e'))) (hl : bs.length ≤ 1000000000000) :
    CT Try.prog 71 #[.pointer (some ⟨p, 0, none⟩)] W0 (fr p bs e :: L) fun r L' => ∃ b, Kp bs bs' b e' ∧ r = .int .i64 x ∧ L' = fr p b e' :: L := by
  unfold rI at h
  simp only [Prod.mk.injEq] at h
  obtain ⟨rfl, h⟩ := h
  refine CT_enter Try.func71 rfl ?_; (simp only [Try.ntmps71, List.size_toArray, List.length_cons, List.length_nil, Nat.reduceAdd, Nat.reduceSub, Array.replicate_succ, Array.replicate_zero, List.push_toArray, List.append_toArray, List.nil_append, List.cons_append])
  repeat' (first | refine go ?_ | intro _ | (apply cG; first | refine cT ?_ | refine cF ?_ | refine cS (fun _ => ?_) fun _ => ?_) | (apply gW; refine sW ?_) | (apply gI; refine sI ?_) | (apply gE; refine sE ?_) | (apply gP; refine sP ?_) | (apply gC; refine sC ?_) | (apply gD; refine sD ?_) | fail)
  refine O_d (dy_call ArgsI.pf (by first | exact rfl | trivial | (intro a b; rfl)) (fU_ct (m := (rU (bs, e)).1) (bs' := bs') (e' := e') (by rw [← h]) hl)) ?_; rintro _ _ ⟨_, ⟨b, hk, rfl, rfl⟩, rfl⟩; refine O_n ?_
  repeat' (first | refine go ?_ | intro _ | (apply cG; first | refine cT ?_ | refine cF ?_ | refine cS (fun _ => ?_) fun _ => ?_) | (apply gW; refine sW ?_) | (apply gI; refine sI ?_) | (apply gE; refine sE ?_) | (apply gP; refine sP ?_) | (apply gC; refine sC ?_) | (apply gD; refine sD ?_) | fail)
  refine O_d (dy_call ArgsI.pf (by first | exact rfl | trivial | (intro a b; rfl)) (fBack_ct (rU_lt _))) ?_; rintro _ _ ⟨_, ⟨rfl, hLL⟩, rfl⟩; replace hLL := hLL.symm; subst hLL; refine O_n ?_
  repeat' (first | refine go ?_ | intro _ | (apply cG; first | refine cT ?_ | refine cF ?_ | refine cS (fun _ => ?_) fun _ => ?_) | (apply gW; refine sW ?_) | (apply gI; refine sI ?_) | (apply gE; refine sE ?_) | (apply gP; refine sP ?_) | (apply gC; refine sC ?_) | (apply gD; refine sD ?_) | fail)
  refine E_res1 (by rfl) (by rfl) ⟨b, hk, rfl, rfl⟩ Sb
/-- a length: m, or an error -/
theorem fLen_ct {p m : Nat} {bs b1 : List UInt8} {e e1 : Int} (h : rU (bs, e) = (m, (b1, e1))) (hl : bs.length ≤ 1000000000000) :
    CT Try.prog 82 #[.pointer (some ⟨p, 0, none⟩)] W0 (fr p bs e :: L) fun r L' => ∃ b e2 k, b.length ≤ bs.length ∧ ((e1 ≠ 0 ∧ e2 = e1 ∧ k = 0) ∨ (e1 = 0 ∧ b1.length < m ∧ e2 = 3 ∧ k = 0) ∨ (e1 = 0 ∧ m ≤ b1.length ∧ e2 = 0 ∧ b = b1 ∧ k = (m : Int))) ∧ r = .int .i64 k ∧ L' = fr p b e2 :: L := by
  refine CT_enter Try.func82 rfl ?_; (simp only [Try.ntmps82, List.size_toArray, List.length_cons, List.length_nil, Nat.reduceAdd, Nat.reduceSub, Array.replicate_succ, Array.replicate_zero, List.push_toArray, List.append_toArray, List.nil_append, List.cons_append])
  have hlen := rU_len (bs, e)
  rw [h] at hlen
  dsimp only at hlen
  repeat' (first | refine go ?_ | intro _ | (apply cG; first | refine cT ?_ | refine cF ?_ | refine cS (fun _ => ?_) fun _ => ?_) | (apply gW; refine sW ?_) | (apply gI; refine sI ?_) | (apply gE; refine sE ?_) | (apply gP; refine sP ?_) | (apply gC; refine sC ?_) | (apply gD; refine sD ?_) | fail)
  refine O_d (dy_call ArgsI.pf (by first | exact rfl | trivial | (intro a b; rfl)) (fU_ct h hl)) ?_; rintro _ _ ⟨_, ⟨b, hk, rfl, rfl⟩, rfl⟩; refine O_n ?_
  obtain ⟨hk1, hk2⟩ := hk
  repeat' (first | refine go ?_ | intro _ | (apply cG; first | refine cT ?_ | refine cF ?_ | refine cS (fun _ => ?_) fun _ => ?_) | (apply gW; refine sW ?_) | (apply gI; refine sI ?_) | (apply gE; refine sE ?_) | (apply gP; refine sP ?_) | (apply gC; refine sC ?_) | (apply gD; refine sD ?_) | fail)
  refine fr_open fun A n c hn hnc => ?_
  by_cases he : e1 = 0
  · have hb := hk1 he
    subst hb
    by_cases hlt : b.length < m
    · repeat' (first | refine go ?_ | intro _ | (apply cG; first | refine cT ?_ | refine cF ?_ | refine cS (fun _ => ?_) fun _ => ?_) | (apply gW; refine sW ?_) | (apply gI; refine sI ?_) | (apply gE; refine sE ?_) | (apply gP; refine sP ?_) | (apply gC; refine sC ?_) | (apply gD; refine sD ?_) | fail)
      refine E_res1 (by rfl) (by rfl) ⟨b, 3, 0, hk2, .inr (.inl ⟨he, hlt, rfl, rfl⟩), rfl, rfl⟩ (Sub.trans Sb (fr_sub (v := .slice A n c)))
    · repeat' (first | refine go ?_ | intro _ | (apply cG; first | refine cT ?_ | refine cF ?_ | refine cS (fun _ => ?_) fun _ => ?_) | (apply gW; refine sW ?_) | (apply gI; refine sI ?_) | (apply gE; refine sE ?_) | (apply gP; refine sP ?_) | (apply gC; refine sC ?_) | (apply gD; refine sD ?_) | fail)
      refine E_res1 (by rfl) (by rfl) ⟨b, e1, m, hk2, .inr (.inr ⟨he, by omega, he, rfl, rfl⟩), rfl, rfl⟩ (Sub.trans Sb (fr_sub (v := .slice A n c)))
  · repeat' (first | refine go ?_ | intro _ | (apply cG; first | refine cT ?_ | refine cF ?_ | refine cS (fun _ => ?_) fun _ => ?_) | (apply gW; refine sW ?_) | (apply gI; refine sI ?_) | (apply gE; refine sE ?_) | (apply gP; refine sP ?_) | (apply gC; refine sC ?_) | (apply gD; refine sD ?_) | fail)
    refine E_res1 (by rfl) (by rfl) ⟨b, e1, 0, hk2, .inl ⟨he, rfl, rfl⟩, rfl, rfl⟩ (Sub.trans Sb (fr_sub (v := .slice A n c)))
theorem fRawR_ct {p : Nat} {l bs bs' : List UInt8} {e e' : Int} (h : rList rNext (bs, e) = (l, (bs', e'))) (hl : bs.length ≤ 1000000000000) :
    CT Try.prog 70 #[.pointer (some ⟨p, 0, none⟩)] W0 (fr p bs e :: L) fun r L' => ∃ b A c, Kp bs bs' b e' ∧ r = .slice A l.length c ∧ L' = rd eB (.slice A l.length c) l :: fr p b e' :: L := by
  obtain ⟨m, b1, e1, hu⟩ : ∃ m b1 e1, rU (bs, e) = (m, (b1, e1)) := ⟨_, _, _, rfl⟩
  have hlen := rU_len (bs, e)
  rw [hu] at hlen
  dsimp only at hlen
  have hcs := rList_cases hu h
  refine CT_enter Try.func70 rfl ?_; (simp only [Try.ntmps70, List.size_toArray, List.length_cons, List.length_nil, Nat.reduceAdd, Nat.reduceSub, Array.replicate_succ, Array.replicate_zero, List.push_toArray, List.append_toArray, List.nil_append, List.cons_append])
  repeat' (first | refine go ?_ | intro _ | (apply cG; first | refine cT ?_ | refine cF ?_ | refine cS (fun _ => ?_) fun _ => ?_) | (apply gW; refine sW ?_) | (apply gI; refine sI ?_) | (apply gE; refine sE ?_) | (apply gP; refine sP ?_) | (apply gC; refine sC ?_) | (apply gD; refine sD ?_) | fail)
  refine O_d (dy_call ArgsI.pf (by first | exact rfl | trivial | (intro a b; rfl)) (fLen_ct hu hl)) ?_; rintro _ _ ⟨_, ⟨b, e2, k, hbl, hk, rfl, rfl⟩, rfl⟩; refine O_n ?_
  repeat' (first | refine go ?_ | intro _ | (apply cG; first | refine cT ?_ | refine cF ?_ | refine cS (fun _ => ?_) fun _ => ?_) | (apply gW; refine sW ?_) | (apply gI; refine sI ?_) | (apply gE; refine sE ?_) | (apply gP; refine sP ?_) | (apply gC; refine sC ?_) | (apply gD; refine sD ?_) | fail)
  refine fr_open fun A n c hn hnc => ?_
  rcases hk with ⟨h1, rfl, rfl⟩ | ⟨h1, h2, rfl, rfl⟩ | ⟨h1, h2, rfl, rfl, rfl⟩
  · rcases hcs with ⟨_, rfl, rfl⟩ | ⟨h0, _⟩ | ⟨h0, _⟩
    · repeat' (first | refine go ?_ | intro _ | (apply cG; first | refine cT ?_ | refine cF ?_ | refine cS (fun _ => ?_) fun _ => ?_) | (apply gW; refine sW ?_) | (apply gI; refine sI ?_) | (apply gE; refine sE ?_) | (apply gP; refine sP ?_) | (apply gC; refine sC ?_) | (apply gD; refine sD ?_) | fail)
      refine E_rdnil eB none 0 ?_
      refine E_res1 (by rfl) (by rfl) ⟨b, none, 0, ⟨fun h => absurd h h1, hbl⟩, rfl, rfl⟩ (Sub.trans Sb (sub_skip (fr_sub (v := .slice A n c))))
    · exact absurd h0 h1
    · exact absurd h0 h1
  · rcases hcs with ⟨h0, _⟩ | ⟨_, _, rfl, rfl⟩ | ⟨_, h3, _⟩
    · exact absurd h1 h0
    · repeat' (first | refine go ?_ | intro _ | (apply cG; first | refine cT ?_ | refine cF ?_ | refine cS (fun _ => ?_) fun _ => ?_) | (apply gW; refine sW ?_) | (apply gI; refine sI ?_) | (apply gE; refine sE ?_) | (apply gP; refine sP ?_) | (apply gC; refine sC ?_) | (apply gD; refine sD ?_) | fail)
      refine E_rdnil eB none 0 ?_
      refine E_res1 (by rfl) (by rfl) ⟨b, none, 0, ⟨fun h => absurd h (by decide), hbl⟩, rfl, rfl⟩ (Sub.trans Sb (sub_skip (fr_sub (v := .slice A n c))))
    · omega
  · rcases hcs with ⟨h0, _⟩ | ⟨_, h3, _⟩ | ⟨_, _, h4, h5⟩
    · exact absurd h1 h0
    · omega
    · rw [rMany_take m b h2] at h4 h5
      simp only [Prod.mk.injEq] at h4
      obtain ⟨rfl, rfl⟩ := h4
      rw [if_pos rfl] at h5
      subst h5
      repeat' (first | refine go ?_ | intro _ | (apply cG; first | refine cT ?_ | refine cF ?_ | refine cS (fun _ => ?_) fun _ => ?_) | (apply gW; refine sW ?_) | (apply gI; refine sI ?_) | (apply gE; refine sE ?_) | (apply gP; refine sP ?_) | (apply gC; refine sC ?_) | (apply gD; refine sD ?_) | fail)
      rename_i A2 c2 A3 c3
      have e1 : (b.drop 0).take m = b.take m := by rw [List.drop_zero]
      have e2 : (b.drop m).take (n - m) = b.drop m := List.take_of_length_le (by rw [List.length_drop]; omega)
      have e3 : m = (b.take m).length := by rw [List.length_take]; omega
      rw [e1, e2]
      refine E_res1 (by rfl) (by rfl) (L2 := rd eB (.slice A2 (b.take m).length c2) (b.take m) :: fr p (b.drop m) 0 :: L) ⟨b.drop m, A2, c2, ⟨fun _ => rfl, by rw [List.length_drop]; omega⟩, by rw [← e3], rfl⟩ ?_
      rw [← e3]
      exact Sub.trans Sb (sub_skip (fr_sub (v := .slice A3 (n - m) c3)))
end
end Go.Proofs.Ytbjaecofccpahaa
namespace Go.Proofs.Ytbjaecofccpahaa
open Go Go.RowKit
set_option linter.unusedVariables false
set_option linter.unusedSimpArgs false
def lblF : ByteArray := ⟨#[102, 114, 97, 109, 101]⟩
def coreF (i : Int) (x : List UInt8) : List UInt8 := varint (zig i) ++ (varint x.length ++ x)
def sumF (i : Int) (x : List UInt8) : Nat := (bytesW lblF.data.toList (coreF i x)).toNat
def frameF (i : Int) (x : List UInt8) : List UInt8 := varint (coreF i x).length ++ coreF i x ++ varint (sumF i x)
/-- the bytes that record looks at -/
def cutF (b : List UInt8) : List UInt8 := b.take (min b.length (10 + min (rU (b.take 10, 0)).1 b.length))
def recF (b : List UInt8) : List UInt8 := (rList rNext (rI ((rList rNext (cutF b, 0)).1, 0)).2).1
def isF (i : Int) (b : List UInt8) : Bool := (frameF i (recF b)).isPrefixOf b
def scanF : Nat → Int → List UInt8 → List (List UInt8) × Nat
  | 0, _, _ => ([], 0)
  | n + 1, i, b => if b = [] then ([], 0) else if isF i b = true then ((recF b) :: (scanF n (i + 1) (b.drop (frameF i (recF b)).length)).1, (frameF i (recF b)).length + (scanF n (i + 1) (b.drop (frameF i (recF b)).length)).2) else ([], 0)
theorem sumF_lt (i : Int) (x : List UInt8) : sumF i x < 18446744073709551616 := UInt64.toNat_lt _
theorem coreF_len {i : Int} {x : List UInt8} (h1 : -9223372036854775808 ≤ i) (h2 : i ≤ 9223372036854775807) (hx : x.length ≤ 1000000000) : (coreF i x).length ≤ x.length + 20 := by
  have a := vlen (zig_lt h1 h2)
  have b := vlen (m := x.length) (by omega)
  unfold coreF
  simp only [List.length_append]; omega
theorem frameF_len {i : Int} {x : List UInt8} (h1 : -9223372036854775808 ≤ i) (h2 : i ≤ 9223372036854775807) (hx : x.length ≤ 1000000000) : (frameF i x).length ≤ x.length + 40 := by
  have a := coreF_len h1 h2 hx
  have b := vlen (m := (coreF i x).length) (by omega)
  have c := vlen (sumF_lt i x)
  unfold frameF
  simp only [List.length_append]; omega
theorem frameF_min (i : Int) (x : List UInt8) : x.length + 4 ≤ (frameF i x).length := by
  have a := varint_pos (zig i)
  have b := varint_pos x.length
  have c := varint_pos (coreF i x).length
  have d := varint_pos (sumF i x)
  have e : (coreF i x).length = (varint (zig i)).length + ((varint x.length).length + x.length) := by unfold coreF; simp
  unfold frameF
  simp only [List.length_append]; omega
/-- a frame is read back -/
theorem raw_pre {c t : List UInt8} (hc : c.length < 18446744073709551616) : rList rNext (varint c.length ++ c ++ t, 0) = (c, (t, 0)) := rRaw_enc hc t
theorem core_back {i : Int} {x : List UInt8} (h1 : -9223372036854775808 ≤ i) (h2 : i ≤ 9223372036854775807) (hx : x.length ≤ 1000000000) : rI (coreF i x, 0) = (i, (varint x.length ++ x, 0)) := by
  unfold coreF
  exact rI_zig h1 h2 _
theorem rest_back {x : List UInt8} (hx : x.length ≤ 1000000000) : rList rNext (varint x.length ++ x, 0) = (x, ([], 0)) := by
  have := rRaw_enc (l := x) (by omega) []
  rwa [List.append_nil] at this
theorem cutF_frame {i : Int} {x t : List UInt8} (h1 : -9223372036854775808 ≤ i) (h2 : i ≤ 9223372036854775807) (hx : x.length ≤ 1000000000) : ∃ t', cutF (frameF i x ++ t) = varint (coreF i x).length ++ coreF i x ++ t' := by
  have hcl := coreF_len h1 h2 hx
  obtain ⟨c, hc⟩ : ∃ c, coreF i x = c := ⟨_, rfl⟩
  obtain ⟨s, hs⟩ : ∃ s, varint (sumF i x) ++ t = s := ⟨_, rfl⟩
  have hf : frameF i x ++ t = varint c.length ++ (c ++ s) := by unfold frameF; rw [hc, ← hs]; simp
  rw [hf, hc]
  rw [hc] at hcl
  have hv := vlen (m := c.length) (by omega)
  have h10 : (varint c.length ++ (c ++ s)).take 10 = varint c.length ++ (c ++ s).take (10 - (varint c.length).length) := by
    rw [List.take_append, List.take_of_length_le hv]
  unfold cutF
  rw [h10, rU_varint (by omega)]
  dsimp only
  have hm : (varint c.length ++ c).length ≤ min (varint c.length ++ (c ++ s)).length (10 + min c.length (varint c.length ++ (c ++ s)).length) := by
    simp only [List.length_append]; omega
  refine ⟨s.take (min (varint c.length ++ (c ++ s)).length (10 + min c.length (varint c.length ++ (c ++ s)).length) - (varint c.length ++ c).length), ?_⟩
  rw [← List.append_assoc, List.take_append, List.take_of_length_le (by rw [← List.append_assoc] at hm; exact hm)]
theorem recF_frame {i : Int} {x t : List UInt8} (h1 : -9223372036854775808 ≤ i) (h2 : i ≤ 9223372036854775807) (hx : x.length ≤ 1000000000) : recF (frameF i x ++ t) = x := by
  obtain ⟨t', ht⟩ := cutF_frame (t := t) h1 h2 hx
  have hcl := coreF_len h1 h2 hx
  unfold recF
  rw [ht, raw_pre (by omega)]
  dsimp only
  rw [core_back h1 h2 hx, rest_back hx]
theorem isF_iff {i : Int} {b : List UInt8} : isF i b = true ↔ ∃ t, frameF i (recF b) ++ t = b := by
  unfold isF
  rw [List.isPrefixOf_iff_prefix]
  exact Iff.rfl
theorem isF_frame {i : Int} {x t : List UInt8} (h1 : -9223372036854775808 ≤ i) (h2 : i ≤ 9223372036854775807) (hx : x.length ≤ 1000000000) : isF i (frameF i x ++ t) = true := by
  rw [isF_iff, recF_frame h1 h2 hx]
  exact ⟨t, rfl⟩
/-- what the reference's first finds -/
theorem first_iff {i : Int} {b x : List UInt8} (h1 : -9223372036854775808 ≤ i) (h2 : i ≤ 9223372036854775807) (hx : x.length ≤ 1000000000) (hp : ∃ t, frameF i x ++ t = b) : isF i b = true ∧ recF b = x := by
  obtain ⟨t, rfl⟩ := hp
  exact ⟨isF_frame h1 h2 hx, recF_frame h1 h2 hx⟩
theorem rRaw_len (s : Rs) : (rList rNext s).1.length ≤ s.1.length := by
  obtain ⟨bs, e⟩ := s
  obtain ⟨m, b1, e1, hu⟩ : ∃ m b1 e1, rU (bs, e) = (m, (b1, e1)) := ⟨_, _, _, rfl⟩
  have hl := rU_len (bs, e)
  rw [hu] at hl
  dsimp only at hl ⊢
  rcases rList_cases (f := rNext) (l := (rList rNext (bs, e)).1) (bs' := (rList rNext (bs, e)).2.1) (e' := (rList rNext (bs, e)).2.2) hu rfl with ⟨_, h, _⟩ | ⟨_, _, h, _⟩ | ⟨_, hm, _, h⟩
  · rw [h]; simp
  · rw [h]; simp
  · rw [h]
    split
    · rw [rMany_take m b1 hm, List.length_take]; omega
    · simp
theorem recF_len (b : List UInt8) : (recF b).length ≤ b.length := by
  unfold recF
  refine Nat.le_trans (rRaw_len _) ?_
  have h1 : (rI ((rList rNext (cutF b, 0)).1, 0)).2.1.length ≤ (rList rNext (cutF b, 0)).1.length := rU_len _
  refine Nat.le_trans h1 (Nat.le_trans (rRaw_len _) ?_)
  unfold cutF
  exact List.length_take_le' _ _
theorem scanF_nil (n : Nat) (i : Int) : scanF n i [] = ([], 0) := by
  cases n <;> rfl
theorem scanF_yes {n : Nat} {i : Int} {b : List UInt8} (hb : b ≠ []) (h : isF i b = true) : scanF (n + 1) i b = ((recF b) :: (scanF n (i + 1) (b.drop (frameF i (recF b)).length)).1, (frameF i (recF b)).length + (scanF n (i + 1) (b.drop (frameF i (recF b)).length)).2) := by
  rw [scanF, if_neg hb, if_pos h]
theorem scanF_no {n : Nat} {i : Int} {b : List UInt8} (h : isF i b = false) : scanF (n + 1) i b = ([], 0) := by
  rw [scanF]
  split
  · rfl
  · rw [if_neg (by rw [h]; decide)]
/-- all frames of some records -/
def framesF : Int → List (List UInt8) → List UInt8
  | _, [] => []
  | i, x :: r => frameF i x ++ framesF (i + 1) r
theorem scanF_frames : ∀ (xs : List (List UInt8)) (n : Nat) (i : Int) (t : List UInt8), (∀ x ∈ xs, x.length ≤ 1000000) → -9223372036854775808 ≤ i → i + xs.length ≤ 9223372036854775807 → xs.length ≤ n →
    scanF n i (framesF i xs ++ t) = (xs ++ (scanF (n - xs.length) (i + xs.length) t).1, (framesF i xs).length + (scanF (n - xs.length) (i + xs.length) t).2)
  | [], n, i, t, _, _, _, _ => by simp [framesF]
  | x :: r, n, i, t, hx, h1, h2, hn => by
    simp only [List.length_cons] at h2 hn
    push_cast at h2
    obtain ⟨k, rfl⟩ : ∃ k, n = k + 1 := ⟨n - 1, by omega⟩
    have hxl := hx x (.head _)
    have e : framesF i (x :: r) ++ t = frameF i x ++ (framesF (i + 1) r ++ t) := by simp [framesF]
    have hmin := frameF_min i x
    rw [e, scanF_yes (by intro h; have := congrArg List.length h; simp only [List.length_append, List.length_nil] at this; omega) (isF_frame h1 (by omega) (by omega)), recF_frame h1 (by omega) (by omega), List.drop_left]
    rw [scanF_frames r k (i + 1) t (fun y hy => hx y (.tail _ hy)) (by omega) (by omega) (by omega)]
    have e1 : i + 1 + (r.length : Int) = i + ((r.length + 1 : Nat) : Int) := by push_cast; omega
    have e2 : k + 1 - (r.length + 1) = k - r.length := by omega
    simp only [List.length_cons, framesF, List.length_append, e1, e2, List.cons_append, Prod.mk.injEq, true_and]
    omega
end Go.Proofs.Ytbjaecofccpahaa
