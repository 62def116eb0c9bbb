/-
  Walks of package wire by the engine: the reader.
-/
import Derived.Test.YtbjaecofccpahaaMO
namespace Go.Proofs.Ytbjaecofccpahaa
open Go Go.RowKit
set_option linter.unusedVariables false
set_option linter.unusedSimpArgs false
set_option maxRecDepth 20000
set_option synthInstance.maxSize 100000
set_option synthInstance.maxHeartbeats 400000
section
variable {W0 : World} {L : List HP}
/-- a reader at block p: the bytes that are left, the error -/
def rr (p : Nat) (bs : List UInt8) (e : Int) : HP := ex fun v => sp [cel p [v, .int .i64 e] 91, rd eB v bs]
theorem rr_open {ops : Array Oper} {Q : Exit → Act → World → Prop} {rest : List Oper} {a : Act} {p : Nat} {bs : List UInt8} {e : Int} (k : ∀ A n c, n = bs.length → OL Try.prog W0 (cel p [.slice A n c, .int .i64 e] 91 :: rd eB (.slice A n c) bs :: L) ops Q rest a) : OL Try.prog W0 (rr p bs e :: L) ops Q rest a := by
  refine ⟨fun w st => ?_⟩
  obtain ⟨v, h⟩ := st.ex_
  have h := h.open_
  obtain ⟨A, c, rfl, _⟩ := (h.rd (.tail _ (.head _))).form
  exact (k A _ c rfl).run w h
theorem rr_sub {p : Nat} {v : Value} {bs : List UInt8} {e : Int} : Sub (cel p [v, .int .i64 e] 91 :: rd eB v bs :: L) (rr p bs e :: L) := (sub_close (Ls := [cel p [v, .int .i64 e] 91, rd eB v bs])).trans (sub_ex (F := fun v => sp [cel p [v, .int .i64 e] 91, rd eB v bs]) v)
/-- the same, the bytes cut anew -/
theorem rr_sub2 {p : Nat} {v v' : Value} {bs bs' : List UInt8} {e : Int} : Sub (rd eB v bs :: cel p [v, .int .i64 e] 91 :: rd eB v' bs' :: L) (rr p bs e :: L) :=
  (Sub.trans (fun m h s => (s.swap).skip fun b hb => hb.skip fun c hc => hc.tail) rr_sub)
theorem O_own_rd {E : TypeId} {α : Type} {R : Enc α} {v : Value} {l : List α} {ops : Array Oper} {Q : Exit → Act → World → Prop} {rest : List Oper} {a : Act} (k : OL Try.prog W0 (rd R v l :: L) ops Q rest a) : OL Try.prog W0 (own E R v l :: L) ops Q rest a := ⟨fun w s => k.run w s.own_rd⟩
theorem Read_ct {v : Value} {l : List UInt8} (hv : Src L eB v l) (hl : l.length ≤ 100000000000000) :
    CT Try.prog 31 #[v] W0 L fun r L' => ∃ p, r = .pointer (some ⟨p, 0, none⟩) ∧ L' = rr p l 0 :: L := by
  have hv : Sc L v eB l := ⟨hv⟩
  refine CT_enter Try.func31 rfl ?_; (simp only [Try.ntmps31, List.size_toArray, List.length_cons, List.length_nil, Nat.reduceAdd, Nat.reduceSub, Array.replicate_succ, Array.replicate_zero, List.push_toArray, List.append_toArray, List.nil_append, List.cons_append])
  repeat' (first | refine go ?_ | intro _ | (apply cG; first | refine cT ?_ | refine cF ?_ | refine cS (fun _ => ?_) fun _ => ?_) | (apply gW; refine sW ?_) | (apply gI; refine sI ?_) | (apply gE; refine sE ?_) | (apply gP; refine sP ?_) | (apply gC; refine sC ?_) | (apply gD; refine sD ?_) | fail)
  refine O_d (dy_call ArgsI.pf (by first | exact rfl | trivial | (intro a b; rfl)) (Clone_ct Sc.pf hl)) ?_; rintro _ _ ⟨_, ⟨A', c', rfl, rfl⟩, rfl⟩; refine O_n ?_
  refine O_own_rd ?_
  repeat' (first | refine go ?_ | intro _ | (apply cG; first | refine cT ?_ | refine cF ?_ | refine cS (fun _ => ?_) fun _ => ?_) | (apply gW; refine sW ?_) | (apply gI; refine sI ?_) | (apply gE; refine sE ?_) | (apply gP; refine sP ?_) | (apply gC; refine sC ?_) | (apply gD; refine sD ?_) | fail)
  refine E_sub rr_sub ?_
  refine E_end1 (by rfl) (by rfl) Ev.pf ⟨_, rfl, rfl⟩
theorem fail_ct {p : Nat} {bs bs' : List UInt8} {e e' k : Int} (h : rFail (bs, e) k = (bs', e')) : CT Try.prog 57 #[.pointer (some ⟨p, 0, none⟩), .int .i64 k] W0 (rr p bs e :: L) fun r L' => L' = rr p bs' e' :: L := by
  by_cases h0 : e = 0
  · subst h0
    simp only [rFail, if_true, Prod.mk.injEq] at h
    obtain ⟨rfl, rfl⟩ := h
    refine CT_enter Try.func57 rfl ?_; (simp only [Try.ntmps57, List.size_toArray, List.length_cons, List.length_nil, Nat.reduceAdd, Nat.reduceSub, Array.replicate_succ, Array.replicate_zero, List.push_toArray, List.append_toArray, List.nil_append, List.cons_append])
    repeat' (first | refine go ?_ | intro _ | (apply cG; first | refine cT ?_ | refine cF ?_ | refine cS (fun _ => ?_) fun _ => ?_) | (apply gW; refine sW ?_) | (apply gI; refine sI ?_) | (apply gE; refine sE ?_) | (apply gP; refine sP ?_) | (apply gC; refine sC ?_) | (apply gD; refine sD ?_) | fail)
    refine rr_open fun A n c hn => ?_
    repeat' (first | refine go ?_ | intro _ | (apply cG; first | refine cT ?_ | refine cF ?_ | refine cS (fun _ => ?_) fun _ => ?_) | (apply gW; refine sW ?_) | (apply gI; refine sI ?_) | (apply gE; refine sE ?_) | (apply gP; refine sP ?_) | (apply gC; refine sC ?_) | (apply gD; refine sD ?_) | fail)
    refine E_sub rr_sub ?_
    refine E_end0 (by first | exact .inl rfl | exact .inr rfl) (by rfl) (by rfl) rfl
  · simp only [rFail, h0, if_false, Prod.mk.injEq] at h
    obtain ⟨rfl, rfl⟩ := h
    refine CT_enter Try.func57 rfl ?_; (simp only [Try.ntmps57, List.size_toArray, List.length_cons, List.length_nil, Nat.reduceAdd, Nat.reduceSub, Array.replicate_succ, Array.replicate_zero, List.push_toArray, List.append_toArray, List.nil_append, List.cons_append])
    repeat' (first | refine go ?_ | intro _ | (apply cG; first | refine cT ?_ | refine cF ?_ | refine cS (fun _ => ?_) fun _ => ?_) | (apply gW; refine sW ?_) | (apply gI; refine sI ?_) | (apply gE; refine sE ?_) | (apply gP; refine sP ?_) | (apply gC; refine sC ?_) | (apply gD; refine sD ?_) | fail)
    refine rr_open fun A n c hn => ?_
    repeat' (first | refine go ?_ | intro _ | (apply cG; first | refine cT ?_ | refine cF ?_ | refine cS (fun _ => ?_) fun _ => ?_) | (apply gW; refine sW ?_) | (apply gI; refine sI ?_) | (apply gE; refine sE ?_) | (apply gP; refine sP ?_) | (apply gC; refine sC ?_) | (apply gD; refine sD ?_) | fail)
    refine E_sub rr_sub ?_
    refine E_end0 (by first | exact .inl rfl | exact .inr rfl) (by rfl) (by rfl) rfl
theorem next_ct {p : Nat} {bs bs' : List UInt8} {e e' : Int} {c : UInt8} (h : rNext (bs, e) = (c, (bs', e'))) (hl : bs.length ≤ 100000000000000) : CT Try.prog 56 #[.pointer (some ⟨p, 0, none⟩)] W0 (rr p bs e :: L) fun r L' => r = bv c ∧ L' = rr p bs' e' :: L := by
  cases bs with
  | nil =>
    by_cases h0 : e = 0
    · subst h0
      simp only [rNext, if_true, Prod.mk.injEq] at h
      obtain ⟨rfl, rfl, rfl⟩ := h
      refine CT_enter Try.func56 rfl ?_; (simp only [Try.ntmps56, List.size_toArray, List.length_cons, List.length_nil, Nat.reduceAdd, Nat.reduceSub, Array.replicate_succ, Array.replicate_zero, List.push_toArray, List.append_toArray, List.nil_append, List.cons_append])
      repeat' (first | refine go ?_ | intro _ | (apply cG; first | refine cT ?_ | refine cF ?_ | refine cS (fun _ => ?_) fun _ => ?_) | (apply gW; refine sW ?_) | (apply gI; refine sI ?_) | (apply gE; refine sE ?_) | (apply gP; refine sP ?_) | (apply gC; refine sC ?_) | (apply gD; refine sD ?_) | fail)
      refine rr_open fun A n c hn => ?_
      simp only [List.length_nil] at hn
      subst hn
      repeat' (first | refine go ?_ | intro _ | (apply cG; first | refine cT ?_ | refine cF ?_ | refine cS (fun _ => ?_) fun _ => ?_) | (apply gW; refine sW ?_) | (apply gI; refine sI ?_) | (apply gE; refine sE ?_) | (apply gP; refine sP ?_) | (apply gC; refine sC ?_) | (apply gD; refine sD ?_) | fail)
      refine O_sub rr_sub ?_
      refine O_d (dy_call ArgsI.pf (by first | exact rfl | trivial | (intro a b; rfl)) (fail_ct (bs' := []) (e' := 3) rfl)) ?_; rintro _ _ ⟨_, rfl, rfl⟩; refine O_n ?_
      repeat' (first | refine go ?_ | intro _ | (apply cG; first | refine cT ?_ | refine cF ?_ | refine cS (fun _ => ?_) fun _ => ?_) | (apply gW; refine sW ?_) | (apply gI; refine sI ?_) | (apply gE; refine sE ?_) | (apply gP; refine sP ?_) | (apply gC; refine sC ?_) | (apply gD; refine sD ?_) | fail)
      refine rr_open fun A n c hn => ?_
      repeat' (first | refine go ?_ | intro _ | (apply cG; first | refine cT ?_ | refine cF ?_ | refine cS (fun _ => ?_) fun _ => ?_) | (apply gW; refine sW ?_) | (apply gI; refine sI ?_) | (apply gE; refine sE ?_) | (apply gP; refine sP ?_) | (apply gC; refine sC ?_) | (apply gD; refine sD ?_) | fail)
      refine E_sub rr_sub ?_
      refine E_end1 (by rfl) (by rfl) Ev.pf ⟨rfl, rfl⟩
    · simp only [rNext, h0, if_false, Prod.mk.injEq] at h
      obtain ⟨rfl, rfl, rfl⟩ := h
      refine CT_enter Try.func56 rfl ?_; (simp only [Try.ntmps56, List.size_toArray, List.length_cons, List.length_nil, Nat.reduceAdd, Nat.reduceSub, Array.replicate_succ, Array.replicate_zero, List.push_toArray, List.append_toArray, List.nil_append, List.cons_append])
      repeat' (first | refine go ?_ | intro _ | (apply cG; first | refine cT ?_ | refine cF ?_ | refine cS (fun _ => ?_) fun _ => ?_) | (apply gW; refine sW ?_) | (apply gI; refine sI ?_) | (apply gE; refine sE ?_) | (apply gP; refine sP ?_) | (apply gC; refine sC ?_) | (apply gD; refine sD ?_) | fail)
      refine rr_open fun A n c hn => ?_
      simp only [List.length_nil] at hn
      subst hn
      repeat' (first | refine go ?_ | intro _ | (apply cG; first | refine cT ?_ | refine cF ?_ | refine cS (fun _ => ?_) fun _ => ?_) | (apply gW; refine sW ?_) | (apply gI; refine sI ?_) | (apply gE; refine sE ?_) | (apply gP; refine sP ?_) | (apply gC; refine sC ?_) | (apply gD; refine sD ?_) | fail)
      refine O_sub rr_sub ?_
      refine O_d (dy_call ArgsI.pf (by first | exact rfl | trivial | (intro a b; rfl)) (fail_ct (bs' := []) (e' := e) (by simp [rFail, h0]))) ?_; rintro _ _ ⟨_, rfl, rfl⟩; refine O_n ?_
      repeat' (first | refine go ?_ | intro _ | (apply cG; first | refine cT ?_ | refine cF ?_ | refine cS (fun _ => ?_) fun _ => ?_) | (apply gW; refine sW ?_) | (apply gI; refine sI ?_) | (apply gE; refine sE ?_) | (apply gP; refine sP ?_) | (apply gC; refine sC ?_) | (apply gD; refine sD ?_) | fail)
      refine rr_open fun A n c hn => ?_
      repeat' (first | refine go ?_ | intro _ | (apply cG; first | refine cT ?_ | refine cF ?_ | refine cS (fun _ => ?_) fun _ => ?_) | (apply gW; refine sW ?_) | (apply gI; refine sI ?_) | (apply gE; refine sE ?_) | (apply gP; refine sP ?_) | (apply gC; refine sC ?_) | (apply gD; refine sD ?_) | fail)
      refine E_sub rr_sub ?_
      refine E_end1 (by rfl) (by rfl) Ev.pf ⟨rfl, rfl⟩
  | cons c0 r =>
    simp only [List.length_cons] at hl
    by_cases h0 : e = 0
    · subst h0
      simp only [rNext, if_true, Prod.mk.injEq] at h
      obtain ⟨rfl, rfl, rfl⟩ := h
      have h1 : (c0 :: r)[0]? = some c0 := rfl
      refine CT_enter Try.func56 rfl ?_; (simp only [Try.ntmps56, List.size_toArray, List.length_cons, List.length_nil, Nat.reduceAdd, Nat.reduceSub, Array.replicate_succ, Array.replicate_zero, List.push_toArray, List.append_toArray, List.nil_append, List.cons_append])
      repeat' (first | refine go ?_ | intro _ | (apply cG; first | refine cT ?_ | refine cF ?_ | refine cS (fun _ => ?_) fun _ => ?_) | (apply gW; refine sW ?_) | (apply gI; refine sI ?_) | (apply gE; refine sE ?_) | (apply gP; refine sP ?_) | (apply gC; refine sC ?_) | (apply gD; refine sD ?_) | fail)
      refine rr_open fun A n cc hn => ?_
      simp only [List.length_cons] at hn
      repeat' (first | refine go ?_ | intro _ | (apply cG; first | refine cT ?_ | refine cF ?_ | refine cS (fun _ => ?_) fun _ => ?_) | (apply gW; refine sW ?_) | (apply gI; refine sI ?_) | (apply gE; refine sE ?_) | (apply gP; refine sP ?_) | (apply gC; refine sC ?_) | (apply gD; refine sD ?_) | fail)
      have e : ((c0 :: r).drop 1).take (n - 1) = r := by subst hn; simp
      rw [e]
      refine E_sub rr_sub2 ?_
      refine E_end1 (by rfl) (by rfl) Ev.pf ⟨rfl, rfl⟩
    · simp only [rNext, h0, if_false, Prod.mk.injEq] at h
      obtain ⟨rfl, rfl, rfl⟩ := h
      refine CT_enter Try.func56 rfl ?_; (simp only [Try.ntmps56, List.size_toArray, List.length_cons, List.length_nil, Nat.reduceAdd, Nat.reduceSub, Array.replicate_succ, Array.replicate_zero, List.push_toArray, List.append_toArray, List.nil_append, List.cons_append])
      repeat' (first | refine go ?_ | intro _ | (apply cG; first | refine cT ?_ | refine cF ?_ | refine cS (fun _ => ?_) fun _ => ?_) | (apply gW; refine sW ?_) | (apply gI; refine sI ?_) | (apply gE; refine sE ?_) | (apply gP; refine sP ?_) | (apply gC; refine sC ?_) | (apply gD; refine sD ?_) | fail)
      refine rr_open fun A n cc hn => ?_
      simp only [List.length_cons] at hn
      repeat' (first | refine go ?_ | intro _ | (apply cG; first | refine cT ?_ | refine cF ?_ | refine cS (fun _ => ?_) fun _ => ?_) | (apply gW; refine sW ?_) | (apply gI; refine sI ?_) | (apply gE; refine sE ?_) | (apply gP; refine sP ?_) | (apply gC; refine sC ?_) | (apply gD; refine sD ?_) | fail)
      refine E_sub rr_sub ?_
      refine E_end1 (by rfl) (by rfl) Ev.pf ⟨rfl, rfl⟩
theorem andNot_128 (c : UInt8) : bits .andNot .u8 (c.toNat : Int) 128 = ((c.toNat % 128 : Nat) : Int) := by
  have h : ∀ k : Fin 256, bits .andNot .u8 (k.val : Int) 128 = ((k.val % 128 : Nat) : Int) := by decide +kernel
  exact h ⟨c.toNat, c.toNat_lt⟩
theorem shl_ok {i : Nat} {c : UInt8} (hi : i ≤ 9) (h9 : i = 9 → c.toNat ≤ 1) : c.toNat % 128 * 128 ^ i < 9223372036854775809 := by
  have hc : c.toNat < 256 := c.toNat_lt
  have e9 : (128 : Nat) ^ 9 = 9223372036854775808 := by decide
  rcases Nat.lt_or_ge i 9 with h | h
  · have h2 : 128 ^ (i + 1) ≤ 128 ^ 9 := Nat.pow_le_pow_right (by decide) h
    rw [Nat.pow_succ] at h2
    have e : c.toNat % 128 * 128 ^ i ≤ 127 * 128 ^ i := Nat.mul_le_mul_right _ (by omega)
    omega
  · have : i = 9 := by omega
    subst this
    have := h9 rfl
    rw [e9]
    omega
theorem shl_step {i : Nat} {c : UInt8} (hi : i ≤ 9) (h9 : i = 9 → c.toNat ≤ 1) : IntKind.u64.wrap (((c.toNat % 128 : Nat) : Int) * 2 ^ (7 * (i : Int)).toNat) = ((c.toNat % 128 * 128 ^ i : Nat) : Int) := by
  have e2 : (7 * (i : Int)).toNat = 7 * i := by omega
  have e3 : (128 : Nat) ^ i = 2 ^ (7 * i) := by rw [Nat.pow_mul]
  have hlt := shl_ok hi h9
  have e4 : (((c.toNat % 128 : Nat) : Int) * 2 ^ (7 * i)) = ((c.toNat % 128 * 128 ^ i : Nat) : Int) := by rw [e3]; push_cast; rfl
  rw [e2, e4, wr_u64 (by omega) (by omega)]
theorem or_step {m i : Nat} {c : UInt8} (hm : m < 128 ^ i) (hi : i ≤ 9) (h9 : i = 9 → c.toNat ≤ 1) :
    bits .or .u64 (m : Int) ((c.toNat % 128 * 128 ^ i : Nat) : Int) = ((m + c.toNat % 128 * 128 ^ i : Nat) : Int) := by
  have e3 : (128 : Nat) ^ i = 2 ^ (7 * i) := by rw [Nat.pow_mul]
  have hlt := shl_ok hi h9
  have hm2 : 128 ^ i ≤ 128 ^ 9 := Nat.pow_le_pow_right (by decide) hi
  have e9 : (128 : Nat) ^ 9 = 9223372036854775808 := by decide
  have h5 := u64_or (UInt64.ofNat m) (UInt64.ofNat (c.toNat % 128 * 128 ^ i))
  have h6 : (UInt64.ofNat m).toNat = m := by rw [UInt64.toNat_ofNat']; omega
  have h7 : (UInt64.ofNat (c.toNat % 128 * 128 ^ i)).toNat = c.toNat % 128 * 128 ^ i := by rw [UInt64.toNat_ofNat']; omega
  rw [UInt64.toNat_or, h6, h7] at h5
  rw [h5]
  congr 1
  rw [Nat.or_comm, e3]
  rw [e3] at hm
  have := Nat.shiftLeft_add_eq_or_of_lt hm (c.toNat % 128)
  rw [Nat.shiftLeft_eq] at this
  omega
theorem rU_err {s : Rs} (h : s.2 ≠ 0) : rU s = (0, s) := by unfold rU; rw [if_neg h]
/-- what a round of Uint keeps: x: the result to come -/
def UI (fin : Nat × Rs) (i : Nat) (n : Int) (b : List UInt8) (e : Int) : Prop := (e = 0 ∧ i ≤ 9 ∧ ∃ x : Nat, n = (x : Int) ∧ x < 128 ^ i ∧ rUi i x b = fin) ∨ (e ≠ 0 ∧ i ≤ 10 ∧ fin = (0, (b, e)))
theorem mu_more : ([] : List UInt8).length + (if (3 : Int) = 0 then 1 else 0) < ([] : List UInt8).length + (if (0 : Int) = 0 then 1 else 0) := by decide
theorem mu_form (c : UInt8) (r : List UInt8) : r.length + (if (2 : Int) = 0 then 1 else 0) < (c :: r).length + (if (0 : Int) = 0 then 1 else 0) := by
  rw [if_neg (by decide), if_pos rfl, List.length_cons]; omega
theorem mu_next (c : UInt8) (r : List UInt8) : r.length + (if (0 : Int) = 0 then 1 else 0) < (c :: r).length + (if (0 : Int) = 0 then 1 else 0) := by
  rw [if_pos rfl, List.length_cons]; omega
set_option maxHeartbeats 2000000 in
theorem Uint_ct {p m : Nat} {bs bs' : List UInt8} {e e' : Int} (h : rU (bs, e) = (m, (bs', e'))) (hl : bs.length ≤ 100000000000000) : CT Try.prog 33 #[.pointer (some ⟨p, 0, none⟩)] W0 (rr p bs e :: L) fun r L' => r = .int .u64 (m : Int) ∧ L' = rr p bs' e' :: L := by
  refine CT_enter Try.func33 rfl ?_; (simp only [Try.ntmps33, List.size_toArray, List.length_cons, List.length_nil, Nat.reduceAdd, Nat.reduceSub, Array.replicate_succ, Array.replicate_zero, List.push_toArray, List.append_toArray, List.nil_append, List.cons_append])
  repeat' (first | refine go ?_ | intro _ | (apply cG; first | refine cT ?_ | refine cF ?_ | refine cS (fun _ => ?_) fun _ => ?_) | (apply gW; refine sW ?_) | (apply gI; refine sI ?_) | (apply gE; refine sE ?_) | (apply gP; refine sP ?_) | (apply gC; refine sC ?_) | (apply gD; refine sD ?_) | fail)
  refine C_loop (κ := Nat × Int × List UInt8 × Int) [false, false, true, true, true, true, true, true, true, true, true, true, true, true, true, true, true, true, true, true, true, true, true, true, true, true, true, true, true, true, true, true, true, true, true, true, true, true, true, true, true, true, true, true, true, true, true, true, true] (fun k => [(3, .int .u64 k.2.1), (4, .int .i64 (k.1 : Int))]) (fun k => rr p k.2.2.1 k.2.2.2 :: L) (fun k => k.2.2.1.length ≤ bs.length ∧ UI (m, (bs', e')) k.1 k.2.1 k.2.2.1 k.2.2.2) (fun k => k.2.2.1.length + (if k.2.2.2 = 0 then 1 else 0)) (0, 0, bs, e) ?_ ⟨rfl, rfl, trivial⟩ (Sub.refl _) ?_
  · refine ⟨Nat.le_refl _, ?_⟩
    by_cases h0 : e = 0
    · subst h0
      exact .inl ⟨rfl, by omega, 0, rfl, (by decide : 0 < 128 ^ 0), by simpa [rU] using h⟩
    · exact .inr ⟨h0, by omega, by simpa [rU, h0] using h.symm⟩
  rintro ⟨i, n, b1, e1⟩ u ⟨hlen, hst⟩
  dsimp only at hlen hst ⊢
  ((try dsimp only); refine C_n ?_; (try simp only [Nat.reduceAdd, Nat.zero_add]))
  have hz : (0 : UInt8).toNat = 0 := rfl
  rcases hst with ⟨rfl, hi9, x, rfl, hx, hr⟩ | ⟨he, hi, hr⟩
  · repeat' (first | refine go ?_ | intro _ | (apply cG; first | refine cT ?_ | refine cF ?_ | refine cS (fun _ => ?_) fun _ => ?_) | (apply gW; refine sW ?_) | (apply gI; refine sI ?_) | (apply gE; refine sE ?_) | (apply gP; refine sP ?_) | (apply gC; refine sC ?_) | (apply gD; refine sD ?_) | fail)
    refine rr_open fun A n cc hn => ?_
    repeat' (first | refine go ?_ | intro _ | (apply cG; first | refine cT ?_ | refine cF ?_ | refine cS (fun _ => ?_) fun _ => ?_) | (apply gW; refine sW ?_) | (apply gI; refine sI ?_) | (apply gE; refine sE ?_) | (apply gP; refine sP ?_) | (apply gC; refine sC ?_) | (apply gD; refine sD ?_) | fail)
    refine O_sub rr_sub ?_
    cases b1 with
    | nil =>
      have hr := Lib.hid hr
      by_cases hi0 : i = 0
      · refine O_d (dy_call ArgsI.pf (by first | exact rfl | trivial | (intro a b; rfl)) (next_ct (c := 0) (bs' := []) (e' := 3) rfl (by omega))) ?_; rintro _ _ ⟨_, ⟨rfl, rfl⟩, rfl⟩; refine O_n ?_
        repeat' (first | refine go ?_ | intro _ | (apply cG; first | refine cT ?_ | refine cF ?_ | refine cS (fun _ => ?_) fun _ => ?_) | (apply gW; refine sW ?_) | (apply gI; refine sI ?_) | (apply gE; refine sE ?_) | (apply gP; refine sP ?_) | (apply gC; refine sC ?_) | (apply gD; refine sD ?_) | fail)
        refine O_s (sv_andNot (hr := andNot_128 _)) ?_
        repeat' (first | refine go ?_ | intro _ | (apply cG; first | refine cT ?_ | refine cF ?_ | refine cS (fun _ => ?_) fun _ => ?_) | (apply gW; refine sW ?_) | (apply gI; refine sI ?_) | (apply gE; refine sE ?_) | (apply gP; refine sP ?_) | (apply gC; refine sC ?_) | (apply gD; refine sD ?_) | fail)
        obtain ⟨z1, hz1⟩ : ∃ z, Hid (IntKind.u64.wrap (((UInt8.toNat 0 % 128 : Nat) : Int) * 2 ^ (7 * (i : Int)).toNat) = z) := ⟨_, Lib.hid rfl⟩
        refine O_s (sv_shl (hr := hz1.out)) ?_
        clear hz1
        obtain ⟨z2, hz2⟩ : ∃ z, Hid (bits .or .u64 (x : Int) z1 = z) := ⟨_, Lib.hid rfl⟩
        refine O_s (sv_or (hr := hz2.out)) ?_
        clear hz2
        repeat' (first | refine go ?_ | intro _ | (apply cG; first | refine cT ?_ | refine cF ?_ | refine cS (fun _ => ?_) fun _ => ?_) | (apply gW; refine sW ?_) | (apply gI; refine sI ?_) | (apply gE; refine sE ?_) | (apply gP; refine sP ?_) | (apply gC; refine sC ?_) | (apply gD; refine sD ?_) | fail)
        refine rr_open fun A n cc hn => ?_
        repeat' (first | refine go ?_ | intro _ | (apply cG; first | refine cT ?_ | refine cF ?_ | refine cS (fun _ => ?_) fun _ => ?_) | (apply gW; refine sW ?_) | (apply gI; refine sI ?_) | (apply gE; refine sE ?_) | (apply gP; refine sP ?_) | (apply gC; refine sC ?_) | (apply gD; refine sD ?_) | fail)
        refine E_sub rr_sub ?_
        exact E_round (i + 1, z2, [], 3) ⟨by simp, .inr ⟨(by decide : (3 : Int) ≠ 0), by omega, hr.out.symm⟩⟩ mu_more ⟨rfl, rfl, trivial⟩ (Sub.refl _)
      · by_cases hi9' : i = 9
        all_goals
          refine O_d (dy_call ArgsI.pf (by first | exact rfl | trivial | (intro a b; rfl)) (next_ct (c := 0) (bs' := []) (e' := 3) rfl (by omega))) ?_; rintro _ _ ⟨_, ⟨rfl, rfl⟩, rfl⟩; refine O_n ?_
          repeat' (first | refine go ?_ | intro _ | (apply cG; first | refine cT ?_ | refine cF ?_ | refine cS (fun _ => ?_) fun _ => ?_) | (apply gW; refine sW ?_) | (apply gI; refine sI ?_) | (apply gE; refine sE ?_) | (apply gP; refine sP ?_) | (apply gC; refine sC ?_) | (apply gD; refine sD ?_) | fail)
          refine O_d (dy_call ArgsI.pf (by first | exact rfl | trivial | (intro a b; rfl)) (fail_ct (bs' := []) (e' := 3) rfl)) ?_; rintro _ _ ⟨_, rfl, rfl⟩; refine O_n ?_
          repeat' (first | refine go ?_ | intro _ | (apply cG; first | refine cT ?_ | refine cF ?_ | refine cS (fun _ => ?_) fun _ => ?_) | (apply gW; refine sW ?_) | (apply gI; refine sI ?_) | (apply gE; refine sE ?_) | (apply gP; refine sP ?_) | (apply gC; refine sC ?_) | (apply gD; refine sD ?_) | fail)
          refine O_s (sv_andNot (hr := andNot_128 _)) ?_
          repeat' (first | refine go ?_ | intro _ | (apply cG; first | refine cT ?_ | refine cF ?_ | refine cS (fun _ => ?_) fun _ => ?_) | (apply gW; refine sW ?_) | (apply gI; refine sI ?_) | (apply gE; refine sE ?_) | (apply gP; refine sP ?_) | (apply gC; refine sC ?_) | (apply gD; refine sD ?_) | fail)
          obtain ⟨z1, hz1⟩ : ∃ z, Hid (IntKind.u64.wrap (((UInt8.toNat 0 % 128 : Nat) : Int) * 2 ^ (7 * (i : Int)).toNat) = z) := ⟨_, Lib.hid rfl⟩
          refine O_s (sv_shl (hr := hz1.out)) ?_
          clear hz1
          obtain ⟨z2, hz2⟩ : ∃ z, Hid (bits .or .u64 (x : Int) z1 = z) := ⟨_, Lib.hid rfl⟩
          refine O_s (sv_or (hr := hz2.out)) ?_
          clear hz2
          repeat' (first | refine go ?_ | intro _ | (apply cG; first | refine cT ?_ | refine cF ?_ | refine cS (fun _ => ?_) fun _ => ?_) | (apply gW; refine sW ?_) | (apply gI; refine sI ?_) | (apply gE; refine sE ?_) | (apply gP; refine sP ?_) | (apply gC; refine sC ?_) | (apply gD; refine sD ?_) | fail)
          refine rr_open fun A n cc hn => ?_
          repeat' (first | refine go ?_ | intro _ | (apply cG; first | refine cT ?_ | refine cF ?_ | refine cS (fun _ => ?_) fun _ => ?_) | (apply gW; refine sW ?_) | (apply gI; refine sI ?_) | (apply gE; refine sE ?_) | (apply gP; refine sP ?_) | (apply gC; refine sC ?_) | (apply gD; refine sD ?_) | fail)
          refine E_sub rr_sub ?_
          exact E_round (i + 1, z2, [], 3) ⟨by simp, .inr ⟨(by decide : (3 : Int) ≠ 0), by omega, hr.out.symm⟩⟩ mu_more ⟨rfl, rfl, trivial⟩ (Sub.refl _)
    | cons c r =>
      have hr := Lib.hid hr
      have hc : c.toNat < 256 := c.toNat_lt
      simp only [List.length_cons] at hlen
      by_cases hbad : (i = 9 ∧ 1 < c.toNat) ∨ (0 < i ∧ c.toNat = 0)
      · have hfin : (m, (bs', e')) = (0, (r, 2)) := by have h1 := hr.out; rw [rUi, if_pos hbad] at h1; exact h1.symm
        clear hr
        have hfin := Lib.hid hfin
        have hrl : r.length ≤ bs.length := by omega
        have hcase : ((i = 9 ∧ 1 < c.toNat ∧ c.toNat < 128) ∨ (i = 9 ∧ c.toNat = 0 ∧ c.toNat < 128) ∨ (i ≠ 9 ∧ 0 < i ∧ c.toNat = 0)) ∨ (i = 9 ∧ 128 ≤ c.toNat) := by omega
        clear hbad
        rcases hcase with hcase | ⟨hA, hB⟩
        · rcases hcase with ⟨hA, hB, hC⟩ | ⟨hA, hB, hC⟩ | ⟨hA, hB, hC⟩
          all_goals
            refine O_d (dy_call ArgsI.pf (by first | exact rfl | trivial | (intro a b; rfl)) (next_ct (c := c) (bs' := r) (e' := 0) rfl (by simp only [List.length_cons]; omega))) ?_; rintro _ _ ⟨_, ⟨rfl, rfl⟩, rfl⟩; refine O_n ?_
            repeat' (first | refine go ?_ | intro _ | (apply cG; first | refine cT ?_ | refine cF ?_ | refine cS (fun _ => ?_) fun _ => ?_) | (apply gW; refine sW ?_) | (apply gI; refine sI ?_) | (apply gE; refine sE ?_) | (apply gP; refine sP ?_) | (apply gC; refine sC ?_) | (apply gD; refine sD ?_) | fail)
            refine O_d (dy_call ArgsI.pf (by first | exact rfl | trivial | (intro a b; rfl)) (fail_ct (bs' := r) (e' := 2) rfl)) ?_; rintro _ _ ⟨_, rfl, rfl⟩; refine O_n ?_
            repeat' (first | refine go ?_ | intro _ | (apply cG; first | refine cT ?_ | refine cF ?_ | refine cS (fun _ => ?_) fun _ => ?_) | (apply gW; refine sW ?_) | (apply gI; refine sI ?_) | (apply gE; refine sE ?_) | (apply gP; refine sP ?_) | (apply gC; refine sC ?_) | (apply gD; refine sD ?_) | fail)
            refine O_s (sv_andNot (hr := andNot_128 _)) ?_
            repeat' (first | refine go ?_ | intro _ | (apply cG; first | refine cT ?_ | refine cF ?_ | refine cS (fun _ => ?_) fun _ => ?_) | (apply gW; refine sW ?_) | (apply gI; refine sI ?_) | (apply gE; refine sE ?_) | (apply gP; refine sP ?_) | (apply gC; refine sC ?_) | (apply gD; refine sD ?_) | fail)
            obtain ⟨z1, hz1⟩ : ∃ z, Hid (IntKind.u64.wrap (((UInt8.toNat c % 128 : Nat) : Int) * 2 ^ (7 * (i : Int)).toNat) = z) := ⟨_, Lib.hid rfl⟩
            refine O_s (sv_shl (hr := hz1.out)) ?_
            clear hz1
            obtain ⟨z2, hz2⟩ : ∃ z, Hid (bits .or .u64 (x : Int) z1 = z) := ⟨_, Lib.hid rfl⟩
            refine O_s (sv_or (hr := hz2.out)) ?_
            clear hz2
            repeat' (first | refine go ?_ | intro _ | (apply cG; first | refine cT ?_ | refine cF ?_ | refine cS (fun _ => ?_) fun _ => ?_) | (apply gW; refine sW ?_) | (apply gI; refine sI ?_) | (apply gE; refine sE ?_) | (apply gP; refine sP ?_) | (apply gC; refine sC ?_) | (apply gD; refine sD ?_) | fail)
            refine rr_open fun A n cc hn => ?_
            repeat' (first | refine go ?_ | intro _ | (apply cG; first | refine cT ?_ | refine cF ?_ | refine cS (fun _ => ?_) fun _ => ?_) | (apply gW; refine sW ?_) | (apply gI; refine sI ?_) | (apply gE; refine sE ?_) | (apply gP; refine sP ?_) | (apply gC; refine sC ?_) | (apply gD; refine sD ?_) | fail)
            refine E_sub rr_sub ?_
            exact E_round (i + 1, z2, r, 2) ⟨hrl, .inr ⟨(by decide : (2 : Int) ≠ 0), by omega, hfin.out⟩⟩ (mu_form c r) ⟨rfl, rfl, trivial⟩ (Sub.refl _)
        · refine O_d (dy_call ArgsI.pf (by first | exact rfl | trivial | (intro a b; rfl)) (next_ct (c := c) (bs' := r) (e' := 0) rfl (by simp only [List.length_cons]; omega))) ?_; rintro _ _ ⟨_, ⟨rfl, rfl⟩, rfl⟩; refine O_n ?_
          repeat' (first | refine go ?_ | intro _ | (apply cG; first | refine cT ?_ | refine cF ?_ | refine cS (fun _ => ?_) fun _ => ?_) | (apply gW; refine sW ?_) | (apply gI; refine sI ?_) | (apply gE; refine sE ?_) | (apply gP; refine sP ?_) | (apply gC; refine sC ?_) | (apply gD; refine sD ?_) | fail)
          refine O_d (dy_call ArgsI.pf (by first | exact rfl | trivial | (intro a b; rfl)) (fail_ct (bs' := r) (e' := 2) rfl)) ?_; rintro _ _ ⟨_, rfl, rfl⟩; refine O_n ?_
          repeat' (first | refine go ?_ | intro _ | (apply cG; first | refine cT ?_ | refine cF ?_ | refine cS (fun _ => ?_) fun _ => ?_) | (apply gW; refine sW ?_) | (apply gI; refine sI ?_) | (apply gE; refine sE ?_) | (apply gP; refine sP ?_) | (apply gC; refine sC ?_) | (apply gD; refine sD ?_) | fail)
          refine O_s (sv_andNot (hr := andNot_128 _)) ?_
          repeat' (first | refine go ?_ | intro _ | (apply cG; first | refine cT ?_ | refine cF ?_ | refine cS (fun _ => ?_) fun _ => ?_) | (apply gW; refine sW ?_) | (apply gI; refine sI ?_) | (apply gE; refine sE ?_) | (apply gP; refine sP ?_) | (apply gC; refine sC ?_) | (apply gD; refine sD ?_) | fail)
          obtain ⟨z1, hz1⟩ : ∃ z, Hid (IntKind.u64.wrap (((UInt8.toNat c % 128 : Nat) : Int) * 2 ^ (7 * (i : Int)).toNat) = z) := ⟨_, Lib.hid rfl⟩
          refine O_s (sv_shl (hr := hz1.out)) ?_
          clear hz1
          obtain ⟨z2, hz2⟩ : ∃ z, Hid (bits .or .u64 (x : Int) z1 = z) := ⟨_, Lib.hid rfl⟩
          refine O_s (sv_or (hr := hz2.out)) ?_
          clear hz2
          repeat' (first | refine go ?_ | intro _ | (apply cG; first | refine cT ?_ | refine cF ?_ | refine cS (fun _ => ?_) fun _ => ?_) | (apply gW; refine sW ?_) | (apply gI; refine sI ?_) | (apply gE; refine sE ?_) | (apply gP; refine sP ?_) | (apply gC; refine sC ?_) | (apply gD; refine sD ?_) | fail)
          exact E_round (i + 1, z2, r, 2) ⟨hrl, .inr ⟨(by decide : (2 : Int) ≠ 0), by omega, hfin.out⟩⟩ (mu_form c r) ⟨rfl, rfl, trivial⟩ (Sub.refl _)
      · have h9 : i = 9 → c.toNat ≤ 1 := fun h => by omega
        have hpos : 0 < i → 0 < c.toNat := fun h => by omega
        have hfin : (if c.toNat < 128 then (x + c.toNat * 128 ^ i, (r, (0 : Int))) else rUi (i + 1) (x + (c.toNat - 128) * 128 ^ i) r) = (m, (bs', e')) := by have h1 := hr.out; rw [rUi, if_neg hbad] at h1; exact h1
        clear hr
        by_cases hlt : c.toNat < 128
        · rw [if_pos hlt] at hfin
          simp only [Prod.mk.injEq] at hfin
          obtain ⟨hm, rfl, rfl⟩ := hfin
          have hs := Lib.hid (shl_step (c := c) hi9 h9)
          have ho : Hid (bits .or .u64 (x : Int) ((c.toNat % 128 * 128 ^ i : Nat) : Int) = (m : Int)) := Lib.hid (by rw [or_step (c := c) hx hi9 h9, Nat.mod_eq_of_lt hlt, hm])
          clear hm
          by_cases hi9' : i = 9
          all_goals
            refine O_d (dy_call ArgsI.pf (by first | exact rfl | trivial | (intro a b; rfl)) (next_ct (c := c) (bs' := r) (e' := 0) rfl (by simp only [List.length_cons]; omega))) ?_; rintro _ _ ⟨_, ⟨rfl, rfl⟩, rfl⟩; refine O_n ?_
            repeat' (first | refine go ?_ | intro _ | (apply cG; first | refine cT ?_ | refine cF ?_ | refine cS (fun _ => ?_) fun _ => ?_) | (apply gW; refine sW ?_) | (apply gI; refine sI ?_) | (apply gE; refine sE ?_) | (apply gP; refine sP ?_) | (apply gC; refine sC ?_) | (apply gD; refine sD ?_) | fail)
            all_goals
              refine O_s (sv_andNot (hr := andNot_128 _)) ?_
              repeat' (first | refine go ?_ | intro _ | (apply cG; first | refine cT ?_ | refine cF ?_ | refine cS (fun _ => ?_) fun _ => ?_) | (apply gW; refine sW ?_) | (apply gI; refine sI ?_) | (apply gE; refine sE ?_) | (apply gP; refine sP ?_) | (apply gC; refine sC ?_) | (apply gD; refine sD ?_) | fail)
              refine O_s (sv_shl (hr := hs.out)) ?_
              refine O_s (sv_or (hr := ho.out)) ?_
              repeat' (first | refine go ?_ | intro _ | (apply cG; first | refine cT ?_ | refine cF ?_ | refine cS (fun _ => ?_) fun _ => ?_) | (apply gW; refine sW ?_) | (apply gI; refine sI ?_) | (apply gE; refine sE ?_) | (apply gP; refine sP ?_) | (apply gC; refine sC ?_) | (apply gD; refine sD ?_) | fail)
              refine rr_open fun A n cc hn => ?_
              repeat' (first | refine go ?_ | intro _ | (apply cG; first | refine cT ?_ | refine cF ?_ | refine cS (fun _ => ?_) fun _ => ?_) | (apply gW; refine sW ?_) | (apply gI; refine sI ?_) | (apply gE; refine sE ?_) | (apply gP; refine sP ?_) | (apply gC; refine sC ?_) | (apply gD; refine sD ?_) | fail)
              refine E_sub rr_sub ?_
              refine E_end1 (by rfl) (by rfl) Ev.pf ⟨rfl, rfl⟩
        · rw [if_neg hlt] at hfin
          have e128 : c.toNat - 128 = c.toNat % 128 := by omega
          rw [e128] at hfin
          clear e128
          have hfin := Lib.hid hfin
          have hi8 : i < 9 := by omega
          have hlt2 : x + c.toNat % 128 * 128 ^ i < 128 ^ (i + 1) := by
            rw [Nat.pow_succ]
            have e : c.toNat % 128 * 128 ^ i ≤ 127 * 128 ^ i := Nat.mul_le_mul_right _ (by omega)
            omega
          have hlt2 := Lib.hid hlt2
          have hs := Lib.hid (shl_step (c := c) hi9 h9)
          have ho := Lib.hid (or_step (c := c) hx hi9 h9)
          have hrl : r.length ≤ bs.length := by omega
          by_cases hi0 : i = 0
          all_goals
            refine O_d (dy_call ArgsI.pf (by first | exact rfl | trivial | (intro a b; rfl)) (next_ct (c := c) (bs' := r) (e' := 0) rfl (by simp only [List.length_cons]; omega))) ?_; rintro _ _ ⟨_, ⟨rfl, rfl⟩, rfl⟩; refine O_n ?_
            repeat' (first | refine go ?_ | intro _ | (apply cG; first | refine cT ?_ | refine cF ?_ | refine cS (fun _ => ?_) fun _ => ?_) | (apply gW; refine sW ?_) | (apply gI; refine sI ?_) | (apply gE; refine sE ?_) | (apply gP; refine sP ?_) | (apply gC; refine sC ?_) | (apply gD; refine sD ?_) | fail)
            refine O_s (sv_andNot (hr := andNot_128 _)) ?_
            repeat' (first | refine go ?_ | intro _ | (apply cG; first | refine cT ?_ | refine cF ?_ | refine cS (fun _ => ?_) fun _ => ?_) | (apply gW; refine sW ?_) | (apply gI; refine sI ?_) | (apply gE; refine sE ?_) | (apply gP; refine sP ?_) | (apply gC; refine sC ?_) | (apply gD; refine sD ?_) | fail)
            refine O_s (sv_shl (hr := hs.out)) ?_
            refine O_s (sv_or (hr := ho.out)) ?_
            repeat' (first | refine go ?_ | intro _ | (apply cG; first | refine cT ?_ | refine cF ?_ | refine cS (fun _ => ?_) fun _ => ?_) | (apply gW; refine sW ?_) | (apply gI; refine sI ?_) | (apply gE; refine sE ?_) | (apply gP; refine sP ?_) | (apply gC; refine sC ?_) | (apply gD; refine sD ?_) | fail)
            exact E_round (i + 1, ((x + c.toNat % 128 * 128 ^ i : Nat) : Int), r, 0) ⟨hrl, .inl ⟨rfl, hi8, x + c.toNat % 128 * 128 ^ i, rfl, hlt2.out, hfin.out⟩⟩ (mu_next c r) ⟨rfl, rfl, trivial⟩ (Sub.refl _)
  · repeat' (first | refine go ?_ | intro _ | (apply cG; first | refine cT ?_ | refine cF ?_ | refine cS (fun _ => ?_) fun _ => ?_) | (apply gW; refine sW ?_) | (apply gI; refine sI ?_) | (apply gE; refine sE ?_) | (apply gP; refine sP ?_) | (apply gC; refine sC ?_) | (apply gD; refine sD ?_) | fail)
    refine rr_open fun A n cc hn => ?_
    repeat' (first | refine go ?_ | intro _ | (apply cG; first | refine cT ?_ | refine cF ?_ | refine cS (fun _ => ?_) fun _ => ?_) | (apply gW; refine sW ?_) | (apply gI; refine sI ?_) | (apply gE; refine sE ?_) | (apply gP; refine sP ?_) | (apply gC; refine sC ?_) | (apply gD; refine sD ?_) | fail)
    refine E_sub rr_sub ?_
    simp only [Prod.mk.injEq] at hr
    obtain ⟨rfl, rfl, rfl⟩ := hr
    refine E_end1 (by rfl) (by rfl) Ev.pf ⟨rfl, rfl⟩
end
end Go.Proofs.Ytbjaecofccpahaa
namespace Go.Proofs.Ytbjaecofccpahaa
open Go Go.RowKit
set_option linter.unusedVariables false
set_option linter.unusedSimpArgs false
set_option maxRecDepth 20000
set_option synthInstance.maxSize 100000
set_option synthInstance.maxHeartbeats 400000
theorem and_1 {m : Nat} (h : m < 18446744073709551616) : bits .and .u64 (m : Int) 1 = ((m % 2 : Nat) : Int) := by
  have h6 : (UInt64.ofNat m).toNat = m := by rw [UInt64.toNat_ofNat']; omega
  show IntKind.u64.wrap ((BitVec.ofInt 64 (m : Int) &&& BitVec.ofInt 64 1).toNat : Int) = _
  have e1 : BitVec.ofInt 64 (m : Int) = BitVec.ofNat 64 m := BitVec.ofInt_natCast ..
  have e2 : BitVec.ofInt 64 (1 : Int) = BitVec.ofNat 64 1 := by decide
  rw [e1, e2, BitVec.toNat_and, BitVec.toNat_ofNat, BitVec.toNat_ofNat, Nat.mod_eq_of_lt h, Nat.mod_eq_of_lt (by decide), Nat.and_one_is_mod]
  exact wr_u64 (by omega) (by omega)
theorem xor_zz {k : Nat} {b : Nat} (hk : k < 9223372036854775808) (hb : b < 2) : bits .xor .i64 (k : Int) (-(b : Int)) = if b = 1 then -(k : Int) - 1 else (k : Int) := by
  show IntKind.i64.wrap ((BitVec.ofInt 64 (k : Int) ^^^ BitVec.ofInt 64 (-(b : Int))).toNat : Int) = _
  have e1 : BitVec.ofInt 64 (k : Int) = BitVec.ofNat 64 k := BitVec.ofInt_natCast ..
  rcases Nat.lt_or_ge b 1 with h | h
  · have : b = 0 := by omega
    subst this
    have e2 : BitVec.ofInt 64 (-((0 : Nat) : Int)) = 0#64 := by decide
    rw [e1, e2, BitVec.xor_zero, BitVec.toNat_ofNat, Nat.mod_eq_of_lt (by omega), if_neg (by omega)]
    exact wr_i64 (by omega) (by omega)
  · have : b = 1 := by omega
    subst this
    have e2 : BitVec.ofInt 64 (-((1 : Nat) : Int)) = BitVec.allOnes 64 := by decide
    rw [e1, e2, BitVec.xor_allOnes, BitVec.toNat_not, BitVec.toNat_ofNat, Nat.mod_eq_of_lt (by omega), if_pos rfl, IntKind.wrap_i64]
    omega
theorem unzig_walk {m : Nat} (h : m < 18446744073709551616) : bits .xor .i64 ((m / 2 : Nat) : Int) (-((m % 2 : Nat) : Int)) = unzig m := by
  rw [xor_zz (by omega) (by omega)]
  unfold unzig
  rfl
theorem unzig_in {m : Nat} (h : m < 18446744073709551616) : -9223372036854775808 ≤ unzig m ∧ unzig m ≤ 9223372036854775807 := by
  unfold unzig; split <;> omega
section
variable {W0 : World} {L : List HP}
theorem unzigzag_ct {m : Nat} (h : m < 18446744073709551616) : CT Try.prog 89 #[.int .u64 (m : Int)] W0 L fun r L' => r = .int .i64 (unzig m) ∧ L' = L := by
  have h2 : (m : Int) / 2 ^ (1 : Int).toNat = ((m / 2 : Nat) : Int) := by simp
  have hx := unzig_walk h
  have ha := and_1 h
  replace h2 := Lib.hid h2
  replace hx := Lib.hid hx
  replace ha := Lib.hid ha
  refine CT_enter Try.func89 rfl ?_; (simp only [Try.ntmps89, List.size_toArray, List.length_cons, List.length_nil, Nat.reduceAdd, Nat.reduceSub, Array.replicate_succ, Array.replicate_zero, List.push_toArray, List.append_toArray, List.nil_append, List.cons_append])
  repeat' (first | refine go ?_ | intro _ | (apply cG; first | refine cT ?_ | refine cF ?_ | refine cS (fun _ => ?_) fun _ => ?_) | (apply gW; refine sW ?_) | (apply gI; refine sI ?_) | (apply gE; refine sE ?_) | (apply gP; refine sP ?_) | (apply gC; refine sC ?_) | (apply gD; refine sD ?_) | fail)
  refine O_s (sv_shr (hr := h2.out)) ?_
  repeat' (first | refine go ?_ | intro _ | (apply cG; first | refine cT ?_ | refine cF ?_ | refine cS (fun _ => ?_) fun _ => ?_) | (apply gW; refine sW ?_) | (apply gI; refine sI ?_) | (apply gE; refine sE ?_) | (apply gP; refine sP ?_) | (apply gC; refine sC ?_) | (apply gD; refine sD ?_) | fail)
  refine O_s (sv_and (hr := ha.out)) ?_
  repeat' (first | refine go ?_ | intro _ | (apply cG; first | refine cT ?_ | refine cF ?_ | refine cS (fun _ => ?_) fun _ => ?_) | (apply gW; refine sW ?_) | (apply gI; refine sI ?_) | (apply gE; refine sE ?_) | (apply gP; refine sP ?_) | (apply gC; refine sC ?_) | (apply gD; refine sD ?_) | fail)
  refine O_s (sv_xor (hr := hx.out)) ?_
  repeat' (first | refine go ?_ | intro _ | (apply cG; first | refine cT ?_ | refine cF ?_ | refine cS (fun _ => ?_) fun _ => ?_) | (apply gW; refine sW ?_) | (apply gI; refine sI ?_) | (apply gE; refine sE ?_) | (apply gP; refine sP ?_) | (apply gC; refine sC ?_) | (apply gD; refine sD ?_) | fail)
  refine E_end1 (by rfl) (by rfl) Ev.pf ⟨rfl, rfl⟩
theorem Int_ct {p : Nat} {x : Int} {bs bs' : List UInt8} {e e' : Int} (h : rI (bs, e) = (x, (bs', e'))) (hl : bs.length ≤ 100000000000000) : CT Try.prog 80 #[.pointer (some ⟨p, 0, none⟩)] W0 (rr p bs e :: L) fun r L' => r = .int .i64 x ∧ L' = rr p bs' e' :: L := by
  unfold rI at h
  simp only [Prod.mk.injEq] at h
  have hu : rU (bs, e) = ((rU (bs, e)).1, (bs', e')) := by rw [← h.2]
  have hx := Lib.hid h.1
  have hlt := rU_lt (bs, e)
  clear h
  generalize (rU (bs, e)).1 = m at hu hx hlt
  replace hu := Lib.hid hu
  refine CT_enter Try.func80 rfl ?_; (simp only [Try.ntmps80, List.size_toArray, List.length_cons, List.length_nil, Nat.reduceAdd, Nat.reduceSub, Array.replicate_succ, Array.replicate_zero, List.push_toArray, List.append_toArray, List.nil_append, List.cons_append])
  repeat' (first | refine go ?_ | intro _ | (apply cG; first | refine cT ?_ | refine cF ?_ | refine cS (fun _ => ?_) fun _ => ?_) | (apply gW; refine sW ?_) | (apply gI; refine sI ?_) | (apply gE; refine sE ?_) | (apply gP; refine sP ?_) | (apply gC; refine sC ?_) | (apply gD; refine sD ?_) | fail)
  refine O_d (dy_call ArgsI.pf (by first | exact rfl | trivial | (intro a b; rfl)) (Uint_ct hu.out hl)) ?_; rintro _ _ ⟨_, ⟨rfl, rfl⟩, rfl⟩; refine O_n ?_
  repeat' (first | refine go ?_ | intro _ | (apply cG; first | refine cT ?_ | refine cF ?_ | refine cS (fun _ => ?_) fun _ => ?_) | (apply gW; refine sW ?_) | (apply gI; refine sI ?_) | (apply gE; refine sE ?_) | (apply gP; refine sP ?_) | (apply gC; refine sC ?_) | (apply gD; refine sD ?_) | fail)
  refine O_d (dy_call ArgsI.pf (by first | exact rfl | trivial | (intro a b; rfl)) (unzigzag_ct hlt)) ?_; rintro _ _ ⟨_, ⟨rfl, rfl⟩, rfl⟩; refine O_n ?_
  repeat' (first | refine go ?_ | intro _ | (apply cG; first | refine cT ?_ | refine cF ?_ | refine cS (fun _ => ?_) fun _ => ?_) | (apply gW; refine sW ?_) | (apply gI; refine sI ?_) | (apply gE; refine sE ?_) | (apply gP; refine sP ?_) | (apply gC; refine sC ?_) | (apply gD; refine sD ?_) | fail)
  refine E_end1 (by rfl) (by rfl) Ev.pf ⟨by rw [hx.out], rfl⟩
theorem End_ct {p : Nat} {bs : List UInt8} {e x : Int} (h : rEnd (bs, e) = x) (hl : bs.length ≤ 100000000000000) : CT Try.prog 34 #[.pointer (some ⟨p, 0, none⟩)] W0 (rr p bs e :: L) fun r L' => r = .int .i64 x ∧ L' = rr p bs e :: L := by
  unfold rEnd at h
  dsimp only at h
  by_cases h0 : e = 0
  · subst h0
    by_cases h1 : 0 < bs.length
    · rw [if_pos ⟨rfl, h1⟩] at h
      subst h
      refine CT_enter Try.func34 rfl ?_; (simp only [Try.ntmps34, List.size_toArray, List.length_cons, List.length_nil, Nat.reduceAdd, Nat.reduceSub, Array.replicate_succ, Array.replicate_zero, List.push_toArray, List.append_toArray, List.nil_append, List.cons_append])
      repeat' (first | refine go ?_ | intro _ | (apply cG; first | refine cT ?_ | refine cF ?_ | refine cS (fun _ => ?_) fun _ => ?_) | (apply gW; refine sW ?_) | (apply gI; refine sI ?_) | (apply gE; refine sE ?_) | (apply gP; refine sP ?_) | (apply gC; refine sC ?_) | (apply gD; refine sD ?_) | fail)
      refine rr_open fun A n c hn => ?_
      repeat' (first | refine go ?_ | intro _ | (apply cG; first | refine cT ?_ | refine cF ?_ | refine cS (fun _ => ?_) fun _ => ?_) | (apply gW; refine sW ?_) | (apply gI; refine sI ?_) | (apply gE; refine sE ?_) | (apply gP; refine sP ?_) | (apply gC; refine sC ?_) | (apply gD; refine sD ?_) | fail)
      refine E_sub rr_sub ?_
      refine E_end1 (by rfl) (by rfl) Ev.pf ⟨rfl, rfl⟩
    · rw [if_neg (fun h => h1 h.2)] at h
      subst h
      refine CT_enter Try.func34 rfl ?_; (simp only [Try.ntmps34, List.size_toArray, List.length_cons, List.length_nil, Nat.reduceAdd, Nat.reduceSub, Array.replicate_succ, Array.replicate_zero, List.push_toArray, List.append_toArray, List.nil_append, List.cons_append])
      repeat' (first | refine go ?_ | intro _ | (apply cG; first | refine cT ?_ | refine cF ?_ | refine cS (fun _ => ?_) fun _ => ?_) | (apply gW; refine sW ?_) | (apply gI; refine sI ?_) | (apply gE; refine sE ?_) | (apply gP; refine sP ?_) | (apply gC; refine sC ?_) | (apply gD; refine sD ?_) | fail)
      refine rr_open fun A n c hn => ?_
      repeat' (first | refine go ?_ | intro _ | (apply cG; first | refine cT ?_ | refine cF ?_ | refine cS (fun _ => ?_) fun _ => ?_) | (apply gW; refine sW ?_) | (apply gI; refine sI ?_) | (apply gE; refine sE ?_) | (apply gP; refine sP ?_) | (apply gC; refine sC ?_) | (apply gD; refine sD ?_) | fail)
      refine E_sub rr_sub ?_
      refine E_end1 (by rfl) (by rfl) Ev.pf ⟨rfl, rfl⟩
  · rw [if_neg (fun h => h0 h.1)] at h
    subst h
    refine CT_enter Try.func34 rfl ?_; (simp only [Try.ntmps34, List.size_toArray, List.length_cons, List.length_nil, Nat.reduceAdd, Nat.reduceSub, Array.replicate_succ, Array.replicate_zero, List.push_toArray, List.append_toArray, List.nil_append, List.cons_append])
    repeat' (first | refine go ?_ | intro _ | (apply cG; first | refine cT ?_ | refine cF ?_ | refine cS (fun _ => ?_) fun _ => ?_) | (apply gW; refine sW ?_) | (apply gI; refine sI ?_) | (apply gE; refine sE ?_) | (apply gP; refine sP ?_) | (apply gC; refine sC ?_) | (apply gD; refine sD ?_) | fail)
    refine rr_open fun A n c hn => ?_
    repeat' (first | refine go ?_ | intro _ | (apply cG; first | refine cT ?_ | refine cF ?_ | refine cS (fun _ => ?_) fun _ => ?_) | (apply gW; refine sW ?_) | (apply gI; refine sI ?_) | (apply gE; refine sE ?_) | (apply gP; refine sP ?_) | (apply gC; refine sC ?_) | (apply gD; refine sD ?_) | fail)
    refine E_sub rr_sub ?_
    refine E_end1 (by rfl) (by rfl) Ev.pf ⟨rfl, rfl⟩
end
end Go.Proofs.Ytbjaecofccpahaa
