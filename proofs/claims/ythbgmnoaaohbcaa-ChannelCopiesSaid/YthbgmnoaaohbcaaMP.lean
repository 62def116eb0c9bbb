/-
  Walks of the reference 02: what it writes.
-/
import Derived.Test.YthbgmnoaaohbcaaMO
namespace Go.Proofs.Ythbgmnoaaohbcaa
open Go Go.RowKit
set_option linter.unusedVariables false
set_option linter.unusedSimpArgs false
set_option maxRecDepth 20000
set_option synthInstance.maxSize 100000
set_option synthInstance.maxHeartbeats 400000
section
variable {W0 : World} {L : List HP}
theorem fUint_ct {m : Nat} (hm : m < 18446744073709551616) : CT Try.prog 52 #[.int .u64 (m : Int)] W0 L fun r L' => ∃ A c, r = .slice A (varint m).length c ∧ L' = own 5 eB (.slice A (varint m).length c) (varint m) :: L := by
  refine CT_enter Try.func52 rfl ?_; (simp only [Try.ntmps52, List.size_toArray, List.length_cons, List.length_nil, Nat.reduceAdd, Nat.reduceSub, Array.replicate_succ, Array.replicate_zero, List.push_toArray, List.append_toArray, List.nil_append, List.cons_append])
  have hvl := vlen hm
  repeat' (first | refine go ?_ | intro _ | (apply cG; first | refine cT ?_ | refine cF ?_ | refine cS (fun _ => ?_) fun _ => ?_) | (apply gW; refine sW ?_) | (apply gI; refine sI ?_) | (apply gE; refine sE ?_) | (apply gP; refine sP ?_) | (apply gC; refine sC ?_) | (apply gD; refine sD ?_) | fail)
  refine C_ownnil 5 eB ?_
  refine C_loopS (κ := Nat × Value × List UInt8) [true, false, false, true, true, true, true, true, true, true, true, true, true, true, true, false, false, false, false, false] (fun k => [(0, .int .u64 (k.1 : Int)), (3, k.2.1)]) (fun k => [(0, own 5 eB k.2.1 k.2.2)]) (fun k => k.1 < 18446744073709551616 ∧ (∃ A c, k.2.1 = .slice A k.2.2.length c) ∧ k.2.2 ++ varint k.1 = varint m) (fun k => k.1) (m, .slice none 0 0, []) ⟨hm, ⟨none, 0, rfl⟩, rfl⟩ ⟨rfl, rfl, trivial⟩ ?_
  rintro ⟨n, vo, out⟩ u ⟨hn, ⟨A, c, hvo⟩, hout⟩
  dsimp only at hn hvo hout
  subst hvo
  have hol : out.length ≤ 10 := by have := congrArg List.length hout; rw [List.length_append] at this; omega
  ((try dsimp only); refine C_n ?_; (try simp only [Nat.reduceAdd, Nat.zero_add]))
  by_cases hb : 127 < n
  · have e : (128 + (n : Int) % 128) = ((UInt8.ofNat (n % 128 + 128)).toNat : Int) := by rw [ofNat_toNat8 (by omega)]; omega
    repeat' (first | refine go ?_ | intro _ | (apply cG; first | refine cT ?_ | refine cF ?_ | refine cS (fun _ => ?_) fun _ => ?_) | (apply gW; refine sW ?_) | (apply gI; refine sI ?_) | (apply gE; refine sE ?_) | (apply gP; refine sP ?_) | (apply gC; refine sC ?_) | (apply gD; refine sD ?_) | fail)
    rw [e]
    refine O_d (dy_lit1 (R := eB) (UInt8.ofNat (n % 128 + 128)) (hcs := by rfl) (hel := fun _ _ _ => by rfl)) ?_; rintro _ _ ⟨_, rfl, rfl⟩; refine O_n ?_
    repeat' (first | refine go ?_ | intro _ | (apply cG; first | refine cT ?_ | refine cF ?_ | refine cS (fun _ => ?_) fun _ => ?_) | (apply gW; refine sW ?_) | (apply gI; refine sI ?_) | (apply gE; refine sE ?_) | (apply gP; refine sP ?_) | (apply gC; refine sC ?_) | (apply gD; refine sD ?_) | fail)
    rename_i A2 c2
    exact E_round (n / 128, .slice A2 (out.length + 1) c2, out ++ [UInt8.ofNat (n % 128 + 128)]) ⟨by show n / 128 < _; omega, ⟨A2, c2, by rw [List.length_append]; rfl⟩, by
      show (out ++ [UInt8.ofNat (n % 128 + 128)]) ++ varint (n / 128) = varint m
      rw [← hout, varint_big (by omega : ¬ n < 128), List.append_assoc]; rfl⟩ (by show n / 128 < n; omega) ⟨rfl, rfl, trivial⟩ Sb
  · have e : (n : Int) = ((UInt8.ofNat n).toNat : Int) := by rw [ofNat_toNat8 (by omega)]
    repeat' (first | refine go ?_ | intro _ | (apply cG; first | refine cT ?_ | refine cF ?_ | refine cS (fun _ => ?_) fun _ => ?_) | (apply gW; refine sW ?_) | (apply gI; refine sI ?_) | (apply gE; refine sE ?_) | (apply gP; refine sP ?_) | (apply gC; refine sC ?_) | (apply gD; refine sD ?_) | fail)
    rw [varint_small (by omega)] at hout
    obtain ⟨z, hz⟩ : ∃ z : UInt8, z = UInt8.ofNat n := ⟨_, rfl⟩
    rw [← hz] at e hout
    refine O_d (dy_lit1 (R := eB) z (cs := [bv z]) (hcs := by show [Value.int .u8 (n : Int)] = _; rw [e]) (hel := fun _ _ _ => by rfl)) ?_; rintro _ _ ⟨_, rfl, rfl⟩; refine O_n ?_
    repeat' (first | refine go ?_ | intro _ | (apply cG; first | refine cT ?_ | refine cF ?_ | refine cS (fun _ => ?_) fun _ => ?_) | (apply gW; refine sW ?_) | (apply gI; refine sI ?_) | (apply gE; refine sE ?_) | (apply gP; refine sP ?_) | (apply gC; refine sC ?_) | (apply gD; refine sD ?_) | fail)
    rw [hout]
    have hl : out.length + 1 = (varint m).length := by rw [← hout, List.length_append]; rfl
    rw [hl]
    refine E_res1 (by rfl) (by rfl) ⟨_, _, rfl, rfl⟩ Sb
theorem fZig_ct {n : Int} (h1 : -9223372036854775808 ≤ n) (h2 : n ≤ 9223372036854775807) : CT Try.prog 75 #[.int .i64 n] W0 L fun r L' => r = .int .u64 (zig n : Int) ∧ L' = L := by
  refine CT_enter Try.func75 rfl ?_; (simp only [Try.ntmps75, List.size_toArray, List.length_cons, List.length_nil, Nat.reduceAdd, Nat.reduceSub, Array.replicate_succ, Array.replicate_zero, List.push_toArray, List.append_toArray, List.nil_append, List.cons_append])
  by_cases h0 : n < 0
  · have e : 2 * -(n + 1) + 1 = ((zig n : Nat) : Int) := by unfold zig; rw [if_pos h0]; omega
    repeat' (first | refine go ?_ | intro _ | (apply cG; first | refine cT ?_ | refine cF ?_ | refine cS (fun _ => ?_) fun _ => ?_) | (apply gW; refine sW ?_) | (apply gI; refine sI ?_) | (apply gE; refine sE ?_) | (apply gP; refine sP ?_) | (apply gC; refine sC ?_) | (apply gD; refine sD ?_) | fail)
    rw [e]
    refine E_res1 (by rfl) (by rfl) ⟨rfl, rfl⟩ Sb
  · have e : 2 * n = ((zig n : Nat) : Int) := by unfold zig; rw [if_neg h0]; omega
    repeat' (first | refine go ?_ | intro _ | (apply cG; first | refine cT ?_ | refine cF ?_ | refine cS (fun _ => ?_) fun _ => ?_) | (apply gW; refine sW ?_) | (apply gI; refine sI ?_) | (apply gE; refine sE ?_) | (apply gP; refine sP ?_) | (apply gC; refine sC ?_) | (apply gD; refine sD ?_) | fail)
    rw [e]
    refine E_res1 (by rfl) (by rfl) ⟨rfl, rfl⟩ Sb
theorem fInt_ct {n : Int} (h1 : -9223372036854775808 ≤ n) (h2 : n ≤ 9223372036854775807) : CT Try.prog 66 #[.int .i64 n] W0 L fun r L' => ∃ A c, r = .slice A (varint (zig n)).length c ∧ L' = own 5 eB (.slice A (varint (zig n)).length c) (varint (zig n)) :: L := by
  refine CT_enter Try.func66 rfl ?_; (simp only [Try.ntmps66, List.size_toArray, List.length_cons, List.length_nil, Nat.reduceAdd, Nat.reduceSub, Array.replicate_succ, Array.replicate_zero, List.push_toArray, List.append_toArray, List.nil_append, List.cons_append])
  repeat' (first | refine go ?_ | intro _ | (apply cG; first | refine cT ?_ | refine cF ?_ | refine cS (fun _ => ?_) fun _ => ?_) | (apply gW; refine sW ?_) | (apply gI; refine sI ?_) | (apply gE; refine sE ?_) | (apply gP; refine sP ?_) | (apply gC; refine sC ?_) | (apply gD; refine sD ?_) | fail)
  refine O_d (dy_call ArgsI.pf (by first | exact rfl | trivial | (intro a b; rfl)) (fZig_ct h1 h2)) ?_; rintro _ _ ⟨_, ⟨rfl, hLL⟩, rfl⟩; replace hLL := hLL.symm; subst hLL; refine O_n ?_
  repeat' (first | refine go ?_ | intro _ | (apply cG; first | refine cT ?_ | refine cF ?_ | refine cS (fun _ => ?_) fun _ => ?_) | (apply gW; refine sW ?_) | (apply gI; refine sI ?_) | (apply gE; refine sE ?_) | (apply gP; refine sP ?_) | (apply gC; refine sC ?_) | (apply gD; refine sD ?_) | fail)
  refine O_d (dy_call ArgsI.pf (by first | exact rfl | trivial | (intro a b; rfl)) (fUint_ct (zig_lt h1 h2))) ?_; rintro _ _ ⟨_, ⟨A, c, rfl, rfl⟩, rfl⟩; refine O_n ?_
  repeat' (first | refine go ?_ | intro _ | (apply cG; first | refine cT ?_ | refine cF ?_ | refine cS (fun _ => ?_) fun _ => ?_) | (apply gW; refine sW ?_) | (apply gI; refine sI ?_) | (apply gE; refine sE ?_) | (apply gP; refine sP ?_) | (apply gC; refine sC ?_) | (apply gD; refine sD ?_) | fail)
  refine E_res1 (by rfl) (by rfl) ⟨_, _, rfl, rfl⟩ Sb
theorem fRaw_ct {v : Value} {l : List UInt8} (hv : Src L eB v l) (hl : l.length ≤ 1000000000000) : CT Try.prog 51 #[v] W0 L fun r L' => ∃ A c, r = .slice A (varint l.length ++ l).length c ∧ L' = own 5 eB (.slice A (varint l.length ++ l).length c) (varint l.length ++ l) :: L := by
  refine CT_fact (fun w s => (hv.sl s).form) ?_
  rintro ⟨A, cap, rfl, hcap⟩
  replace hv : Sc L (.slice A l.length cap) eB l := ⟨hv⟩
  have hvl := vlen (m := l.length) (by omega)
  refine CT_enter Try.func51 rfl ?_; (simp only [Try.ntmps51, List.size_toArray, List.length_cons, List.length_nil, Nat.reduceAdd, Nat.reduceSub, Array.replicate_succ, Array.replicate_zero, List.push_toArray, List.append_toArray, List.nil_append, List.cons_append])
  repeat' (first | refine go ?_ | intro _ | (apply cG; first | refine cT ?_ | refine cF ?_ | refine cS (fun _ => ?_) fun _ => ?_) | (apply gW; refine sW ?_) | (apply gI; refine sI ?_) | (apply gE; refine sE ?_) | (apply gP; refine sP ?_) | (apply gC; refine sC ?_) | (apply gD; refine sD ?_) | fail)
  refine O_d (dy_call ArgsI.pf (by first | exact rfl | trivial | (intro a b; rfl)) (fUint_ct (m := l.length) (by omega))) ?_; rintro _ _ ⟨_, ⟨A2, c2, rfl, rfl⟩, rfl⟩; refine O_n ?_
  repeat' (first | refine go ?_ | intro _ | (apply cG; first | refine cT ?_ | refine cF ?_ | refine cS (fun _ => ?_) fun _ => ?_) | (apply gW; refine sW ?_) | (apply gI; refine sI ?_) | (apply gE; refine sE ?_) | (apply gP; refine sP ?_) | (apply gC; refine sC ?_) | (apply gD; refine sD ?_) | fail)
  rw [← List.length_append]
  refine E_res1 (by rfl) (by rfl) ⟨_, _, rfl, rfl⟩ Sb
end
end Go.Proofs.Ythbgmnoaaohbcaa
namespace Go.Proofs.Ythbgmnoaaohbcaa
open Go Go.RowKit
set_option linter.unusedVariables false
set_option linter.unusedSimpArgs false
set_option maxRecDepth 20000
set_option synthInstance.maxSize 100000
set_option synthInstance.maxHeartbeats 400000
section
variable {W0 : World} {L : List HP}
/-- the reference's reader at block p -/
def fr (p : Nat) (bs : List UInt8) (e : Int) : HP := ex fun v => sp [cel p [v, .int .i64 e] 99, rd eB v bs]
theorem fr_ct {f : FuncId} {args : Array Value} {R : Value → List HP → Prop} {p : Nat} {bs : List UInt8} {e : Int} (k : ∀ A n c, n = bs.length → n ≤ c → CT Try.prog f args W0 (cel p [.slice A n c, .int .i64 e] 99 :: rd eB (.slice A n c) bs :: L) R) : CT Try.prog f args W0 (fr p bs e :: L) R := by
  refine ⟨fun w st => ?_⟩
  obtain ⟨v, h⟩ := st.ex_
  have h := h.open_
  obtain ⟨A, c, rfl, hc⟩ := (h.rd (.tail _ (.head _))).form
  exact (k A _ c rfl hc).run w h
theorem fr_open {ops : Array Oper} {Q : Exit → Act → World → Prop} {rest : List Oper} {a : Act} {p : Nat} {bs : List UInt8} {e : Int} (k : ∀ A n c, n = bs.length → n ≤ c → OL Try.prog W0 (cel p [.slice A n c, .int .i64 e] 99 :: rd eB (.slice A n c) bs :: L) ops Q rest a) : OL Try.prog W0 (fr p bs e :: L) ops Q rest a := by
  refine ⟨fun w st => ?_⟩
  obtain ⟨v, h⟩ := st.ex_
  have h := h.open_
  obtain ⟨A, c, rfl, hc⟩ := (h.rd (.tail _ (.head _))).form
  exact (k A _ c rfl hc).run w h
theorem fr_sub {p : Nat} {v : Value} {bs : List UInt8} {e : Int} : Sub (cel p [v, .int .i64 e] 99 :: rd eB v bs :: L) (fr p bs e :: L) := (sub_close (Ls := [cel p [v, .int .i64 e] 99, rd eB v bs])).trans (sub_ex (F := fun v => sp [cel p [v, .int .i64 e] 99, rd eB v bs]) v)
/-- what the reference's reader keeps after an error -/
def Kp (bs bs' b : List UInt8) (e' : Int) : Prop := (e' = 0 → b = bs') ∧ b.length ≤ bs.length
set_option maxHeartbeats 1000000 in
theorem fU_ct {p m : Nat} {bs bs' : List UInt8} {e e' : Int} (h : rU (bs, e) = (m, (bs', e'))) (hl : bs.length ≤ 1000000000000) :
    CT Try.prog 56 #[.pointer (some ⟨p, 0, none⟩)] W0 (fr p bs e :: L) fun r L' => ∃ b, Kp bs bs' b e' ∧ r = .int .u64 (m : Int) ∧ L' = fr p b e' :: L := by
  refine fr_ct fun A n c hn hnc => ?_
  refine CT_enter Try.func56 rfl ?_; (simp only [Try.ntmps56, List.size_toArray, List.length_cons, List.length_nil, Nat.reduceAdd, Nat.reduceSub, Array.replicate_succ, Array.replicate_zero, List.push_toArray, List.append_toArray, List.nil_append, List.cons_append])
  by_cases he : e = 0
  rotate_left
  · rw [rU_err he] at h
    simp only [Prod.mk.injEq] at h
    obtain ⟨rfl, rfl, rfl⟩ := h
    repeat' (first | refine go ?_ | intro _ | (apply cG; first | refine cT ?_ | refine cF ?_ | refine cS (fun _ => ?_) fun _ => ?_) | (apply gW; refine sW ?_) | (apply gI; refine sI ?_) | (apply gE; refine sE ?_) | (apply gP; refine sP ?_) | (apply gC; refine sC ?_) | (apply gD; refine sD ?_) | fail)
    refine C_loopS (κ := Unit) [false, false, true, true, true, true, true, true, true, true, true, true, true, true, true, true, true, true, true, true, true, true, true, true, true, true, true, true, true, true, true, true, true, true, true, true, true, true, true, true, true, true, true, true, true, true, true, true, true, true, true, true, true, true, true, true, true, true, true, true, true, true, true, true, true, true, true, true, true, true] (fun k => [(3, .int .u64 0), (4, .int .u64 1), (5, .int .i64 0)]) (fun k => []) (fun k => True) (fun k => 0) () trivial ⟨rfl, rfl, rfl, trivial⟩ ?_
    rintro ⟨⟩ u _
    ((try dsimp only); refine C_n ?_; (try simp only [Nat.reduceAdd, Nat.zero_add]))
    repeat' (first | refine go ?_ | intro _ | (apply cG; first | refine cT ?_ | refine cF ?_ | refine cS (fun _ => ?_) fun _ => ?_) | (apply gW; refine sW ?_) | (apply gI; refine sI ?_) | (apply gE; refine sE ?_) | (apply gP; refine sP ?_) | (apply gC; refine sC ?_) | (apply gD; refine sD ?_) | fail)
    refine E_res1 (by rfl) (by rfl) ⟨bs, ⟨fun h => absurd h he, Nat.le_refl _⟩, rfl, rfl⟩ (Sub.trans Sb (fr_sub (v := .slice A n c)))
  subst he
  unfold rU at h
  rw [if_pos rfl] at h
  dsimp only at h
  repeat' (first | refine go ?_ | intro _ | (apply cG; first | refine cT ?_ | refine cF ?_ | refine cS (fun _ => ?_) fun _ => ?_) | (apply gW; refine sW ?_) | (apply gI; refine sI ?_) | (apply gE; refine sE ?_) | (apply gP; refine sP ?_) | (apply gC; refine sC ?_) | (apply gD; refine sD ?_) | fail)
  refine C_loopS (κ := Nat × Nat) [false, false, true, true, true, true, true, true, true, true, true, true, true, true, true, true, true, true, true, true, true, true, true, true, true, true, true, true, true, true, true, true, true, true, true, true, true, true, true, true, true, true, true, true, true, true, true, true, true, true, true, true, true, true, true, true, true, true, true, true, true, true, true, true, true, true, true, true, true, true] (fun k => [(3, .int .u64 (k.2 : Int)), (4, .int .u64 ((128 ^ k.1 : Nat) : Int)), (5, .int .i64 (k.1 : Int))]) (fun k => []) (fun k => k.1 ≤ 9 ∧ k.1 ≤ bs.length ∧ k.2 < 128 ^ k.1 ∧ rUi k.1 k.2 (bs.drop k.1) = (m, (bs', e'))) (fun k => bs.length - k.1) (0, 0) ⟨by decide, Nat.zero_le _, by decide, h⟩ ⟨rfl, rfl, rfl, trivial⟩ ?_
  rintro ⟨i, x⟩ u ⟨h9, hi, hx, hr⟩
  dsimp only at h9 hi hx hr
  ((try dsimp only); refine C_n ?_; (try simp only [Nat.reduceAdd, Nat.zero_add]))
  have hp9 : 128 ^ i ≤ 9223372036854775808 := by
    have : 128 ^ i ≤ 128 ^ 9 := Nat.pow_le_pow_right (by decide) h9
    have e9 : (128 : Nat) ^ 9 = 9223372036854775808 := by decide
    omega
  obtain ⟨un, hun⟩ : ∃ un, 128 ^ i = un := ⟨_, rfl⟩
  rw [hun] at hp9 hx ⊢
  by_cases hlt : i < bs.length
  rotate_left
  · rw [List.drop_of_length_le (by omega)] at hr
    simp only [rUi, Prod.mk.injEq] at hr
    obtain ⟨rfl, rfl, rfl⟩ := hr
    repeat' (first | refine go ?_ | intro _ | (apply cG; first | refine cT ?_ | refine cF ?_ | refine cS (fun _ => ?_) fun _ => ?_) | (apply gW; refine sW ?_) | (apply gI; refine sI ?_) | (apply gE; refine sE ?_) | (apply gP; refine sP ?_) | (apply gC; refine sC ?_) | (apply gD; refine sD ?_) | fail)
    refine E_res1 (by rfl) (by rfl) ⟨bs, ⟨fun h => absurd h (by decide), Nat.le_refl _⟩, rfl, rfl⟩ (Sub.trans Sb (fr_sub (v := .slice A n c)))
  obtain ⟨c8, hc8⟩ : ∃ c8, bs[i]? = some c8 := ⟨_, List.getElem?_eq_getElem hlt⟩
  have hac : At bs i c8 := ⟨hc8⟩
  have hc := c8.toNat_lt
  rw [drop_get hc8] at hr
  by_cases hf : (i = 9 ∧ 1 < c8.toNat) ∨ (0 < i ∧ c8.toNat = 0)
  · rw [rUi, if_pos hf] at hr
    simp only [Prod.mk.injEq] at hr
    obtain ⟨rfl, rfl, rfl⟩ := hr
    by_cases hi9 : i = 9
    · by_cases h1 : 1 < c8.toNat
      · repeat' (first | refine go ?_ | intro _ | (apply cG; first | refine cT ?_ | refine cF ?_ | refine cS (fun _ => ?_) fun _ => ?_) | (apply gW; refine sW ?_) | (apply gI; refine sI ?_) | (apply gE; refine sE ?_) | (apply gP; refine sP ?_) | (apply gC; refine sC ?_) | (apply gD; refine sD ?_) | fail)
        refine E_res1 (by rfl) (by rfl) ⟨bs, ⟨fun h => absurd h (by decide), Nat.le_refl _⟩, rfl, rfl⟩ (Sub.trans Sb (fr_sub (v := .slice A n c)))
      · repeat' (first | refine go ?_ | intro _ | (apply cG; first | refine cT ?_ | refine cF ?_ | refine cS (fun _ => ?_) fun _ => ?_) | (apply gW; refine sW ?_) | (apply gI; refine sI ?_) | (apply gE; refine sE ?_) | (apply gP; refine sP ?_) | (apply gC; refine sC ?_) | (apply gD; refine sD ?_) | fail)
        refine E_res1 (by rfl) (by rfl) ⟨bs, ⟨fun h => absurd h (by decide), Nat.le_refl _⟩, rfl, rfl⟩ (Sub.trans Sb (fr_sub (v := .slice A n c)))
    · repeat' (first | refine go ?_ | intro _ | (apply cG; first | refine cT ?_ | refine cF ?_ | refine cS (fun _ => ?_) fun _ => ?_) | (apply gW; refine sW ?_) | (apply gI; refine sI ?_) | (apply gE; refine sE ?_) | (apply gP; refine sP ?_) | (apply gC; refine sC ?_) | (apply gD; refine sD ?_) | fail)
      refine E_res1 (by rfl) (by rfl) ⟨bs, ⟨fun h => absurd h (by decide), Nat.le_refl _⟩, rfl, rfl⟩ (Sub.trans Sb (fr_sub (v := .slice A n c)))
  have h9' : i = 9 → c8.toNat ≤ 1 := fun h => by
    rcases Nat.lt_or_ge 1 c8.toNat with hh | hh
    · exact absurd (.inl ⟨h, hh⟩) hf
    · exact hh
  have hsh := shl_ok h9 h9'
  have hmul : ((c8.toNat : Int) % 128) * (un : Int) = ((c8.toNat % 128 * un : Nat) : Int) := by push_cast; rfl
  rw [hun] at hsh
  obtain ⟨y, hy⟩ : ∃ y, c8.toNat % 128 * un = y := ⟨_, rfl⟩
  rw [hy] at hsh hmul
  have hw2 : (x : Int) + (y : Int) = ((x + y : Nat) : Int) := by push_cast; rfl
  by_cases h128 : c8.toNat < 128
  · have hcm : c8.toNat % 128 = c8.toNat := Nat.mod_eq_of_lt h128
    rw [rUi, if_neg hf, if_pos h128, hun, ← hcm, hy] at hr
    simp only [Prod.mk.injEq] at hr
    obtain ⟨rfl, rfl, rfl⟩ := hr
    repeat' (first | refine go ?_ | intro _ | (apply cG; first | refine cT ?_ | refine cF ?_ | refine cS (fun _ => ?_) fun _ => ?_) | (apply gW; refine sW ?_) | (apply gI; refine sI ?_) | (apply gE; refine sE ?_) | (apply gP; refine sP ?_) | (apply gC; refine sC ?_) | (apply gD; refine sD ?_) | fail)
    all_goals
      rw [hmul, hw2]
      rename_i A2 c2
      have hdr : (bs.drop (i + 1)).take (n - (i + 1)) = bs.drop (i + 1) := List.take_of_length_le (by rw [List.length_drop]; omega)
      rw [hdr]
      refine E_res1 (by rfl) (by rfl) ⟨bs.drop (i + 1), ⟨fun _ => rfl, by rw [List.length_drop]; omega⟩, rfl, rfl⟩ (Sub.trans Sb (fr_sub (v := .slice A2 (n - (i + 1)) c2)))
  · rw [rUi_step hf h128, hun, hy] at hr
    have hi8 : i ≤ 8 := by
      rcases Nat.lt_or_ge i 9 with hh | hh
      · omega
      · have := h9' (by omega); omega
    have hp8 : 128 ^ i ≤ 128 ^ 8 := Nat.pow_le_pow_right (by decide) hi8
    have e8 : (128 : Nat) ^ 8 = 72057594037927936 := by decide
    rw [hun, e8] at hp8
    have hnext : 128 ^ (i + 1) = un * 128 := by rw [Nat.pow_succ, hun]
    have hyl : y ≤ 127 * un := by rw [← hy]; exact Nat.mul_le_mul_right _ (by omega)
    repeat' (first | refine go ?_ | intro _ | (apply cG; first | refine cT ?_ | refine cF ?_ | refine cS (fun _ => ?_) fun _ => ?_) | (apply gW; refine sW ?_) | (apply gI; refine sI ?_) | (apply gE; refine sE ?_) | (apply gP; refine sP ?_) | (apply gC; refine sC ?_) | (apply gD; refine sD ?_) | fail)
    all_goals
      rw [hmul, hw2]
      exact E_round (i + 1, x + y) ⟨by show i + 1 ≤ 9; omega, hlt, by show x + y < 128 ^ (i + 1); rw [hnext]; omega, hr⟩ (by show bs.length - (i + 1) < bs.length - i; omega) ⟨rfl, by show _ = Value.int .u64 ((128 ^ (i + 1) : Nat) : Int); rw [hnext]; push_cast; rfl, rfl, trivial⟩ Sb
end
section
variable {W0 : World} {L : List HP}
theorem fBack_ct {m : Nat} (hm : m < 18446744073709551616) : CT Try.prog 71 #[.int .u64 (m : Int)] W0 L fun r L' => r = .int .i64 (unzig m) ∧ L' = L := by
  refine CT_enter Try.func71 rfl ?_; (simp only [Try.ntmps71, List.size_toArray, List.length_cons, List.length_nil, Nat.reduceAdd, Nat.reduceSub, Array.replicate_succ, Array.replicate_zero, List.push_toArray, List.append_toArray, List.nil_append, List.cons_append])
  by_cases h : m % 2 = 1
  · have e : -((m : Int) / 2) - 1 = unzig m := by unfold unzig; rw [if_pos h]; push_cast; rfl
    repeat' (first | refine go ?_ | intro _ | (apply cG; first | refine cT ?_ | refine cF ?_ | refine cS (fun _ => ?_) fun _ => ?_) | (apply gW; refine sW ?_) | (apply gI; refine sI ?_) | (apply gE; refine sE ?_) | (apply gP; refine sP ?_) | (apply gC; refine sC ?_) | (apply gD; refine sD ?_) | fail)
    rw [e]
    refine E_res1 (by rfl) (by rfl) ⟨rfl, rfl⟩ Sb
  · have e : (m : Int) / 2 = unzig m := by unfold unzig; rw [if_neg h]; push_cast; rfl
    repeat' (first | refine go ?_ | intro _ | (apply cG; first | refine cT ?_ | refine cF ?_ | refine cS (fun _ => ?_) fun _ => ?_) | (apply gW; refine sW ?_) | (apply gI; refine sI ?_) | (apply gE; refine sE ?_) | (apply gP; refine sP ?_) | (apply gC; refine sC ?_) | (apply gD; refine sD ?_) | fail)
    rw [e]
    refine E_res1 (by rfl) (by rfl) ⟨rfl, rfl⟩ Sb
theorem fI_ct {p : Nat} {x : Int} {bs bs' : List UInt8} {e e' : Int} (h : rI (bs, e) = (x, (bs', e'))) (hl : bs.length ≤ 1000000000000) :
    CT Try.prog 58 #[.pointer (some ⟨p, 0, none⟩)] W0 (fr p bs e :: L) fun r L' => ∃ b, Kp bs bs' b e' ∧ r = .int .i64 x ∧ L' = fr p b e' :: L := by
  unfold rI at h
  simp only [Prod.mk.injEq] at h
  obtain ⟨rfl, h⟩ := h
  refine CT_enter Try.func58 rfl ?_; (simp only [Try.ntmps58, List.size_toArray, List.length_cons, List.length_nil, Nat.reduceAdd, Nat.reduceSub, Array.replicate_succ, Array.replicate_zero, List.push_toArray, List.append_toArray, List.nil_append, List.cons_append])
  repeat' (first | refine go ?_ | intro _ | (apply cG; first | refine cT ?_ | refine cF ?_ | refine cS (fun _ => ?_) fun _ => ?_) | (apply gW; refine sW ?_) | (apply gI; refine sI ?_) | (apply gE; refine sE ?_) | (apply gP; refine sP ?_) | (apply gC; refine sC ?_) | (apply gD; refine sD ?_) | fail)
  refine O_d (dy_call ArgsI.pf (by first | exact rfl | trivial | (intro a b; rfl)) (fU_ct (m := (rU (bs, e)).1) (bs' := bs') (e' := e') (by rw [← h]) hl)) ?_; rintro _ _ ⟨_, ⟨b, hk, rfl, rfl⟩, rfl⟩; refine O_n ?_
  repeat' (first | refine go ?_ | intro _ | (apply cG; first | refine cT ?_ | refine cF ?_ | refine cS (fun _ => ?_) fun _ => ?_) | (apply gW; refine sW ?_) | (apply gI; refine sI ?_) | (apply gE; refine sE ?_) | (apply gP; refine sP ?_) | (apply gC; refine sC ?_) | (apply gD; refine sD ?_) | fail)
  refine O_d (dy_call ArgsI.pf (by first | exact rfl | trivial | (intro a b; rfl)) (fBack_ct (rU_lt _))) ?_; rintro _ _ ⟨_, ⟨rfl, hLL⟩, rfl⟩; replace hLL := hLL.symm; subst hLL; refine O_n ?_
  repeat' (first | refine go ?_ | intro _ | (apply cG; first | refine cT ?_ | refine cF ?_ | refine cS (fun _ => ?_) fun _ => ?_) | (apply gW; refine sW ?_) | (apply gI; refine sI ?_) | (apply gE; refine sE ?_) | (apply gP; refine sP ?_) | (apply gC; refine sC ?_) | (apply gD; refine sD ?_) | fail)
  refine E_res1 (by rfl) (by rfl) ⟨b, hk, rfl, rfl⟩ Sb
theorem fEnd_ct {p : Nat} {bs : List UInt8} {e : Int} (hl : bs.length ≤ 1000000000000) :
    CT Try.prog 57 #[.pointer (some ⟨p, 0, none⟩)] W0 (fr p bs e :: L) fun r L' => r = .int .i64 (rEnd (bs, e)) ∧ L' = fr p bs e :: L := by
  refine fr_ct fun A n c hn hnc => ?_
  refine CT_enter Try.func57 rfl ?_; (simp only [Try.ntmps57, List.size_toArray, List.length_cons, List.length_nil, Nat.reduceAdd, Nat.reduceSub, Array.replicate_succ, Array.replicate_zero, List.push_toArray, List.append_toArray, List.nil_append, List.cons_append])
  unfold rEnd
  dsimp only
  by_cases he : e = 0
  · by_cases h0 : 0 < bs.length
    · rw [if_pos ⟨he, h0⟩]
      repeat' (first | refine go ?_ | intro _ | (apply cG; first | refine cT ?_ | refine cF ?_ | refine cS (fun _ => ?_) fun _ => ?_) | (apply gW; refine sW ?_) | (apply gI; refine sI ?_) | (apply gE; refine sE ?_) | (apply gP; refine sP ?_) | (apply gC; refine sC ?_) | (apply gD; refine sD ?_) | fail)
      refine E_res1 (by rfl) (by rfl) ⟨rfl, rfl⟩ (Sub.trans Sb (fr_sub (v := .slice A n c)))
    · rw [if_neg (fun h => h0 h.2)]
      repeat' (first | refine go ?_ | intro _ | (apply cG; first | refine cT ?_ | refine cF ?_ | refine cS (fun _ => ?_) fun _ => ?_) | (apply gW; refine sW ?_) | (apply gI; refine sI ?_) | (apply gE; refine sE ?_) | (apply gP; refine sP ?_) | (apply gC; refine sC ?_) | (apply gD; refine sD ?_) | fail)
      refine E_res1 (by rfl) (by rfl) ⟨rfl, rfl⟩ (Sub.trans Sb (fr_sub (v := .slice A n c)))
  · rw [if_neg (fun h => he h.1)]
    repeat' (first | refine go ?_ | intro _ | (apply cG; first | refine cT ?_ | refine cF ?_ | refine cS (fun _ => ?_) fun _ => ?_) | (apply gW; refine sW ?_) | (apply gI; refine sI ?_) | (apply gE; refine sE ?_) | (apply gP; refine sP ?_) | (apply gC; refine sC ?_) | (apply gD; refine sD ?_) | fail)
    refine E_res1 (by rfl) (by rfl) ⟨rfl, rfl⟩ (Sub.trans Sb (fr_sub (v := .slice A n c)))
/-- a length: m, or an error -/
theorem fLen_ct {p m : Nat} {bs b1 : List UInt8} {e e1 : Int} (h : rU (bs, e) = (m, (b1, e1))) (hl : bs.length ≤ 1000000000000) :
    CT Try.prog 70 #[.pointer (some ⟨p, 0, none⟩)] W0 (fr p bs e :: L) fun r L' => ∃ b e2 k, b.length ≤ bs.length ∧ ((e1 ≠ 0 ∧ e2 = e1 ∧ k = 0) ∨ (e1 = 0 ∧ b1.length < m ∧ e2 = 3 ∧ k = 0) ∨ (e1 = 0 ∧ m ≤ b1.length ∧ e2 = 0 ∧ b = b1 ∧ k = (m : Int))) ∧ r = .int .i64 k ∧ L' = fr p b e2 :: L := by
  refine CT_enter Try.func70 rfl ?_; (simp only [Try.ntmps70, List.size_toArray, List.length_cons, List.length_nil, Nat.reduceAdd, Nat.reduceSub, Array.replicate_succ, Array.replicate_zero, List.push_toArray, List.append_toArray, List.nil_append, List.cons_append])
  have hlen := rU_len (bs, e)
  rw [h] at hlen
  dsimp only at hlen
  repeat' (first | refine go ?_ | intro _ | (apply cG; first | refine cT ?_ | refine cF ?_ | refine cS (fun _ => ?_) fun _ => ?_) | (apply gW; refine sW ?_) | (apply gI; refine sI ?_) | (apply gE; refine sE ?_) | (apply gP; refine sP ?_) | (apply gC; refine sC ?_) | (apply gD; refine sD ?_) | fail)
  refine O_d (dy_call ArgsI.pf (by first | exact rfl | trivial | (intro a b; rfl)) (fU_ct h hl)) ?_; rintro _ _ ⟨_, ⟨b, hk, rfl, rfl⟩, rfl⟩; refine O_n ?_
  obtain ⟨hk1, hk2⟩ := hk
  repeat' (first | refine go ?_ | intro _ | (apply cG; first | refine cT ?_ | refine cF ?_ | refine cS (fun _ => ?_) fun _ => ?_) | (apply gW; refine sW ?_) | (apply gI; refine sI ?_) | (apply gE; refine sE ?_) | (apply gP; refine sP ?_) | (apply gC; refine sC ?_) | (apply gD; refine sD ?_) | fail)
  refine fr_open fun A n c hn hnc => ?_
  by_cases he : e1 = 0
  · have hb := hk1 he
    subst hb
    by_cases hlt : b.length < m
    · repeat' (first | refine go ?_ | intro _ | (apply cG; first | refine cT ?_ | refine cF ?_ | refine cS (fun _ => ?_) fun _ => ?_) | (apply gW; refine sW ?_) | (apply gI; refine sI ?_) | (apply gE; refine sE ?_) | (apply gP; refine sP ?_) | (apply gC; refine sC ?_) | (apply gD; refine sD ?_) | fail)
      refine E_res1 (by rfl) (by rfl) ⟨b, 3, 0, hk2, .inr (.inl ⟨he, hlt, rfl, rfl⟩), rfl, rfl⟩ (Sub.trans Sb (fr_sub (v := .slice A n c)))
    · repeat' (first | refine go ?_ | intro _ | (apply cG; first | refine cT ?_ | refine cF ?_ | refine cS (fun _ => ?_) fun _ => ?_) | (apply gW; refine sW ?_) | (apply gI; refine sI ?_) | (apply gE; refine sE ?_) | (apply gP; refine sP ?_) | (apply gC; refine sC ?_) | (apply gD; refine sD ?_) | fail)
      refine E_res1 (by rfl) (by rfl) ⟨b, e1, m, hk2, .inr (.inr ⟨he, by omega, he, rfl, rfl⟩), rfl, rfl⟩ (Sub.trans Sb (fr_sub (v := .slice A n c)))
  · repeat' (first | refine go ?_ | intro _ | (apply cG; first | refine cT ?_ | refine cF ?_ | refine cS (fun _ => ?_) fun _ => ?_) | (apply gW; refine sW ?_) | (apply gI; refine sI ?_) | (apply gE; refine sE ?_) | (apply gP; refine sP ?_) | (apply gC; refine sC ?_) | (apply gD; refine sD ?_) | fail)
    refine E_res1 (by rfl) (by rfl) ⟨b, e1, 0, hk2, .inl ⟨he, rfl, rfl⟩, rfl, rfl⟩ (Sub.trans Sb (fr_sub (v := .slice A n c)))
theorem fRawR_ct {p : Nat} {l bs bs' : List UInt8} {e e' : Int} (h : rList rNext (bs, e) = (l, (bs', e'))) (hl : bs.length ≤ 1000000000000) :
    CT Try.prog 55 #[.pointer (some ⟨p, 0, none⟩)] W0 (fr p bs e :: L) fun r L' => ∃ b A c, Kp bs bs' b e' ∧ r = .slice A l.length c ∧ L' = rd eB (.slice A l.length c) l :: fr p b e' :: L := by
  obtain ⟨m, b1, e1, hu⟩ : ∃ m b1 e1, rU (bs, e) = (m, (b1, e1)) := ⟨_, _, _, rfl⟩
  have hlen := rU_len (bs, e)
  rw [hu] at hlen
  dsimp only at hlen
  have hcs := rList_cases hu h
  refine CT_enter Try.func55 rfl ?_; (simp only [Try.ntmps55, List.size_toArray, List.length_cons, List.length_nil, Nat.reduceAdd, Nat.reduceSub, Array.replicate_succ, Array.replicate_zero, List.push_toArray, List.append_toArray, List.nil_append, List.cons_append])
  repeat' (first | refine go ?_ | intro _ | (apply cG; first | refine cT ?_ | refine cF ?_ | refine cS (fun _ => ?_) fun _ => ?_) | (apply gW; refine sW ?_) | (apply gI; refine sI ?_) | (apply gE; refine sE ?_) | (apply gP; refine sP ?_) | (apply gC; refine sC ?_) | (apply gD; refine sD ?_) | fail)
  refine O_d (dy_call ArgsI.pf (by first | exact rfl | trivial | (intro a b; rfl)) (fLen_ct hu hl)) ?_; rintro _ _ ⟨_, ⟨b, e2, k, hbl, hk, rfl, rfl⟩, rfl⟩; refine O_n ?_
  repeat' (first | refine go ?_ | intro _ | (apply cG; first | refine cT ?_ | refine cF ?_ | refine cS (fun _ => ?_) fun _ => ?_) | (apply gW; refine sW ?_) | (apply gI; refine sI ?_) | (apply gE; refine sE ?_) | (apply gP; refine sP ?_) | (apply gC; refine sC ?_) | (apply gD; refine sD ?_) | fail)
  refine fr_open fun A n c hn hnc => ?_
  rcases hk with ⟨h1, rfl, rfl⟩ | ⟨h1, h2, rfl, rfl⟩ | ⟨h1, h2, rfl, rfl, rfl⟩
  · rcases hcs with ⟨_, rfl, rfl⟩ | ⟨h0, _⟩ | ⟨h0, _⟩
    · repeat' (first | refine go ?_ | intro _ | (apply cG; first | refine cT ?_ | refine cF ?_ | refine cS (fun _ => ?_) fun _ => ?_) | (apply gW; refine sW ?_) | (apply gI; refine sI ?_) | (apply gE; refine sE ?_) | (apply gP; refine sP ?_) | (apply gC; refine sC ?_) | (apply gD; refine sD ?_) | fail)
      refine E_rdnil eB none 0 ?_
      refine E_res1 (by rfl) (by rfl) ⟨b, none, 0, ⟨fun h => absurd h h1, hbl⟩, rfl, rfl⟩ (Sub.trans Sb (sub_skip (fr_sub (v := .slice A n c))))
    · exact absurd h0 h1
    · exact absurd h0 h1
  · rcases hcs with ⟨h0, _⟩ | ⟨_, _, rfl, rfl⟩ | ⟨_, h3, _⟩
    · exact absurd h1 h0
    · repeat' (first | refine go ?_ | intro _ | (apply cG; first | refine cT ?_ | refine cF ?_ | refine cS (fun _ => ?_) fun _ => ?_) | (apply gW; refine sW ?_) | (apply gI; refine sI ?_) | (apply gE; refine sE ?_) | (apply gP; refine sP ?_) | (apply gC; refine sC ?_) | (apply gD; refine sD ?_) | fail)
      refine E_rdnil eB none 0 ?_
      refine E_res1 (by rfl) (by rfl) ⟨b, none, 0, ⟨fun h => absurd h (by decide), hbl⟩, rfl, rfl⟩ (Sub.trans Sb (sub_skip (fr_sub (v := .slice A n c))))
    · omega
  · rcases hcs with ⟨h0, _⟩ | ⟨_, h3, _⟩ | ⟨_, _, h4, h5⟩
    · exact absurd h1 h0
    · omega
    · rw [rMany_take m b h2] at h4 h5
      simp only [Prod.mk.injEq] at h4
      obtain ⟨rfl, rfl⟩ := h4
      rw [if_pos rfl] at h5
      subst h5
      repeat' (first | refine go ?_ | intro _ | (apply cG; first | refine cT ?_ | refine cF ?_ | refine cS (fun _ => ?_) fun _ => ?_) | (apply gW; refine sW ?_) | (apply gI; refine sI ?_) | (apply gE; refine sE ?_) | (apply gP; refine sP ?_) | (apply gC; refine sC ?_) | (apply gD; refine sD ?_) | fail)
      rename_i A2 c2 A3 c3
      have e1 : (b.drop 0).take m = b.take m := by rw [List.drop_zero]
      have e2 : (b.drop m).take (n - m) = b.drop m := List.take_of_length_le (by rw [List.length_drop]; omega)
      have e3 : m = (b.take m).length := by rw [List.length_take]; omega
      rw [e1, e2]
      refine E_res1 (by rfl) (by rfl) (L2 := rd eB (.slice A2 (b.take m).length c2) (b.take m) :: fr p (b.drop m) 0 :: L) ⟨b.drop m, A2, c2, ⟨fun _ => rfl, by rw [List.length_drop]; omega⟩, by rw [← e3], rfl⟩ ?_
      rw [← e3]
      exact Sub.trans Sb (sub_skip (fr_sub (v := .slice A3 (n - m) c3)))
end
end Go.Proofs.Ythbgmnoaaohbcaa
