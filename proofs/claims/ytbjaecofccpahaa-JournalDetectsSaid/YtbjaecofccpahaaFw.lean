/-
  Walks of the reference 02: what it writes.
-/
import Derived.Test.YtbjaecofccpahaaWx
namespace Go.Proofs.Ytbjaecofccpahaa
open Go Go.RowKit
set_option linter.unusedVariables false
set_option linter.unusedSimpArgs false
set_option maxRecDepth 20000
set_option synthInstance.maxSize 100000
set_option synthInstance.maxHeartbeats 400000
section
variable {W0 : World} {L : List HP}
theorem fUint_ct {m : Nat} (hm : m < 18446744073709551616) : CT Try.prog 49 #[.int .u64 (m : Int)] W0 L fun r L' => ∃ A c, r = .slice A (varint m).length c ∧ L' = own 5 eB (.slice A (varint m).length c) (varint m) :: L := by
  refine CT_enter Try.func49 rfl ?_; (simp only [Try.ntmps49, List.size_toArray, List.length_cons, List.length_nil, Nat.reduceAdd, Nat.reduceSub, Array.replicate_succ, Array.replicate_zero, List.push_toArray, List.append_toArray, List.nil_append, List.cons_append])
  have hvl := vlen hm
  repeat' (first | refine go ?_ | intro _ | (apply cG; first | refine cT ?_ | refine cF ?_ | refine cS (fun _ => ?_) fun _ => ?_) | (apply gW; refine sW ?_) | (apply gI; refine sI ?_) | (apply gE; refine sE ?_) | (apply gP; refine sP ?_) | (apply gC; refine sC ?_) | (apply gD; refine sD ?_) | fail)
  refine C_ownnil 5 eB ?_
  refine C_loopS (κ := Nat × Value × List UInt8) [true, false, false, true, true, true, true, true, true, true, true, true, true, true, true, false, false, false, false, false] (fun k => [(0, .int .u64 (k.1 : Int)), (3, k.2.1)]) (fun k => [(0, own 5 eB k.2.1 k.2.2)]) (fun k => k.1 < 18446744073709551616 ∧ (∃ A c, k.2.1 = .slice A k.2.2.length c) ∧ k.2.2 ++ varint k.1 = varint m) (fun k => k.1) (m, .slice none 0 0, []) ⟨hm, ⟨none, 0, rfl⟩, rfl⟩ ⟨rfl, rfl, trivial⟩ ?_
  rintro ⟨n, vo, out⟩ u ⟨hn, ⟨A, c, hvo⟩, hout⟩
  dsimp only at hn hvo hout
  subst hvo
  have hol : out.length ≤ 10 := by have := congrArg List.length hout; rw [List.length_append] at this; omega
  ((try dsimp only); refine C_n ?_; (try simp only [Nat.reduceAdd, Nat.zero_add]))
  by_cases hb : 127 < n
  · have e : (128 + (n : Int) % 128) = ((UInt8.ofNat (n % 128 + 128)).toNat : Int) := by rw [ofNat_toNat8 (by omega)]; omega
    repeat' (first | refine go ?_ | intro _ | (apply cG; first | refine cT ?_ | refine cF ?_ | refine cS (fun _ => ?_) fun _ => ?_) | (apply gW; refine sW ?_) | (apply gI; refine sI ?_) | (apply gE; refine sE ?_) | (apply gP; refine sP ?_) | (apply gC; refine sC ?_) | (apply gD; refine sD ?_) | fail)
    rw [e]
    refine O_d (dy_lit1 (R := eB) (UInt8.ofNat (n % 128 + 128)) (hcs := by rfl) (hel := fun _ _ _ => by rfl)) ?_; rintro _ _ ⟨_, rfl, rfl⟩; refine O_n ?_
    repeat' (first | refine go ?_ | intro _ | (apply cG; first | refine cT ?_ | refine cF ?_ | refine cS (fun _ => ?_) fun _ => ?_) | (apply gW; refine sW ?_) | (apply gI; refine sI ?_) | (apply gE; refine sE ?_) | (apply gP; refine sP ?_) | (apply gC; refine sC ?_) | (apply gD; refine sD ?_) | fail)
    rename_i A2 c2
    exact E_round (n / 128, .slice A2 (out.length + 1) c2, out ++ [UInt8.ofNat (n % 128 + 128)]) ⟨by show n / 128 < _; omega, ⟨A2, c2, by rw [List.length_append]; rfl⟩, by
      show (out ++ [UInt8.ofNat (n % 128 + 128)]) ++ varint (n / 128) = varint m
      rw [← hout, varint_big (by omega : ¬ n < 128), List.append_assoc]; rfl⟩ (by show n / 128 < n; omega) ⟨rfl, rfl, trivial⟩ Sb
  · have e : (n : Int) = ((UInt8.ofNat n).toNat : Int) := by rw [ofNat_toNat8 (by omega)]
    repeat' (first | refine go ?_ | intro _ | (apply cG; first | refine cT ?_ | refine cF ?_ | refine cS (fun _ => ?_) fun _ => ?_) | (apply gW; refine sW ?_) | (apply gI; refine sI ?_) | (apply gE; refine sE ?_) | (apply gP; refine sP ?_) | (apply gC; refine sC ?_) | (apply gD; refine sD ?_) | fail)
    rw [varint_small (by omega)] at hout
    obtain ⟨z, hz⟩ : ∃ z : UInt8, z = UInt8.ofNat n := ⟨_, rfl⟩
    rw [← hz] at e hout
    refine O_d (dy_lit1 (R := eB) z (cs := [bv z]) (hcs := by show [Value.int .u8 (n : Int)] = _; rw [e]) (hel := fun _ _ _ => by rfl)) ?_; rintro _ _ ⟨_, rfl, rfl⟩; refine O_n ?_
    repeat' (first | refine go ?_ | intro _ | (apply cG; first | refine cT ?_ | refine cF ?_ | refine cS (fun _ => ?_) fun _ => ?_) | (apply gW; refine sW ?_) | (apply gI; refine sI ?_) | (apply gE; refine sE ?_) | (apply gP; refine sP ?_) | (apply gC; refine sC ?_) | (apply gD; refine sD ?_) | fail)
    rw [hout]
    have hl : out.length + 1 = (varint m).length := by rw [← hout, List.length_append]; rfl
    rw [hl]
    refine E_res1 (by rfl) (by rfl) ⟨_, _, rfl, rfl⟩ Sb
theorem fZig_ct {n : Int} (h1 : -9223372036854775808 ≤ n) (h2 : n ≤ 9223372036854775807) : CT Try.prog 78 #[.int .i64 n] W0 L fun r L' => r = .int .u64 (zig n : Int) ∧ L' = L := by
  refine CT_enter Try.func78 rfl ?_; (simp only [Try.ntmps78, List.size_toArray, List.length_cons, List.length_nil, Nat.reduceAdd, Nat.reduceSub, Array.replicate_succ, Array.replicate_zero, List.push_toArray, List.append_toArray, List.nil_append, List.cons_append])
  by_cases h0 : n < 0
  · have e : 2 * -(n + 1) + 1 = ((zig n : Nat) : Int) := by unfold zig; rw [if_pos h0]; omega
    repeat' (first | refine go ?_ | intro _ | (apply cG; first | refine cT ?_ | refine cF ?_ | refine cS (fun _ => ?_) fun _ => ?_) | (apply gW; refine sW ?_) | (apply gI; refine sI ?_) | (apply gE; refine sE ?_) | (apply gP; refine sP ?_) | (apply gC; refine sC ?_) | (apply gD; refine sD ?_) | fail)
    rw [e]
    refine E_res1 (by rfl) (by rfl) ⟨rfl, rfl⟩ Sb
  · have e : 2 * n = ((zig n : Nat) : Int) := by unfold zig; rw [if_neg h0]; omega
    repeat' (first | refine go ?_ | intro _ | (apply cG; first | refine cT ?_ | refine cF ?_ | refine cS (fun _ => ?_) fun _ => ?_) | (apply gW; refine sW ?_) | (apply gI; refine sI ?_) | (apply gE; refine sE ?_) | (apply gP; refine sP ?_) | (apply gC; refine sC ?_) | (apply gD; refine sD ?_) | fail)
    rw [e]
    refine E_res1 (by rfl) (by rfl) ⟨rfl, rfl⟩ Sb
theorem fInt_ct {n : Int} (h1 : -9223372036854775808 ≤ n) (h2 : n ≤ 9223372036854775807) : CT Try.prog 64 #[.int .i64 n] W0 L fun r L' => ∃ A c, r = .slice A (varint (zig n)).length c ∧ L' = own 5 eB (.slice A (varint (zig n)).length c) (varint (zig n)) :: L := by
  refine CT_enter Try.func64 rfl ?_; (simp only [Try.ntmps64, List.size_toArray, List.length_cons, List.length_nil, Nat.reduceAdd, Nat.reduceSub, Array.replicate_succ, Array.replicate_zero, List.push_toArray, List.append_toArray, List.nil_append, List.cons_append])
  repeat' (first | refine go ?_ | intro _ | (apply cG; first | refine cT ?_ | refine cF ?_ | refine cS (fun _ => ?_) fun _ => ?_) | (apply gW; refine sW ?_) | (apply gI; refine sI ?_) | (apply gE; refine sE ?_) | (apply gP; refine sP ?_) | (apply gC; refine sC ?_) | (apply gD; refine sD ?_) | fail)
  refine O_d (dy_call ArgsI.pf (by first | exact rfl | trivial | (intro a b; rfl)) (fZig_ct h1 h2)) ?_; rintro _ _ ⟨_, ⟨rfl, hLL⟩, rfl⟩; replace hLL := hLL.symm; subst hLL; refine O_n ?_
  repeat' (first | refine go ?_ | intro _ | (apply cG; first | refine cT ?_ | refine cF ?_ | refine cS (fun _ => ?_) fun _ => ?_) | (apply gW; refine sW ?_) | (apply gI; refine sI ?_) | (apply gE; refine sE ?_) | (apply gP; refine sP ?_) | (apply gC; refine sC ?_) | (apply gD; refine sD ?_) | fail)
  refine O_d (dy_call ArgsI.pf (by first | exact rfl | trivial | (intro a b; rfl)) (fUint_ct (zig_lt h1 h2))) ?_; rintro _ _ ⟨_, ⟨A, c, rfl, rfl⟩, rfl⟩; refine O_n ?_
  repeat' (first | refine go ?_ | intro _ | (apply cG; first | refine cT ?_ | refine cF ?_ | refine cS (fun _ => ?_) fun _ => ?_) | (apply gW; refine sW ?_) | (apply gI; refine sI ?_) | (apply gE; refine sE ?_) | (apply gP; refine sP ?_) | (apply gC; refine sC ?_) | (apply gD; refine sD ?_) | fail)
  refine E_res1 (by rfl) (by rfl) ⟨_, _, rfl, rfl⟩ Sb
theorem fRaw_ct {v : Value} {l : List UInt8} (hv : Src L eB v l) (hl : l.length ≤ 1000000000000) : CT Try.prog 48 #[v] W0 L fun r L' => ∃ A c, r = .slice A (varint l.length ++ l).length c ∧ L' = own 5 eB (.slice A (varint l.length ++ l).length c) (varint l.length ++ l) :: L := by
  refine CT_fact (fun w s => (hv.sl s).form) ?_
  rintro ⟨A, cap, rfl, hcap⟩
  replace hv : Sc L (.slice A l.length cap) eB l := ⟨hv⟩
  have hvl := vlen (m := l.length) (by omega)
  refine CT_enter Try.func48 rfl ?_; (simp only [Try.ntmps48, List.size_toArray, List.length_cons, List.length_nil, Nat.reduceAdd, Nat.reduceSub, Array.replicate_succ, Array.replicate_zero, List.push_toArray, List.append_toArray, List.nil_append, List.cons_append])
  repeat' (first | refine go ?_ | intro _ | (apply cG; first | refine cT ?_ | refine cF ?_ | refine cS (fun _ => ?_) fun _ => ?_) | (apply gW; refine sW ?_) | (apply gI; refine sI ?_) | (apply gE; refine sE ?_) | (apply gP; refine sP ?_) | (apply gC; refine sC ?_) | (apply gD; refine sD ?_) | fail)
  refine O_d (dy_call ArgsI.pf (by first | exact rfl | trivial | (intro a b; rfl)) (fUint_ct (m := l.length) (by omega))) ?_; rintro _ _ ⟨_, ⟨A2, c2, rfl, rfl⟩, rfl⟩; refine O_n ?_
  repeat' (first | refine go ?_ | intro _ | (apply cG; first | refine cT ?_ | refine cF ?_ | refine cS (fun _ => ?_) fun _ => ?_) | (apply gW; refine sW ?_) | (apply gI; refine sI ?_) | (apply gE; refine sE ?_) | (apply gP; refine sP ?_) | (apply gC; refine sC ?_) | (apply gD; refine sD ?_) | fail)
  rw [← List.length_append]
  refine E_res1 (by rfl) (by rfl) ⟨_, _, rfl, rfl⟩ Sb
end
end Go.Proofs.Ytbjaecofccpahaa
