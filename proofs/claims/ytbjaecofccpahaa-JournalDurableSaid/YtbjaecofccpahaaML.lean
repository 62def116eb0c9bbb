/-
  Walks of package wire: the writer.
-/
import Derived.Outline
import Derived.Lib.Hide
import Derived.Deep.QuietTactic
import Derived.BigQuiet
import Derived.Deep.Cut
import Derived.Test.YtbjaecofccpahaaMC
import Derived.Test.YtbjaecofccpahaaMD
import Derived.Test.YtbjaecofccpahaaMK
import Derived.Test.YtbjaecofccpahaaMJ
import Derived.Test.YtbjaecofccpahaaMH
namespace Go.Proofs.Ytbjaecofccpahaa
open Go Go.RowKit
set_option linter.unusedVariables false
set_option linter.unusedSimpArgs false
/-- a writer at block p that holds bs -/
def wr (p : Nat) (bs : List UInt8) : HP := ex fun v => sp [cel p [v] 49, own 5 eB v bs]
theorem St.wro {p : Nat} {bs : List UInt8} {W0 w : World} {L : List HP} (hS : St W0 w (wr p bs :: L)) : ∃ v, St W0 w (cel p [v] 49 :: own 5 eB v bs :: L) := by
  obtain ⟨v, h⟩ := hS.ex_
  exact ⟨v, h.open_⟩
theorem St.wrc {p : Nat} {bs : List UInt8} {v : Value} {W0 w : World} {L : List HP} (hS : St W0 w (cel p [v] 49 :: own 5 eB v bs :: L)) : St W0 w (wr p bs :: L) :=
  St.mk_ex v (St.close_ (L := [cel p [v] 49, own 5 eB v bs]) hS)
theorem byte_small {m : UInt64} (h : m.toNat < 128) : Value.int .u8 (m.toNat : Int) = bv (UInt8.ofNat m.toNat) := by
  congr 1
  simp
  omega
theorem byte_big (m : UInt64) : Value.int .u8 (bits .or .u8 ((m.toNat : Int) % 256) 128) = bv (UInt8.ofNat (m.toNat % 128 + 128)) := by
  have h : ∀ k : Fin 256, bits .or .u8 (k.val : Int) 128 = (((UInt8.ofNat (k.val % 128 + 128)).toNat : Nat) : Int) := by decide +kernel
  have h2 := h ⟨m.toNat % 256, Nat.mod_lt _ (by omega)⟩
  have e1 : (m.toNat : Int) % 256 = ((m.toNat % 256 : Nat) : Int) := by omega
  have e2 : m.toNat % 256 % 128 = m.toNat % 128 := by omega
  rw [e1, h2, e2]
set_option maxRecDepth 8000 in
set_option maxHeartbeats 1000000 in
theorem wUint_any {W0 w : World} {L : List HP} {p : Nat} {bs : List UInt8} (hS : St W0 w (wr p bs :: L)) (n : UInt64) (hl : bs.length ≤ 100000000000000) :
    Calls Try.prog 30 #[.pointer (some ⟨p, 0, none⟩), uv n] w fun e w' => (∃ v, e = .returned v) ∧ St W0 w' (wr p (bs ++ varint n.toNat) :: L) := by
  go_enter Try.func30, Try.ntmps30
  go_wp2
  go_loopw [1] (fun x wr' => Hid (∃ (m : UInt64) (pre : List UInt8), x = uv m ∧ pre ++ varint m.toNat = varint n.toNat ∧ St W0 wr' (wr p (bs ++ pre) :: L))) (fun x _ => (intOf x).toNat)
  case atStart => exact Lib.hid ⟨n, [], rfl, rfl, by simpa using hS⟩
  case round =>
    clear hS
    obtain ⟨m, pre, rfl, hpre, hS⟩ := hrel.out
    clear hrel
    have hplen : pre.length ≤ 10 := by
      have h1 := congrArg List.length hpre
      rw [List.length_append, varint_len n.toNat] at h1
      have h2 := sizeV_le 10 n.toNat (Nat.lt_of_lt_of_le (u64_lt n) (by decide)) (by decide)
      omega
    replace hpre := Lib.hid hpre
    obtain ⟨v, hS⟩ := hS.wro
    by_cases hm : m.toNat < 128
    · have hge : decide ((128 : Int) ≤ (m.toNat : Int)) = false := by simp; omega
      go_wp2_with (first | ((with_reducible refine g_load ?_); refine wl_load hS (by rfl) (by rfl) (by rfl) (by repeat (first | exact .head _ | refine .tail _ ?_)) (by rfl) ?_) | ((with_reducible refine g_lit ?_); (with_reducible refine stop_op ?_)))
      refine (?_ : wpList _ _ _ _ _ _)
      refine L_push (el := (UInt8.ofNat m.toNat)) hS (by rfl) (fun _ => by rfl) (fun _ => (by conv => lhs; whnf)) (of_decide_eq_true (by rfl)) (by with_reducible first | exact at0 | exact at1 | exact at2 | exact at3 | exact at4 | exact at5 | exact at6 | exact at7 | exact at8 | exact at9 | exact at10 | exact at11 | exact at12) (by rfl) (by rfl) (by decide) (by decide) (fun _ _ _ => (congrArg (fun v => [v]) (byte_small hm) : [Value.int .u8 (m.toNat : Int)] = [bv (UInt8.ofNat m.toNat)])) (by (try simp); omega) ?_; clear hS; intro A A1 c w' hS; (try simp only [List.set_cons_zero, List.set_cons_succ] at hS)
      go_wp2_with ((with_reducible refine g_store ?_); refine wl_store hS (by rfl) (by rfl) (by rfl) (by rfl) (by rfl) (by with_reducible first | exact at0 | exact at1 | exact at2 | exact at3 | exact at4 | exact at5 | exact at6 | exact at7 | exact at8 | exact at9 | exact at10 | exact at11 | exact at12) (of_decide_eq_true (by rfl)) ?_; clear hS; intro w' hS; (try simp only [List.set_cons_zero, List.set_cons_succ] at hS); (try simp only [Act.eval, Act.put, List.setIfInBounds_toArray, List.set_cons_zero, List.set_cons_succ, Array.getD_eq_getD_getElem?, List.getElem?_toArray, List.getElem?_cons_succ, List.getElem?_cons_zero, Option.getD_some] at hS))
      refine bodyPost_end (results_none rfl _ _ _) rfl ⟨⟨_, rfl⟩, ?_⟩
      have hp := hpre.out
      rw [varint_small hm] at hp
      rw [← hp, ← List.append_assoc]
      rw [List.length_append] at hS
      exact hS.wrc
    · have hge : decide ((128 : Int) ≤ (m.toNat : Int)) = true := by simp; omega
      go_wp2_with (first | ((with_reducible refine g_load ?_); refine wl_load hS (by rfl) (by rfl) (by rfl) (by repeat (first | exact .head _ | refine .tail _ ?_)) (by rfl) ?_) | ((with_reducible refine g_lit ?_); (with_reducible refine stop_op ?_)))
      refine (?_ : wpList _ _ _ _ _ _)
      refine L_push (el := (UInt8.ofNat (m.toNat % 128 + 128))) hS (by rfl) (fun _ => by rfl) (fun _ => (by conv => lhs; whnf)) (of_decide_eq_true (by rfl)) (by with_reducible first | exact at0 | exact at1 | exact at2 | exact at3 | exact at4 | exact at5 | exact at6 | exact at7 | exact at8 | exact at9 | exact at10 | exact at11 | exact at12) (by rfl) (by rfl) (by decide) (by decide) (fun _ _ _ => (congrArg (fun v => [v]) (byte_big m) : [Value.int .u8 (bits .or .u8 ((m.toNat : Int) % 256) 128)] = [bv (UInt8.ofNat (m.toNat % 128 + 128))])) (by (try simp); omega) ?_; clear hS; intro A A1 c w' hS; (try simp only [List.set_cons_zero, List.set_cons_succ] at hS)
      go_wp2_with ((with_reducible refine g_store ?_); refine wl_store hS (by rfl) (by rfl) (by rfl) (by rfl) (by rfl) (by with_reducible first | exact at0 | exact at1 | exact at2 | exact at3 | exact at4 | exact at5 | exact at6 | exact at7 | exact at8 | exact at9 | exact at10 | exact at11 | exact at12) (of_decide_eq_true (by rfl)) ?_; clear hS; intro w' hS; (try simp only [List.set_cons_zero, List.set_cons_succ] at hS); (try simp only [Act.eval, Act.put, List.setIfInBounds_toArray, List.set_cons_zero, List.set_cons_succ, Array.getD_eq_getD_getElem?, List.getElem?_toArray, List.getElem?_cons_succ, List.getElem?_cons_zero, Option.getD_some] at hS))
      have hd : (m / 128).toNat = m.toNat / 128 := by rw [UInt64.toNat_div]; rfl
      go_roundw
      case rel =>
        refine Lib.hid ⟨m / 128, pre ++ [UInt8.ofNat (m.toNat % 128 + 128)], ?_, ?_, ?_⟩
        · show Value.int .u64 ((m.toNat : Int) / 128) = Value.int .u64 ((m / 128).toNat : Int)
          rw [hd]; rfl
        · have hp := hpre.out
          rw [varint_big hm] at hp
          rw [← hp, hd, List.append_assoc]
          rfl
        · rw [List.length_append] at hS
          rw [← List.append_assoc]
          exact hS.wrc
      case measure =>
        simp [intOf]
        omega
end Go.Proofs.Ytbjaecofccpahaa
namespace Go.Proofs.Ytbjaecofccpahaa
open Go Go.RowKit
set_option linter.unusedVariables false
set_option linter.unusedSimpArgs false
theorem ofIntI' (n : Int) : IntKind.u64.wrap n = ((UInt64.ofInt n).toNat : Int) := by
  rw [IntKind.wrap_u64]
  simp [UInt64.ofInt]
  omega
def zigU (n : Int) : UInt64 := UInt64.ofNat (zig n)
theorem xor_ones (a : UInt64) : ((a ^^^ 18446744073709551615).toNat : Int) = 18446744073709551615 - (a.toNat : Int) := by
  have e : a ^^^ 18446744073709551615 = ~~~a := by
    apply UInt64.eq_of_toBitVec_eq
    simp only [UInt64.toBitVec_xor, UInt64.toBitVec_not]
    have : (18446744073709551615 : UInt64).toBitVec = BitVec.allOnes 64 := by decide
    rw [this, BitVec.xor_allOnes]
  rw [e]
  have h := u64_lt a
  have h2 : (~~~a).toNat = 18446744073709551615 - a.toNat := by
    show (~~~a).toBitVec.toNat = _
    rw [UInt64.toBitVec_not, BitVec.toNat_not]
    rfl
  rw [h2]
  omega
theorem zig_walk {n : Int} (h1 : -9223372036854775808 ≤ n) (h2 : n ≤ 9223372036854775807) :
    (Value.int IntKind.u64 (bits BinOp.xor IntKind.u64 (IntKind.u64.wrap (IntKind.u64.wrap n * 2)) (IntKind.u64.wrap (n / 9223372036854775808)))) = uv (zigU n) := by
  obtain ⟨x, hx⟩ : ∃ x : UInt64, IntKind.u64.wrap (IntKind.u64.wrap n * 2) = (x.toNat : Int) := ⟨UInt64.ofInt (IntKind.u64.wrap n * 2), ofIntI' _⟩
  have hz : zig n < 18446744073709551616 := by unfold zig; split <;> omega
  have hzu : ((zigU n).toNat : Int) = (zig n : Int) := by unfold zigU; rw [UInt64.toNat_ofNat']; omega
  have hx2 := hx
  rw [IntKind.wrap_u64, IntKind.wrap_u64] at hx2
  rw [hx]
  congr 1
  by_cases hn : n < 0
  · have e : IntKind.u64.wrap (n / 9223372036854775808) = (((18446744073709551615 : UInt64)).toNat : Int) := by
      have : n / 9223372036854775808 = -1 := by omega
      rw [this]; decide
    rw [e, u64_xor, xor_ones, hzu]
    unfold zig
    rw [if_pos hn]
    omega
  · have e : IntKind.u64.wrap (n / 9223372036854775808) = (((0 : UInt64)).toNat : Int) := by
      have : n / 9223372036854775808 = 0 := by omega
      rw [this]; decide
    rw [e, u64_xor, hzu]
    unfold zig
    rw [if_neg hn, UInt64.xor_zero]
    omega
theorem zigzag_any (n : Int) (w : World) (h1 : -9223372036854775808 ≤ n) (h2 : n ≤ 9223372036854775807) :
    Calls Try.prog 53 #[iv n] w fun e w' => e = .returned (uv (zigU n)) ∧ w = w' := by
  go_enter Try.func53, Try.ntmps53
  go_wp2
  go_ret
  exact ⟨congrArg (fun v => Ending.returned v) (zig_walk h1 h2), rfl⟩
theorem wInt_any {W0 w : World} {L : List HP} {p : Nat} {bs : List UInt8} (hS : St W0 w (wr p bs :: L)) (n : Int) (h1 : -9223372036854775808 ≤ n) (h2 : n ≤ 9223372036854775807) (hl : bs.length ≤ 100000000000000) :
    Calls Try.prog 27 #[.pointer (some ⟨p, 0, none⟩), iv n] w fun e w' => (∃ v, e = .returned v) ∧ St W0 w' (wr p (bs ++ varint (zigU n).toNat) :: L) := by
  go_enter Try.func27, Try.ntmps27
  go_wp2_with (first | (go_at_call 53; refine (zigzag_any n _ h1 h2).mono ?_; rintro e w' ⟨rfl, rfl⟩) | (go_at_call 30; (with_reducible refine stop_op ?_)))
  refine (wUint_any hS (zigU n) hl).mono ?_
  rintro _ w' ⟨⟨v, rfl⟩, hS⟩
  go_wp2
  exact bodyPost_end (results_none rfl _ _ _) rfl ⟨⟨_, rfl⟩, hS⟩
end Go.Proofs.Ytbjaecofccpahaa
namespace Go.Proofs.Ytbjaecofccpahaa
open Go Go.RowKit
set_option linter.unusedVariables false
set_option linter.unusedSimpArgs false
set_option maxRecDepth 20000
set_option synthInstance.maxSize 100000
set_option synthInstance.maxHeartbeats 400000
section
variable {W0 : World} {L : List HP}
theorem Clone_ct {v : Value} {l : List UInt8} (hv : Src L eB v l) (hl : l.length ≤ 100000000000000) :
    CT Try.prog 44 #[v] W0 L fun r L' => ∃ A c, r = .slice A l.length c ∧ L' = own 5 eB (.slice A l.length c) l :: L := by
  refine CT_fact (fun w s => (hv.sl s).form) ?_
  rintro ⟨A, cap, rfl, hcap⟩
  cases A with
  | none =>
    refine CT_fact (fun w s => (hv.sl s).nil_of) ?_
    rintro rfl
    refine CT_enter Try.func44 rfl ?_; (simp only [Try.ntmps44, List.size_toArray, List.length_cons, List.length_nil, Nat.reduceAdd, Nat.reduceSub, Array.replicate_succ, Array.replicate_zero, List.push_toArray, List.append_toArray, List.nil_append, List.cons_append])
    repeat' (first | refine go ?_ | intro _ | (apply cG; first | refine cT ?_ | refine cF ?_ | refine cS (fun _ => ?_) fun _ => ?_) | (apply gW; refine sW ?_) | (apply gI; refine sI ?_) | (apply gE; refine sE ?_) | (apply gP; refine sP ?_) | (apply gC; refine sC ?_) | (apply gD; refine sD ?_) | fail)
    refine E_ownnil 5 eB ?_
    refine E_end1 (by rfl) (by rfl) Ev.pf ⟨none, 0, rfl, rfl⟩
  | some ad =>
    have hv : Sc L (.slice (some ad) l.length cap) eB l := ⟨hv⟩
    refine CT_enter Try.func44 rfl ?_; (simp only [Try.ntmps44, List.size_toArray, List.length_cons, List.length_nil, Nat.reduceAdd, Nat.reduceSub, Array.replicate_succ, Array.replicate_zero, List.push_toArray, List.append_toArray, List.nil_append, List.cons_append])
    repeat' (first | refine go ?_ | intro _ | (apply cG; first | refine cT ?_ | refine cF ?_ | refine cS (fun _ => ?_) fun _ => ?_) | (apply gW; refine sW ?_) | (apply gI; refine sI ?_) | (apply gE; refine sE ?_) | (apply gP; refine sP ?_) | (apply gC; refine sC ?_) | (apply gD; refine sD ?_) | fail)
    refine O_d (dy_lit0 eB rfl) ?_; rintro _ _ ⟨_, rfl, rfl⟩; refine O_n ?_
    repeat' (first | refine go ?_ | intro _ | (apply cG; first | refine cT ?_ | refine cF ?_ | refine cS (fun _ => ?_) fun _ => ?_) | (apply gW; refine sW ?_) | (apply gI; refine sI ?_) | (apply gE; refine sE ?_) | (apply gP; refine sP ?_) | (apply gC; refine sC ?_) | (apply gD; refine sD ?_) | fail)
    refine E_end1 (by rfl) (by rfl) Ev.pf ⟨_, _, rfl, rfl⟩
/-- a number of 64 bits, said by a natural number -/
theorem uvn {m : Nat} (h : m < 18446744073709551616) : Value.int .u64 (m : Int) = uv (UInt64.ofNat m) ∧ (UInt64.ofNat m).toNat = m := by
  have : (UInt64.ofNat m).toNat = m := by rw [UInt64.toNat_ofNat']; omega
  exact ⟨by rw [uv, this], this⟩
theorem wUint_ct {p m : Nat} {bs : List UInt8} (hm : m < 18446744073709551616) (hl : bs.length ≤ 100000000000000) :
    CT Try.prog 30 #[.pointer (some ⟨p, 0, none⟩), .int .u64 (m : Int)] W0 (wr p bs :: L) fun r L' => L' = wr p (bs ++ varint m) :: L := by
  refine ⟨fun w s => ?_⟩
  have := wUint_any s (UInt64.ofNat m) hl
  rw [← (uvn hm).1, (uvn hm).2] at this
  exact this.mono fun e w' ⟨⟨v, hv⟩, h⟩ => ⟨v, _, hv, rfl, h⟩
theorem wInt_ct {p : Nat} {n : Int} {bs : List UInt8} (h1 : -9223372036854775808 ≤ n) (h2 : n ≤ 9223372036854775807) (hl : bs.length ≤ 100000000000000) :
    CT Try.prog 27 #[.pointer (some ⟨p, 0, none⟩), .int .i64 n] W0 (wr p bs :: L) fun r L' => L' = wr p (bs ++ varint (zig n)) :: L := by
  refine ⟨fun w s => ?_⟩
  have := wInt_any s n h1 h2 hl
  rw [zigU, (uvn (m := zig n) (by unfold zig; split <;> omega)).2] at this
  exact this.mono fun e w' ⟨⟨v, hv⟩, h⟩ => ⟨v, _, hv, rfl, h⟩
theorem wr_open {ops : Array Oper} {Q : Exit → Act → World → Prop} {rest : List Oper} {a : Act} {p : Nat} {bs : List UInt8} (k : ∀ A c, OL Try.prog W0 (cel p [.slice A bs.length c] 49 :: own 5 eB (.slice A bs.length c) bs :: L) ops Q rest a) : OL Try.prog W0 (wr p bs :: L) ops Q rest a := by
  refine ⟨fun w s => ?_⟩
  obtain ⟨v, h⟩ := s.wro
  obtain ⟨A, c, rfl, _⟩ := (h.rdo (.tail _ (.head _))).form
  exact (k A c).run w h
theorem wr_sub {p : Nat} {v : Value} {bs : List UInt8} : Sub (cel p [v] 49 :: own 5 eB v bs :: L) (wr p bs :: L) := (sub_close (Ls := [cel p [v] 49, own 5 eB v bs])).trans (sub_ex (F := fun v => sp [cel p [v] 49, own 5 eB v bs]) v)
theorem wText_ct {p : Nat} {bs : List UInt8} (s : ByteArray) (hs : s.size ≤ 1000000000000) (hl : bs.length ≤ 1000000000000) :
    CT Try.prog 54 #[.pointer (some ⟨p, 0, none⟩), .string s] W0 (wr p bs :: L) fun r L' => L' = wr p (bs ++ varint s.size ++ s.data.toList) :: L := by
  have hv := sizeV_le 10 s.size (Nat.lt_of_le_of_lt hs (by decide)) (by decide)
  rw [← varint_len] at hv
  refine CT_enter Try.func54 rfl ?_; (simp only [Try.ntmps54, List.size_toArray, List.length_cons, List.length_nil, Nat.reduceAdd, Nat.reduceSub, Array.replicate_succ, Array.replicate_zero, List.push_toArray, List.append_toArray, List.nil_append, List.cons_append])
  repeat' (first | refine go ?_ | intro _ | (apply cG; first | refine cT ?_ | refine cF ?_ | refine cS (fun _ => ?_) fun _ => ?_) | (apply gW; refine sW ?_) | (apply gI; refine sI ?_) | (apply gE; refine sE ?_) | (apply gP; refine sP ?_) | (apply gC; refine sC ?_) | (apply gD; refine sD ?_) | fail)
  refine O_d (dy_call ArgsI.pf (by first | exact rfl | trivial | (intro a b; rfl)) (wUint_ct (by omega) (by omega))) ?_; rintro _ _ ⟨_, rfl, rfl⟩; refine O_n ?_
  repeat' (first | refine go ?_ | intro _ | (apply cG; first | refine cT ?_ | refine cF ?_ | refine cS (fun _ => ?_) fun _ => ?_) | (apply gW; refine sW ?_) | (apply gI; refine sI ?_) | (apply gE; refine sE ?_) | (apply gP; refine sP ?_) | (apply gC; refine sC ?_) | (apply gD; refine sD ?_) | fail)
  refine wr_open fun A c => ?_
  repeat' (first | refine go ?_ | intro _ | (apply cG; first | refine cT ?_ | refine cF ?_ | refine cS (fun _ => ?_) fun _ => ?_) | (apply gW; refine sW ?_) | (apply gI; refine sI ?_) | (apply gE; refine sE ?_) | (apply gP; refine sP ?_) | (apply gC; refine sC ?_) | (apply gD; refine sD ?_) | fail)
  refine E_sub wr_sub ?_
  refine E_end0 (by first | exact .inl rfl | exact .inr rfl) (by rfl) (by rfl) rfl
theorem wRaw_ct {p : Nat} {v : Value} {l bs : List UInt8} (hv : Src L eB v l) (hs : l.length ≤ 1000000000000) (hl : bs.length ≤ 1000000000000) :
    CT Try.prog 28 #[.pointer (some ⟨p, 0, none⟩), v] W0 (wr p bs :: L) fun r L' => L' = wr p (bs ++ varint l.length ++ l) :: L := by
  replace hv : Sc L v eB l := ⟨hv⟩
  refine CT_enter Try.func28 rfl ?_; (simp only [Try.ntmps28, List.size_toArray, List.length_cons, List.length_nil, Nat.reduceAdd, Nat.reduceSub, Array.replicate_succ, Array.replicate_zero, List.push_toArray, List.append_toArray, List.nil_append, List.cons_append])
  repeat' (first | refine go ?_ | intro _ | (apply cG; first | refine cT ?_ | refine cF ?_ | refine cS (fun _ => ?_) fun _ => ?_) | (apply gW; refine sW ?_) | (apply gI; refine sI ?_) | (apply gE; refine sE ?_) | (apply gP; refine sP ?_) | (apply gC; refine sC ?_) | (apply gD; refine sD ?_) | fail)
  refine O_d (dy_call ArgsI.pf (by first | exact rfl | trivial | (intro a b; rfl)) (wText_ct ⟨l.toArray⟩ (by show l.toArray.size ≤ _; simpa using hs) hl)) ?_; rintro _ _ ⟨_, rfl, rfl⟩; refine O_n ?_
  repeat' (first | refine go ?_ | intro _ | (apply cG; first | refine cT ?_ | refine cF ?_ | refine cS (fun _ => ?_) fun _ => ?_) | (apply gW; refine sW ?_) | (apply gI; refine sI ?_) | (apply gE; refine sE ?_) | (apply gP; refine sP ?_) | (apply gC; refine sC ?_) | (apply gD; refine sD ?_) | fail)
  refine E_end0 (by first | exact .inl rfl | exact .inr rfl) (by rfl) (by rfl) rfl
theorem wDone_ct {p : Nat} {bs : List UInt8} (hl : bs.length ≤ 100000000000000) :
    CT Try.prog 29 #[.pointer (some ⟨p, 0, none⟩)] W0 (wr p bs :: L) fun r L' => ∃ A c, r = .slice A bs.length c ∧ L' = own 5 eB (.slice A bs.length c) bs :: wr p bs :: L := by
  refine CT_enter Try.func29 rfl ?_; (simp only [Try.ntmps29, List.size_toArray, List.length_cons, List.length_nil, Nat.reduceAdd, Nat.reduceSub, Array.replicate_succ, Array.replicate_zero, List.push_toArray, List.append_toArray, List.nil_append, List.cons_append])
  repeat' (first | refine go ?_ | intro _ | (apply cG; first | refine cT ?_ | refine cF ?_ | refine cS (fun _ => ?_) fun _ => ?_) | (apply gW; refine sW ?_) | (apply gI; refine sI ?_) | (apply gE; refine sE ?_) | (apply gP; refine sP ?_) | (apply gC; refine sC ?_) | (apply gD; refine sD ?_) | fail)
  refine wr_open fun A c => ?_
  repeat' (first | refine go ?_ | intro _ | (apply cG; first | refine cT ?_ | refine cF ?_ | refine cS (fun _ => ?_) fun _ => ?_) | (apply gW; refine sW ?_) | (apply gI; refine sI ?_) | (apply gE; refine sE ?_) | (apply gP; refine sP ?_) | (apply gC; refine sC ?_) | (apply gD; refine sD ?_) | fail)
  refine O_d (dy_call ArgsI.pf (by first | exact rfl | trivial | (intro a b; rfl)) (Clone_ct Sc.pf hl)) ?_; rintro _ _ ⟨_, ⟨A', c', rfl, rfl⟩, rfl⟩; refine O_n ?_
  repeat' (first | refine go ?_ | intro _ | (apply cG; first | refine cT ?_ | refine cF ?_ | refine cS (fun _ => ?_) fun _ => ?_) | (apply gW; refine sW ?_) | (apply gI; refine sI ?_) | (apply gE; refine sE ?_) | (apply gP; refine sP ?_) | (apply gC; refine sC ?_) | (apply gD; refine sD ?_) | fail)
  refine E_sub (sub_skip wr_sub) ?_
  refine E_end1 (by rfl) (by rfl) Ev.pf ⟨_, _, rfl, rfl⟩
/-- the encodings of a list's numbers -/
def encI (l : List Int) : List UInt8 := (l.map fun n => varint (zig n)).flatten
theorem encI_snoc (l : List Int) (n : Int) : encI (l ++ [n]) = encI l ++ varint (zig n) := by simp [encI]
theorem zig_lt {n : Int} (h1 : -9223372036854775808 ≤ n) (h2 : n ≤ 9223372036854775807) : zig n < 18446744073709551616 := by unfold zig; split <;> omega
theorem vlen {m : Nat} (h : m < 18446744073709551616) : (varint m).length ≤ 10 := by
  rw [varint_len]; exact sizeV_le 10 m (Nat.lt_of_lt_of_le h (by decide)) (by decide)
theorem encI_len : ∀ {l : List Int}, (∀ n ∈ l, -9223372036854775808 ≤ n ∧ n ≤ 9223372036854775807) → (encI l).length ≤ 10 * l.length
  | [], _ => by simp [encI]
  | n :: l, h => by
    have h1 := encI_len (l := l) fun x hx => h x (.tail _ hx)
    have h2 := h n (.head _)
    have h3 := vlen (zig_lt h2.1 h2.2)
    simp only [encI, List.map_cons, List.flatten_cons, List.length_append, List.length_cons] at *
    omega
theorem take_snoc' {α : Type} {l : List α} {k : Nat} {x : α} (h : l[k]? = some x) : l.take (k + 1) = l.take k ++ [x] := by
  rw [List.take_add_one, h]; rfl
end
end Go.Proofs.Ytbjaecofccpahaa
namespace Go.Proofs.Ytbjaecofccpahaa
open Go Go.RowKit
set_option linter.unusedVariables false
set_option linter.unusedSimpArgs false
/-- a file: its bytes and where they lie, how many are durable -/
structure DF where
  v : Value
  b : List UInt8
  d : Int
def mDF : MEnc DF := ⟨fun x => .agg #[x.v, .int .i64 x.d], fun x => slI eB x.v x.b⟩
theorem mDF_val (x : DF) : mDF.val x = .agg #[x.v, .int .i64 x.d] := rfl
structure DK where
  files : List (Int × DF)
  room : Int
  off : Bool
  armed : Bool
  left : Int
def usedL (l : List (Int × DF)) : Nat := (l.map fun p => p.2.b.length).sum
/-- what has been counted -/
def usd : List Bool → List (Int × DF) → Nat
  | true :: fl, p :: l => p.2.b.length + usd fl l
  | false :: fl, _ :: l => usd fl l
  | _, _ => 0
theorem usd_none : ∀ (l : List (Int × DF)), usd (List.replicate l.length false) l = 0
  | [] => rfl
  | p :: l => by rw [List.length_cons, List.replicate_succ]; exact usd_none l
theorem usd_all : ∀ {fl : List Bool} {l : List (Int × DF)}, fl.length = l.length → (∀ f ∈ fl, f = true) → usd fl l = usedL l
  | [], [], _, _ => rfl
  | f :: fl, p :: l, h, ha => by
    have hf := ha f (.head _)
    subst hf
    have := usd_all (fl := fl) (l := l) (by simpa using h) fun g hg => ha g (.tail _ hg)
    show p.2.b.length + usd fl l = _
    rw [this]
    rfl
  | [], _ :: _, h, _ => by simp at h
  | _ :: _, [], h, _ => by simp at h
theorem usd_set : ∀ {fl : List Bool} {l : List (Int × DF)} {j : Nat} {p : Int × DF}, fl[j]? = some false → l[j]? = some p → usd (fl.set j true) l = usd fl l + p.2.b.length
  | f :: fl, q :: l, 0, p, h, hp => by
    simp only [List.getElem?_cons_zero, Option.some.injEq] at h hp
    subst h hp
    show q.2.b.length + usd fl l = usd fl l + q.2.b.length
    omega
  | f :: fl, q :: l, j + 1, p, h, hp => by
    rw [List.getElem?_cons_succ] at h hp
    have := usd_set h hp
    cases f
    · exact this
    · show q.2.b.length + usd (fl.set j true) l = q.2.b.length + usd fl l + p.2.b.length
      rw [this]
      omega
  | [], _, _, _, h, _ => by simp at h
  | _ :: _, [], _, _, _, h => by simp at h
theorem usd_le : ∀ (fl : List Bool) (l : List (Int × DF)), usd fl l ≤ usedL l
  | true :: fl, p :: l => by
    have := usd_le fl l
    show p.2.b.length + usd fl l ≤ p.2.b.length + usedL l
    omega
  | false :: fl, p :: l => by
    have := usd_le fl l
    show usd fl l ≤ p.2.b.length + usedL l
    omega
  | [], _ => by simp [usd]
  | true :: _, [] => by simp [usd]
  | false :: _, [] => by simp [usd]
theorem used_mem {l : List (Int × DF)} {j : Nat} {p : Int × DF} : l[j]? = some p → p.2.b.length ≤ usedL l := by
  induction l generalizing j with
  | nil => intro h; simp at h
  | cons q l ih =>
    intro h
    show _ ≤ q.2.b.length + usedL l
    cases j with
    | zero =>
      simp only [List.getElem?_cons_zero, Option.some.injEq] at h
      subst h
      omega
    | succ j =>
      have := ih (j := j) (by simpa using h)
      omega
theorem left_lt {fl : List Bool} {j : Nat} (h : fl[j]? = some false) : (fl.set j true).count false < fl.count false := by
  induction fl generalizing j with
  | nil => simp at h
  | cons f fl ih =>
    cases j with
    | zero =>
      simp only [List.getElem?_cons_zero, Option.some.injEq] at h
      subst h
      simp
    | succ j =>
      have := ih (j := j) (by simpa using h)
      rw [List.set_cons_succ, List.count_cons, List.count_cons]
      omega
def KeysOk (l : List (Int × DF)) : Prop := (l.map Prod.fst).Nodup
theorem posM_at {k : Int} {x : DF} : ∀ {l : List (Int × DF)} {j i : Nat}, KeysOk l → l[j]? = some (k, x) → posM k l i = some (i + j, x)
  | p :: l, 0, i, _, h => by
    simp only [List.getElem?_cons_zero, Option.some.injEq] at h
    subst h
    unfold posM
    rw [if_pos rfl]
    rfl
  | p :: l, j + 1, i, hk, h => by
    rw [List.getElem?_cons_succ] at h
    have hk2 := List.nodup_cons.1 hk
    have hne : ¬ k = p.1 := fun e => hk2.1 (e ▸ List.mem_map.2 ⟨(k, x), List.mem_of_getElem? h, rfl⟩)
    unfold posM
    rw [if_neg hne, posM_at hk2.2 h]
    congr 2
    omega
  | [], _, _, _, h => by simp at h
/-- files with every byte durable -/
def hardP (p : Int × DF) : Int × DF := (p.1, { p.2 with d := p.2.b.length })
def hardL (l : List (Int × DF)) : List (Int × DF) := l.map hardP
def hrd : List Bool → List (Int × DF) → List (Int × DF)
  | true :: fl, p :: l => hardP p :: hrd fl l
  | false :: fl, p :: l => p :: hrd fl l
  | _, l => l
theorem hrd_none : ∀ (l : List (Int × DF)), hrd (List.replicate l.length false) l = l
  | [] => rfl
  | p :: l => by rw [List.length_cons, List.replicate_succ]; show p :: hrd _ l = _; rw [hrd_none l]
theorem hrd_all : ∀ {fl : List Bool} {l : List (Int × DF)}, fl.length = l.length → (∀ f ∈ fl, f = true) → hrd fl l = hardL l
  | [], [], _, _ => rfl
  | f :: fl, p :: l, h, ha => by
    have hf := ha f (.head _)
    subst hf
    have := hrd_all (fl := fl) (l := l) (by simpa using h) fun g hg => ha g (.tail _ hg)
    show hardP p :: hrd fl l = _
    rw [this]
    rfl
  | [], _ :: _, h, _ => by simp at h
  | _ :: _, [], h, _ => by simp at h
theorem hrd_len : ∀ (fl : List Bool) (l : List (Int × DF)), (hrd fl l).length = l.length
  | true :: fl, p :: l => by show (hrd fl l).length + 1 = l.length + 1; rw [hrd_len fl l]
  | false :: fl, p :: l => by show (hrd fl l).length + 1 = l.length + 1; rw [hrd_len fl l]
  | [], _ => rfl
  | true :: _, [] => rfl
  | false :: _, [] => rfl
theorem hrd_keys : ∀ (fl : List Bool) (l : List (Int × DF)), (hrd fl l).map Prod.fst = l.map Prod.fst
  | true :: fl, p :: l => by show p.1 :: (hrd fl l).map Prod.fst = p.1 :: l.map Prod.fst; rw [hrd_keys fl l]
  | false :: fl, p :: l => by show p.1 :: (hrd fl l).map Prod.fst = p.1 :: l.map Prod.fst; rw [hrd_keys fl l]
  | [], _ => rfl
  | true :: _, [] => rfl
  | false :: _, [] => rfl
theorem hrd_at : ∀ {fl : List Bool} {l : List (Int × DF)} {j : Nat} {p : Int × DF}, fl[j]? = some false → (hrd fl l)[j]? = some p → (hrd fl l).set j (hardP p) = hrd (fl.set j true) l
  | f :: fl, q :: l, 0, p, h, hp => by
    simp only [List.getElem?_cons_zero, Option.some.injEq] at h
    subst h
    have : q = p := by simpa [hrd] using hp
    subst this
    rfl
  | f :: fl, q :: l, j + 1, p, h, hp => by
    rw [List.getElem?_cons_succ] at h
    cases f
    · show q :: (hrd fl l).set j (hardP p) = q :: hrd (fl.set j true) l
      rw [hrd_at h (by simpa [hrd] using hp)]
    · show hardP q :: (hrd fl l).set j (hardP p) = hardP q :: hrd (fl.set j true) l
      rw [hrd_at h (by simpa [hrd] using hp)]
  | [], _, _, _, h, _ => by simp at h
  | _ :: _, [], _, _, _, h => by simp [hrd] at h
theorem hrd_used : ∀ (fl : List Bool) (l : List (Int × DF)), usedL (hrd fl l) = usedL l
  | true :: fl, p :: l => by show p.2.b.length + usedL (hrd fl l) = p.2.b.length + usedL l; rw [hrd_used fl l]
  | false :: fl, p :: l => by show p.2.b.length + usedL (hrd fl l) = p.2.b.length + usedL l; rw [hrd_used fl l]
  | [], _ => rfl
  | true :: _, [] => rfl
  | false :: _, [] => rfl
/-- a step: what becomes of the disk, and whether the power is still on -/
def stepF (d : DK) : DK × Bool :=
  if d.armed then (if d.left - 1 < 0 then ({ d with left := d.left - 1, off := true, armed := false }, false) else ({ d with left := d.left - 1 }, !d.off)) else (d, true)
def setF (n : Int) (x : DF) (l : List (Int × DF)) : List (Int × DF) := if x.b.length = 0 then delM n (putM n x l) else putM n x l
/-- a file; one that is not there is empty -/
def fileF (n : Int) (l : List (Int × DF)) : DF := match posM n l 0 with
  | some q => q.2
  | none => ⟨.slice none 0 0, [], 0⟩
theorem fileF_val (n : Int) (l : List (Int × DF)) : ((posM n l 0).map fun q => mDF.val q.2).getD (.agg #[.slice none 0 0, .int .i64 0]) = mDF.val (fileF n l) := by
  unfold fileF
  cases posM n l 0 <;> rfl
theorem stepF_files (d : DK) : (stepF d).1.files = d.files := by
  unfold stepF
  split
  · split <;> rfl
  · rfl
def syncF (d : DK) : DK × Int := if d.off then (d, 21) else match stepF d with
  | (d2, s) => if s then ({ d2 with files := hardL d2.files }, 0) else (d2, 21)
/-- Truncate, of a file that is there, to a size that it has -/
def truncF (d : DK) (n : Int) (N : Nat) (y : Value) : DK × Int := if d.off then (d, 21) else match stepF d with
  | (d2, s) => if s then ({ d2 with files := setF n ⟨y, (fileF n d.files).b.take N, min (fileF n d.files).d (N : Int)⟩ d2.files }, 0) else (d2, 21)
/-- Append; y: where the bytes lie then -/
def appF (d : DK) (n : Int) (b : List UInt8) (y : Value) : DK × Int :=
  if 0 ≤ n ∧ n < 64 then
    if d.off then (d, 21) else if d.room - usedL d.files < b.length then (d, 20) else
      let s := stepF { d with files := setF n ⟨y, (fileF n d.files).b ++ b, (fileF n d.files).d⟩ d.files }
      (s.1, if s.2 then 0 else 21)
  else (d, 1)
section
variable {W0 : World} {L : List HP}
def dskG (R : MEnc DF) (p : Nat) (d : DK) : HP := ex fun b => sp [cel p [.map (some b), .int .i64 d.room, .bool d.off, .bool d.armed, .int .i64 d.left] 73, mapo R b d.files]
abbrev dsk (p : Nat) (d : DK) : HP := dskG mDF p d
theorem dsk_sub {p b : Nat} {R : MEnc DF} {d : DK} : Sub (cel p [.map (some b), .int .i64 d.room, .bool d.off, .bool d.armed, .int .i64 d.left] 73 :: mapo R b d.files :: L) (dskG R p d :: L) :=
  (sub_close (Ls := [cel p [.map (some b), .int .i64 d.room, .bool d.off, .bool d.armed, .int .i64 d.left] 73, mapo R b d.files])).trans (sub_ex (F := fun b => sp [cel p [.map (some b), .int .i64 d.room, .bool d.off, .bool d.armed, .int .i64 d.left] 73, mapo R b d.files]) b)
theorem dsk_ct {f : FuncId} {args : Array Value} {R' : Value → List HP → Prop} {p : Nat} {R : MEnc DF} {d : DK}
    (k : ∀ b, CT Try.prog f args W0 (cel p [.map (some b), .int .i64 d.room, .bool d.off, .bool d.armed, .int .i64 d.left] 73 :: mapo R b d.files :: L) R') : CT Try.prog f args W0 (dskG R p d :: L) R' := by
  refine ⟨fun w st => ?_⟩
  obtain ⟨b, h⟩ := st.ex_
  exact (k b).run w h.open_
theorem dsk_O {ops : Array Oper} {Q : Exit → Act → World → Prop} {rest : List Oper} {a : Act} {p : Nat} {R : MEnc DF} {d : DK} (i : Nat) (hi : L[i]? = some (dskG R p d))
    (k : ∀ b, OL Try.prog W0 (cel p [.map (some b), .int .i64 d.room, .bool d.off, .bool d.armed, .int .i64 d.left] 73 :: mapo R b d.files :: L.eraseIdx i) ops Q rest a) : OL Try.prog W0 L ops Q rest a := by
  refine ⟨fun w st => ?_⟩
  obtain ⟨b, h⟩ := (st.at_ hi).ex_
  exact (k b).run w h.open_
theorem dsk_C {c : Code} {Q : Exit → Act → World → Prop} {a : Act} {p : Nat} {R : MEnc DF} {d : DK} (i : Nat) (hi : L[i]? = some (dskG R p d))
    (k : ∀ b, CL Try.prog W0 (cel p [.map (some b), .int .i64 d.room, .bool d.off, .bool d.armed, .int .i64 d.left] 73 :: mapo R b d.files :: L.eraseIdx i) c Q a) : CL Try.prog W0 L c Q a := by
  refine ⟨fun w st => ?_⟩
  obtain ⟨b, h⟩ := (st.at_ hi).ex_
  exact (k b).run w h.open_
theorem rngo_imp {α : Type} {R : MEnc α} {b r j : Nat} {l : List (Int × α)} {fl : List Bool} {cur : Option Nat} {p : Int × α} (hm : rngo R b r l fl cur ∈ L) (hp : l[j]? = some p) : Sub L (im (R.im p.2) :: L) := fun m h s => by
  obtain ⟨a, _, es, clock, since, seen, c0, _, ha, _⟩ := s.mem hm
  obtain ⟨e, _, he⟩ := ha.get hp
  exact ⟨Hp.none, h, Hp.none_dj _, Hp.none_le _, Hp.le_refl _, he.2.2, s⟩
theorem CT.into {P : Program} {f : FuncId} {args : Array Value} {R R' : Value → List HP → Prop} (h : CT P f args W0 L R) (k : ∀ v L', R v L' → ∃ L2, R' v L2 ∧ Sub L' L2) : CT P f args W0 L R' :=
  ⟨fun w s => Calls.mono (h.run w s) fun e w' ⟨v, L', h1, h2, h3⟩ => let ⟨L2, h4, h5⟩ := k v L' h2; ⟨v, L2, h1, h4, h5.st h3⟩⟩
theorem file_sub {b : Nat} {k : Int} {l : List (Int × DF)} (hm : mapo mDF b l ∈ L) : Sub L (rd eB (fileF k l).v (fileF k l).b :: L) := by
  cases hq : posM k l 0 with
  | none =>
    have e : fileF k l = ⟨.slice none 0 0, [], 0⟩ := by unfold fileF; rw [hq]
    rw [e]
    exact fun m h s => ⟨Hp.none, h, Hp.none_dj _, Hp.none_le _, Hp.le_refl _, Sl.nil _ _ _ _, s⟩
  | some q =>
    have e : fileF k l = q.2 := by unfold fileF; rw [hq]
    rw [e]
    exact mapo_imp hm hq
theorem file_imp {b j : Nat} {k : Int} {l : List (Int × DF)} {q : Nat × DF} (hm : mapo mDF b l ∈ L) (hq : posM k l 0 = some q) : Sub L (rd eB q.2.v q.2.b :: L) := mapo_imp hm hq
end
end Go.Proofs.Ytbjaecofccpahaa
namespace Go.Proofs.Ytbjaecofccpahaa
open Go Go.RowKit
set_option linter.unusedVariables false
set_option linter.unusedSimpArgs false
set_option maxRecDepth 20000
set_option synthInstance.maxSize 100000
set_option synthInstance.maxHeartbeats 400000
/-- a slice of bytes with its value -/
structure SB where
  v : Value
  b : List UInt8
theorem Sl.one2 {α : Type} {m : Hp} {R : Enc α} {v : Value} {l : List α} (h : Sl m R v l) : v.oneCell' = true := by
  obtain ⟨A, cap, css, hv, _⟩ := h
  rw [hv]; rfl
def eSB : Enc SB :=
  ⟨1, fun m x cs => cs = [x.v] ∧ Sl m eB x.v x.b, fun hm ⟨e, h1⟩ => ⟨e, h1.mono hm⟩, fun ⟨e, _⟩ => by subst e; rfl,
    fun {_ x _} ⟨e, h1⟩ u hu => by
      subst e
      simp only [List.mem_cons, List.not_mem_nil, or_false] at hu
      subst hu
      exact h1.one2⟩
instance : Sz eSB 1 := ⟨rfl⟩
instance {x : SB} : EncC eSB x [x.v] := ⟨fun _ _ h => h.1⟩
theorem All2.openS {m : Hp} : ∀ {l : List (List UInt8)} {css : List (List Value)}, All2 ((eSl eB).r m) l css → ∃ l' : List SB, l'.map SB.b = l ∧ All2 (eSB.r m) l' css
  | [], [], _ => ⟨[], rfl, trivial⟩
  | b :: l, c :: css, ⟨⟨v, e, h⟩, t⟩ => by
    obtain ⟨l', h1, h2⟩ := All2.openS t
    exact ⟨⟨v, b⟩ :: l', by rw [List.map_cons, h1], ⟨e, h⟩, h2⟩
  | [], _ :: _, h => h.elim
  | _ :: _, [], h => h.elim
theorem Sl.openS {m : Hp} {v : Value} {l : List (List UInt8)} (h : Sl m (eSl eB) v l) : ∃ l' : List SB, l'.map SB.b = l ∧ Sl m eSB v l' := by
  obtain ⟨A, cap, css, hv, hc, ha, hr⟩ := h
  obtain ⟨l', h1, h2⟩ := ha.openS
  have hl : l'.length = l.length := by rw [← h1, List.length_map]
  refine ⟨l', h1, A, cap, css, by rw [hl]; exact hv, by rw [hl]; exact hc, h2, ?_⟩
  rcases hr with h | h
  · left
    subst h
    exact List.length_eq_zero_iff.1 hl
  · exact .inr h
section
variable {P : Program} {W0 : World} {L : List HP}
theorem CT_openS {f : FuncId} {args : Array Value} {R : Value → List HP → Prop} {v : Value} {l : List (List UInt8)} (hv : rd (eSl eB) v l ∈ L) (k : ∀ l' : List SB, l'.map SB.b = l → CT P f args W0 (rd eSB v l' :: L) R) : CT P f args W0 L R := ⟨fun w s => by
  obtain ⟨h1, h2, h3, h4, m, h, hm, hw, hh, d, hL⟩ := s
  obtain ⟨a, _, hs⟩ := hL.mem hv
  obtain ⟨l', e, hs'⟩ := Sl.openS hs
  exact (k l' e).run w ⟨h1, h2, h3, h4, m, h, hm, hw, hh, d, Hp.none, h, Hp.none_dj _, Hp.none_le _, Hp.le_refl _, hs', hL⟩⟩
theorem sub_peekSB {v : Value} {l : List SB} {j : Nat} {x : SB} (hm : rd eSB v l ∈ L) (hx : l[j]? = some x) : Sub L (rd eB x.v x.b :: L) := fun m h s => by
  obtain ⟨a, _, A, cap, css, _, _, ha, _⟩ := s.mem hm
  obtain ⟨cs, _, hc⟩ := ha.get hx
  exact ⟨Hp.none, h, Hp.none_dj _, Hp.none_le _, Hp.le_refl _, hc.2, s⟩
end
section
variable {W0 : World} {L : List HP}
theorem getB {l' : List SB} {l : List (List UInt8)} {i : Nat} {x : SB} (h : l'.map SB.b = l) (hx : l'[i]? = some x) : l[i]? = some x.b := by
  rw [← h, List.getElem?_map, hx]; rfl
theorem SameLists_ct {va vb : Value} {la lb : List (List UInt8)} {q : Bool} (ha : rd (eSl eB) va la ∈ L) (hb : rd (eSl eB) vb lb ∈ L) (hla : la.length ≤ 10000000) (hlb : lb.length ≤ 10000000) (hla2 : ∀ x ∈ la, x.length ≤ 10000000) (hlb2 : ∀ x ∈ lb, x.length ≤ 10000000) (hq : decide (la = lb) = q) :
    CT Try.prog 19 #[va, vb] W0 L fun r L' => r = .bool q ∧ L' = L := by
  refine CT_openS ha fun la' ha' => ?_
  refine CT_openS (.tail _ hb) fun lb' hb' => ?_
  refine CT_fact (fun w s => ((Src.sl (.inl (.tail _ (.head _))) s).form)) ?_
  rintro ⟨Aa, ca, rfl, hca⟩
  refine CT_fact (fun w s => ((Src.sl (.inl (.head _)) s).form)) ?_
  rintro ⟨Ab, cb, rfl, hcb⟩
  have hal : la'.length = la.length := by rw [← ha', List.length_map]
  have hbl : lb'.length = lb.length := by rw [← hb', List.length_map]
  refine CT_enter Try.func19 rfl ?_; (simp only [Try.ntmps19, List.size_toArray, List.length_cons, List.length_nil, Nat.reduceAdd, Nat.reduceSub, Array.replicate_succ, Array.replicate_zero, List.push_toArray, List.append_toArray, List.nil_append, List.cons_append])
  by_cases hlen : la'.length = lb'.length
  rotate_left
  · have hqf : q = false := by rw [← hq]; exact decide_eq_false fun h => hlen (by rw [hal, hbl, h])
    subst hqf
    repeat' (first | refine go ?_ | intro _ | (apply cG; first | refine cT ?_ | refine cF ?_ | refine cS (fun _ => ?_) fun _ => ?_) | (apply gW; refine sW ?_) | (apply gI; refine sI ?_) | (apply gE; refine sE ?_) | (apply gP; refine sP ?_) | (apply gC; refine sC ?_) | (apply gD; refine sD ?_) | fail)
    refine E_res1 (by rfl) (by rfl) ⟨rfl, rfl⟩ Sb
  repeat' (first | refine go ?_ | intro _ | (apply cG; first | refine cT ?_ | refine cF ?_ | refine cS (fun _ => ?_) fun _ => ?_) | (apply gW; refine sW ?_) | (apply gI; refine sI ?_) | (apply gE; refine sE ?_) | (apply gP; refine sP ?_) | (apply gC; refine sC ?_) | (apply gD; refine sD ?_) | fail)
  refine C_loopS (κ := Nat) [false, false, false, false, true, true, false, false, false, false, false, true, true, true, true, true, true, true, true, true, true, true, true, true, true, true, true] (fun k => [(5, .int .i64 (k : Int))]) (fun k => []) (fun k => k ≤ la'.length ∧ ∀ j < k, la[j]? = lb[j]?) (fun k => la'.length - k) 0 ⟨Nat.zero_le _, fun j hj => absurd hj (Nat.not_lt_zero _)⟩ ⟨rfl, trivial⟩ ?_
  rintro i u ⟨hi, hsame⟩
  ((try dsimp only); refine C_n ?_; (try simp only [Nat.reduceAdd, Nat.zero_add]))
  by_cases hlt : i < la'.length
  · obtain ⟨x, hx⟩ : ∃ x, la'[i]? = some x := ⟨_, List.getElem?_eq_getElem hlt⟩
    obtain ⟨y, hy⟩ : ∃ y, lb'[i]? = some y := ⟨_, List.getElem?_eq_getElem (by omega)⟩
    have hax : At la' i x := ⟨hx⟩
    have hay : At lb' i y := ⟨hy⟩
    have hxb := getB ha' hx
    have hyb := getB hb' hy
    have hxl := hla2 _ (List.mem_of_getElem? hxb)
    have hyl := hlb2 _ (List.mem_of_getElem? hyb)
    repeat' (first | refine go ?_ | intro _ | (apply cG; first | refine cT ?_ | refine cF ?_ | refine cS (fun _ => ?_) fun _ => ?_) | (apply gW; refine sW ?_) | (apply gI; refine sI ?_) | (apply gE; refine sE ?_) | (apply gP; refine sP ?_) | (apply gC; refine sC ?_) | (apply gD; refine sD ?_) | fail)
    refine C_sub (sub_peekSB (v := .slice Aa la'.length ca) (by repeat (first | exact .head _ | refine .tail _ ?_)) hx) ?_
    refine C_sub (sub_peekSB (v := .slice Ab lb'.length cb) (by repeat (first | exact .head _ | refine .tail _ ?_)) hy) ?_
    obtain ⟨s, hs⟩ : ∃ s, decide (x.b = y.b) = s := ⟨_, rfl⟩
    refine C_draw (n := 99) [rd eB y.v y.b, rd eB x.v x.b, rd eSB (.slice Ab lb'.length cb) lb', rd eSB (.slice Aa la'.length ca) la'] [(0, 1), (1, 1), (2, 1), (3, 1), (4, 1), (5, 1), (6, 1), (7, 1), (8, 0), (9, 1)] (by kernel_rfl) (by kernel_rfl) Sb ?_
    repeat' (first | refine go ?_ | intro _ | (apply cG; first | refine cT ?_ | refine cF ?_ | refine cS (fun _ => ?_) fun _ => ?_) | (apply gW; refine sW ?_) | (apply gI; refine sI ?_) | (apply gE; refine sE ?_) | (apply gP; refine sP ?_) | (apply gC; refine sC ?_) | (apply gD; refine sD ?_) | fail)
    refine D_op rfl ?_; refine X_d (dy_call ArgsI.pf (by first | exact rfl | trivial | (intro a b; rfl)) (SameBytes_ct (la := x.b) (lb := y.b) (.inl (by repeat (first | exact .head _ | refine .tail _ ?_))) (.inl (by repeat (first | exact .head _ | refine .tail _ ?_))) (by omega) (by omega) hs)) ?_; rintro _ _ ⟨_, ⟨rfl, hLL⟩, rfl⟩; replace hLL := hLL.symm; subst hLL; refine ⟨(by first | exact .inl rfl | exact .inr Sb), D_n ?_⟩
    cases s
    · have hqf : q = false := by
        rw [← hq]
        refine decide_eq_false fun h => ?_
        rw [h, hyb] at hxb
        have : y.b = x.b := by simpa using hxb
        exact of_decide_eq_false hs this.symm
      subst hqf
      repeat' (first | refine go ?_ | intro _ | (apply cG; first | refine cT ?_ | refine cF ?_ | refine cS (fun _ => ?_) fun _ => ?_) | (apply gW; refine sW ?_) | (apply gI; refine sI ?_) | (apply gE; refine sE ?_) | (apply gP; refine sP ?_) | (apply gC; refine sC ?_) | (apply gD; refine sD ?_) | fail)
      refine E_res1 (by rfl) (by rfl) ⟨rfl, rfl⟩ Sb
    · have hxy := of_decide_eq_true hs
      repeat' (first | refine go ?_ | intro _ | (apply cG; first | refine cT ?_ | refine cF ?_ | refine cS (fun _ => ?_) fun _ => ?_) | (apply gW; refine sW ?_) | (apply gI; refine sI ?_) | (apply gE; refine sE ?_) | (apply gP; refine sP ?_) | (apply gC; refine sC ?_) | (apply gD; refine sD ?_) | fail)
      exact E_round (i + 1) ⟨hlt, fun j hj => by
        rcases Nat.lt_or_ge j i with h | h
        · exact hsame j h
        · obtain rfl : j = i := by omega
          rw [hxb, hyb, hxy]⟩ (by show la'.length - (i + 1) < la'.length - i; omega) ⟨rfl, trivial⟩ Sb
  · have hqt : q = true := by
      rw [← hq]
      refine decide_eq_true (List.ext_getElem? fun j => ?_)
      rcases Nat.lt_or_ge j i with h | h
      · exact hsame j h
      · rw [List.getElem?_eq_none (by omega), List.getElem?_eq_none (by omega)]
    subst hqt
    repeat' (first | refine go ?_ | intro _ | (apply cG; first | refine cT ?_ | refine cF ?_ | refine cS (fun _ => ?_) fun _ => ?_) | (apply gW; refine sW ?_) | (apply gI; refine sI ?_) | (apply gE; refine sE ?_) | (apply gP; refine sP ?_) | (apply gC; refine sC ?_) | (apply gD; refine sD ?_) | fail)
    refine E_res1 (by rfl) (by rfl) ⟨rfl, rfl⟩ Sb
end
end Go.Proofs.Ytbjaecofccpahaa
