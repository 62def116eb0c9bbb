/-
  Walks of package wire: the writer.
-/
import Derived.Outline
import Derived.Lib.Hide
import Derived.Deep.QuietTactic
import Derived.BigQuiet
import Derived.Deep.Cut
import Derived.Test.YthbgmnoaaohbcaaMC
import Derived.Test.YthbgmnoaaohbcaaMD
import Derived.Test.YthbgmnoaaohbcaaMK
import Derived.Test.YthbgmnoaaohbcaaMJ
namespace Go.Proofs.Ythbgmnoaaohbcaa
open Go Go.RowKit
set_option linter.unusedVariables false
set_option linter.unusedSimpArgs false
/-- a writer at block p that holds bs -/
def wr (p : Nat) (bs : List UInt8) : HP := ex fun v => sp [cel p [v] 78, own 5 eB v bs]
theorem St.wro {p : Nat} {bs : List UInt8} {W0 w : World} {L : List HP} (hS : St W0 w (wr p bs :: L)) : ∃ v, St W0 w (cel p [v] 78 :: own 5 eB v bs :: L) := by
  obtain ⟨v, h⟩ := hS.ex_
  exact ⟨v, h.open_⟩
theorem St.wrc {p : Nat} {bs : List UInt8} {v : Value} {W0 w : World} {L : List HP} (hS : St W0 w (cel p [v] 78 :: own 5 eB v bs :: L)) : St W0 w (wr p bs :: L) :=
  St.mk_ex v (St.close_ (L := [cel p [v] 78, own 5 eB v bs]) hS)
theorem byte_small {m : UInt64} (h : m.toNat < 128) : Value.int .u8 (m.toNat : Int) = bv (UInt8.ofNat m.toNat) := by
  congr 1
  simp
  omega
theorem byte_big (m : UInt64) : Value.int .u8 (bits .or .u8 ((m.toNat : Int) % 256) 128) = bv (UInt8.ofNat (m.toNat % 128 + 128)) := by
  have h : ∀ k : Fin 256, bits .or .u8 (k.val : Int) 128 = (((UInt8.ofNat (k.val % 128 + 128)).toNat : Nat) : Int) := by decide +kernel
  have h2 := h ⟨m.toNat % 256, Nat.mod_lt _ (by omega)⟩
  have e1 : (m.toNat : Int) % 256 = ((m.toNat % 256 : Nat) : Int) := by omega
  have e2 : m.toNat % 256 % 128 = m.toNat % 128 := by omega
  rw [e1, h2, e2]
set_option maxRecDepth 8000 in
set_option maxHeartbeats 1000000 in
theorem wUint_any {W0 w : World} {L : List HP} {p : Nat} {bs : List UInt8} (hS : St W0 w (wr p bs :: L)) (n : UInt64) (hl : bs.length ≤ 100000000000000) :
    Calls Try.prog 38 #[.pointer (some ⟨p, 0, none⟩), uv n] w fun e w' => (∃ v, e = .returned v) ∧ St W0 w' (wr p (bs ++ varint n.toNat) :: L) := by
  go_enter Try.func38, Try.ntmps38
  go_wp2
  go_loopw [1] (fun x wr' => Hid (∃ (m : UInt64) (pre : List UInt8), x = uv m ∧ pre ++ varint m.toNat = varint n.toNat ∧ St W0 wr' (wr p (bs ++ pre) :: L))) (fun x _ => (intOf x).toNat)
  case atStart => exact Lib.hid ⟨n, [], rfl, rfl, by simpa using hS⟩
  case round =>
    clear hS
    obtain ⟨m, pre, rfl, hpre, hS⟩ := hrel.out
    clear hrel
    have hplen : pre.length ≤ 10 := by
      have h1 := congrArg List.length hpre
      rw [List.length_append, varint_len n.toNat] at h1
      have h2 := sizeV_le 10 n.toNat (Nat.lt_of_lt_of_le (u64_lt n) (by decide)) (by decide)
      omega
    replace hpre := Lib.hid hpre
    obtain ⟨v, hS⟩ := hS.wro
    by_cases hm : m.toNat < 128
    · have hge : decide ((128 : Int) ≤ (m.toNat : Int)) = false := by simp; omega
      go_wp2_with (first | ((with_reducible refine g_load ?_); refine wl_load hS (by rfl) (by rfl) (by rfl) (by repeat (first | exact .head _ | refine .tail _ ?_)) (by rfl) ?_) | ((with_reducible refine g_lit ?_); (with_reducible refine stop_op ?_)))
      refine (?_ : wpList _ _ _ _ _ _)
      refine L_push (el := (UInt8.ofNat m.toNat)) hS (by rfl) (fun _ => by rfl) (fun _ => (by conv => lhs; whnf)) (of_decide_eq_true (by rfl)) (by with_reducible first | exact at0 | exact at1 | exact at2 | exact at3 | exact at4 | exact at5 | exact at6 | exact at7 | exact at8 | exact at9 | exact at10 | exact at11 | exact at12) (by rfl) (by rfl) (by decide) (by decide) (fun _ _ _ => (congrArg (fun v => [v]) (byte_small hm) : [Value.int .u8 (m.toNat : Int)] = [bv (UInt8.ofNat m.toNat)])) (by (try simp); omega) ?_; clear hS; intro A A1 c w' hS; (try simp only [List.set_cons_zero, List.set_cons_succ] at hS)
      go_wp2_with ((with_reducible refine g_store ?_); refine wl_store hS (by rfl) (by rfl) (by rfl) (by rfl) (by rfl) (by with_reducible first | exact at0 | exact at1 | exact at2 | exact at3 | exact at4 | exact at5 | exact at6 | exact at7 | exact at8 | exact at9 | exact at10 | exact at11 | exact at12) (of_decide_eq_true (by rfl)) ?_; clear hS; intro w' hS; (try simp only [List.set_cons_zero, List.set_cons_succ] at hS); (try simp only [Act.eval, Act.put, List.setIfInBounds_toArray, List.set_cons_zero, List.set_cons_succ, Array.getD_eq_getD_getElem?, List.getElem?_toArray, List.getElem?_cons_succ, List.getElem?_cons_zero, Option.getD_some] at hS))
      refine bodyPost_end (results_none rfl _ _ _) rfl ⟨⟨_, rfl⟩, ?_⟩
      have hp := hpre.out
      rw [varint_small hm] at hp
      rw [← hp, ← List.append_assoc]
      rw [List.length_append] at hS
      exact hS.wrc
    · have hge : decide ((128 : Int) ≤ (m.toNat : Int)) = true := by simp; omega
      go_wp2_with (first | ((with_reducible refine g_load ?_); refine wl_load hS (by rfl) (by rfl) (by rfl) (by repeat (first | exact .head _ | refine .tail _ ?_)) (by rfl) ?_) | ((with_reducible refine g_lit ?_); (with_reducible refine stop_op ?_)))
      refine (?_ : wpList _ _ _ _ _ _)
      refine L_push (el := (UInt8.ofNat (m.toNat % 128 + 128))) hS (by rfl) (fun _ => by rfl) (fun _ => (by conv => lhs; whnf)) (of_decide_eq_true (by rfl)) (by with_reducible first | exact at0 | exact at1 | exact at2 | exact at3 | exact at4 | exact at5 | exact at6 | exact at7 | exact at8 | exact at9 | exact at10 | exact at11 | exact at12) (by rfl) (by rfl) (by decide) (by decide) (fun _ _ _ => (congrArg (fun v => [v]) (byte_big m) : [Value.int .u8 (bits .or .u8 ((m.toNat : Int) % 256) 128)] = [bv (UInt8.ofNat (m.toNat % 128 + 128))])) (by (try simp); omega) ?_; clear hS; intro A A1 c w' hS; (try simp only [List.set_cons_zero, List.set_cons_succ] at hS)
      go_wp2_with ((with_reducible refine g_store ?_); refine wl_store hS (by rfl) (by rfl) (by rfl) (by rfl) (by rfl) (by with_reducible first | exact at0 | exact at1 | exact at2 | exact at3 | exact at4 | exact at5 | exact at6 | exact at7 | exact at8 | exact at9 | exact at10 | exact at11 | exact at12) (of_decide_eq_true (by rfl)) ?_; clear hS; intro w' hS; (try simp only [List.set_cons_zero, List.set_cons_succ] at hS); (try simp only [Act.eval, Act.put, List.setIfInBounds_toArray, List.set_cons_zero, List.set_cons_succ, Array.getD_eq_getD_getElem?, List.getElem?_toArray, List.getElem?_cons_succ, List.getElem?_cons_zero, Option.getD_some] at hS))
      have hd : (m / 128).toNat = m.toNat / 128 := by rw [UInt64.toNat_div]; rfl
      go_roundw
      case rel =>
        refine Lib.hid ⟨m / 128, pre ++ [UInt8.ofNat (m.toNat % 128 + 128)], ?_, ?_, ?_⟩
        · show Value.int .u64 ((m.toNat : Int) / 128) = Value.int .u64 ((m / 128).toNat : Int)
          rw [hd]; rfl
        · have hp := hpre.out
          rw [varint_big hm] at hp
          rw [← hp, hd, List.append_assoc]
          rfl
        · rw [List.length_append] at hS
          rw [← List.append_assoc]
          exact hS.wrc
      case measure =>
        simp [intOf]
        omega
end Go.Proofs.Ythbgmnoaaohbcaa
namespace Go.Proofs.Ythbgmnoaaohbcaa
open Go Go.RowKit
set_option linter.unusedVariables false
set_option linter.unusedSimpArgs false
theorem ofIntI' (n : Int) : IntKind.u64.wrap n = ((UInt64.ofInt n).toNat : Int) := by
  rw [IntKind.wrap_u64]
  simp [UInt64.ofInt]
  omega
def zigU (n : Int) : UInt64 := UInt64.ofNat (zig n)
theorem xor_ones (a : UInt64) : ((a ^^^ 18446744073709551615).toNat : Int) = 18446744073709551615 - (a.toNat : Int) := by
  have e : a ^^^ 18446744073709551615 = ~~~a := by
    apply UInt64.eq_of_toBitVec_eq
    simp only [UInt64.toBitVec_xor, UInt64.toBitVec_not]
    have : (18446744073709551615 : UInt64).toBitVec = BitVec.allOnes 64 := by decide
    rw [this, BitVec.xor_allOnes]
  rw [e]
  have h := u64_lt a
  have h2 : (~~~a).toNat = 18446744073709551615 - a.toNat := by
    show (~~~a).toBitVec.toNat = _
    rw [UInt64.toBitVec_not, BitVec.toNat_not]
    rfl
  rw [h2]
  omega
theorem zig_walk {n : Int} (h1 : -9223372036854775808 ≤ n) (h2 : n ≤ 9223372036854775807) :
    (Value.int IntKind.u64 (bits BinOp.xor IntKind.u64 (IntKind.u64.wrap (IntKind.u64.wrap n * 2)) (IntKind.u64.wrap (n / 9223372036854775808)))) = uv (zigU n) := by
  obtain ⟨x, hx⟩ : ∃ x : UInt64, IntKind.u64.wrap (IntKind.u64.wrap n * 2) = (x.toNat : Int) := ⟨UInt64.ofInt (IntKind.u64.wrap n * 2), ofIntI' _⟩
  have hz : zig n < 18446744073709551616 := by unfold zig; split <;> omega
  have hzu : ((zigU n).toNat : Int) = (zig n : Int) := by unfold zigU; rw [UInt64.toNat_ofNat']; omega
  have hx2 := hx
  rw [IntKind.wrap_u64, IntKind.wrap_u64] at hx2
  rw [hx]
  congr 1
  by_cases hn : n < 0
  · have e : IntKind.u64.wrap (n / 9223372036854775808) = (((18446744073709551615 : UInt64)).toNat : Int) := by
      have : n / 9223372036854775808 = -1 := by omega
      rw [this]; decide
    rw [e, u64_xor, xor_ones, hzu]
    unfold zig
    rw [if_pos hn]
    omega
  · have e : IntKind.u64.wrap (n / 9223372036854775808) = (((0 : UInt64)).toNat : Int) := by
      have : n / 9223372036854775808 = 0 := by omega
      rw [this]; decide
    rw [e, u64_xor, hzu]
    unfold zig
    rw [if_neg hn, UInt64.xor_zero]
    omega
theorem zigzag_any (n : Int) (w : World) (h1 : -9223372036854775808 ≤ n) (h2 : n ≤ 9223372036854775807) :
    Calls Try.prog 64 #[iv n] w fun e w' => e = .returned (uv (zigU n)) ∧ w = w' := by
  go_enter Try.func64, Try.ntmps64
  go_wp2
  go_ret
  exact ⟨congrArg (fun v => Ending.returned v) (zig_walk h1 h2), rfl⟩
theorem wInt_any {W0 w : World} {L : List HP} {p : Nat} {bs : List UInt8} (hS : St W0 w (wr p bs :: L)) (n : Int) (h1 : -9223372036854775808 ≤ n) (h2 : n ≤ 9223372036854775807) (hl : bs.length ≤ 100000000000000) :
    Calls Try.prog 48 #[.pointer (some ⟨p, 0, none⟩), iv n] w fun e w' => (∃ v, e = .returned v) ∧ St W0 w' (wr p (bs ++ varint (zigU n).toNat) :: L) := by
  go_enter Try.func48, Try.ntmps48
  go_wp2_with (first | (go_at_call 64; refine (zigzag_any n _ h1 h2).mono ?_; rintro e w' ⟨rfl, rfl⟩) | (go_at_call 38; (with_reducible refine stop_op ?_)))
  refine (wUint_any hS (zigU n) hl).mono ?_
  rintro _ w' ⟨⟨v, rfl⟩, hS⟩
  go_wp2
  exact bodyPost_end (results_none rfl _ _ _) rfl ⟨⟨_, rfl⟩, hS⟩
end Go.Proofs.Ythbgmnoaaohbcaa
namespace Go.Proofs.Ythbgmnoaaohbcaa
open Go Go.RowKit
set_option linter.unusedVariables false
set_option linter.unusedSimpArgs false
set_option maxRecDepth 20000
set_option synthInstance.maxSize 100000
set_option synthInstance.maxHeartbeats 400000
section
variable {W0 : World} {L : List HP}
theorem Clone_ct {v : Value} {l : List UInt8} (hv : Src L eB v l) (hl : l.length ≤ 100000000000000) :
    CT Try.prog 42 #[v] W0 L fun r L' => ∃ A c, r = .slice A l.length c ∧ L' = own 5 eB (.slice A l.length c) l :: L := by
  refine CT_fact (fun w s => (hv.sl s).form) ?_
  rintro ⟨A, cap, rfl, hcap⟩
  cases A with
  | none =>
    refine CT_fact (fun w s => (hv.sl s).nil_of) ?_
    rintro rfl
    refine CT_enter Try.func42 rfl ?_; (simp only [Try.ntmps42, List.size_toArray, List.length_cons, List.length_nil, Nat.reduceAdd, Nat.reduceSub, Array.replicate_succ, Array.replicate_zero, List.push_toArray, List.append_toArray, List.nil_append, List.cons_append])
    repeat' (first | refine go ?_ | intro _ | (apply cG; first | refine cT ?_ | refine cF ?_ | refine cS (fun _ => ?_) fun _ => ?_) | (apply gW; refine sW ?_) | (apply gI; refine sI ?_) | (apply gE; refine sE ?_) | (apply gP; refine sP ?_) | (apply gC; refine sC ?_) | (apply gD; refine sD ?_) | fail)
    refine E_ownnil 5 eB ?_
    refine E_end1 (by rfl) (by rfl) Ev.pf ⟨none, 0, rfl, rfl⟩
  | some ad =>
    have hv : Sc L (.slice (some ad) l.length cap) eB l := ⟨hv⟩
    refine CT_enter Try.func42 rfl ?_; (simp only [Try.ntmps42, List.size_toArray, List.length_cons, List.length_nil, Nat.reduceAdd, Nat.reduceSub, Array.replicate_succ, Array.replicate_zero, List.push_toArray, List.append_toArray, List.nil_append, List.cons_append])
    repeat' (first | refine go ?_ | intro _ | (apply cG; first | refine cT ?_ | refine cF ?_ | refine cS (fun _ => ?_) fun _ => ?_) | (apply gW; refine sW ?_) | (apply gI; refine sI ?_) | (apply gE; refine sE ?_) | (apply gP; refine sP ?_) | (apply gC; refine sC ?_) | (apply gD; refine sD ?_) | fail)
    refine O_d (dy_lit0 eB rfl) ?_; rintro _ _ ⟨_, rfl, rfl⟩; refine O_n ?_
    repeat' (first | refine go ?_ | intro _ | (apply cG; first | refine cT ?_ | refine cF ?_ | refine cS (fun _ => ?_) fun _ => ?_) | (apply gW; refine sW ?_) | (apply gI; refine sI ?_) | (apply gE; refine sE ?_) | (apply gP; refine sP ?_) | (apply gC; refine sC ?_) | (apply gD; refine sD ?_) | fail)
    refine E_end1 (by rfl) (by rfl) Ev.pf ⟨_, _, rfl, rfl⟩
/-- a number of 64 bits, said by a natural number -/
theorem uvn {m : Nat} (h : m < 18446744073709551616) : Value.int .u64 (m : Int) = uv (UInt64.ofNat m) ∧ (UInt64.ofNat m).toNat = m := by
  have : (UInt64.ofNat m).toNat = m := by rw [UInt64.toNat_ofNat']; omega
  exact ⟨by rw [uv, this], this⟩
theorem wUint_ct {p m : Nat} {bs : List UInt8} (hm : m < 18446744073709551616) (hl : bs.length ≤ 100000000000000) :
    CT Try.prog 38 #[.pointer (some ⟨p, 0, none⟩), .int .u64 (m : Int)] W0 (wr p bs :: L) fun r L' => L' = wr p (bs ++ varint m) :: L := by
  refine ⟨fun w s => ?_⟩
  have := wUint_any s (UInt64.ofNat m) hl
  rw [← (uvn hm).1, (uvn hm).2] at this
  exact this.mono fun e w' ⟨⟨v, hv⟩, h⟩ => ⟨v, _, hv, rfl, h⟩
theorem wInt_ct {p : Nat} {n : Int} {bs : List UInt8} (h1 : -9223372036854775808 ≤ n) (h2 : n ≤ 9223372036854775807) (hl : bs.length ≤ 100000000000000) :
    CT Try.prog 48 #[.pointer (some ⟨p, 0, none⟩), .int .i64 n] W0 (wr p bs :: L) fun r L' => L' = wr p (bs ++ varint (zig n)) :: L := by
  refine ⟨fun w s => ?_⟩
  have := wInt_any s n h1 h2 hl
  rw [zigU, (uvn (m := zig n) (by unfold zig; split <;> omega)).2] at this
  exact this.mono fun e w' ⟨⟨v, hv⟩, h⟩ => ⟨v, _, hv, rfl, h⟩
theorem wr_open {ops : Array Oper} {Q : Exit → Act → World → Prop} {rest : List Oper} {a : Act} {p : Nat} {bs : List UInt8} (k : ∀ A c, OL Try.prog W0 (cel p [.slice A bs.length c] 78 :: own 5 eB (.slice A bs.length c) bs :: L) ops Q rest a) : OL Try.prog W0 (wr p bs :: L) ops Q rest a := by
  refine ⟨fun w s => ?_⟩
  obtain ⟨v, h⟩ := s.wro
  obtain ⟨A, c, rfl, _⟩ := (h.rdo (.tail _ (.head _))).form
  exact (k A c).run w h
theorem wr_sub {p : Nat} {v : Value} {bs : List UInt8} : Sub (cel p [v] 78 :: own 5 eB v bs :: L) (wr p bs :: L) := (sub_close (Ls := [cel p [v] 78, own 5 eB v bs])).trans (sub_ex (F := fun v => sp [cel p [v] 78, own 5 eB v bs]) v)
theorem wText_ct {p : Nat} {bs : List UInt8} (s : ByteArray) (hs : s.size ≤ 1000000000000) (hl : bs.length ≤ 1000000000000) :
    CT Try.prog 65 #[.pointer (some ⟨p, 0, none⟩), .string s] W0 (wr p bs :: L) fun r L' => L' = wr p (bs ++ varint s.size ++ s.data.toList) :: L := by
  have hv := sizeV_le 10 s.size (Nat.lt_of_le_of_lt hs (by decide)) (by decide)
  rw [← varint_len] at hv
  refine CT_enter Try.func65 rfl ?_; (simp only [Try.ntmps65, List.size_toArray, List.length_cons, List.length_nil, Nat.reduceAdd, Nat.reduceSub, Array.replicate_succ, Array.replicate_zero, List.push_toArray, List.append_toArray, List.nil_append, List.cons_append])
  repeat' (first | refine go ?_ | intro _ | (apply cG; first | refine cT ?_ | refine cF ?_ | refine cS (fun _ => ?_) fun _ => ?_) | (apply gW; refine sW ?_) | (apply gI; refine sI ?_) | (apply gE; refine sE ?_) | (apply gP; refine sP ?_) | (apply gC; refine sC ?_) | (apply gD; refine sD ?_) | fail)
  refine O_d (dy_call ArgsI.pf (by first | exact rfl | trivial | (intro a b; rfl)) (wUint_ct (by omega) (by omega))) ?_; rintro _ _ ⟨_, rfl, rfl⟩; refine O_n ?_
  repeat' (first | refine go ?_ | intro _ | (apply cG; first | refine cT ?_ | refine cF ?_ | refine cS (fun _ => ?_) fun _ => ?_) | (apply gW; refine sW ?_) | (apply gI; refine sI ?_) | (apply gE; refine sE ?_) | (apply gP; refine sP ?_) | (apply gC; refine sC ?_) | (apply gD; refine sD ?_) | fail)
  refine wr_open fun A c => ?_
  repeat' (first | refine go ?_ | intro _ | (apply cG; first | refine cT ?_ | refine cF ?_ | refine cS (fun _ => ?_) fun _ => ?_) | (apply gW; refine sW ?_) | (apply gI; refine sI ?_) | (apply gE; refine sE ?_) | (apply gP; refine sP ?_) | (apply gC; refine sC ?_) | (apply gD; refine sD ?_) | fail)
  refine E_sub wr_sub ?_
  refine E_end0 (by first | exact .inl rfl | exact .inr rfl) (by rfl) (by rfl) rfl
theorem wRaw_ct {p : Nat} {v : Value} {l bs : List UInt8} (hv : Src L eB v l) (hs : l.length ≤ 1000000000000) (hl : bs.length ≤ 1000000000000) :
    CT Try.prog 49 #[.pointer (some ⟨p, 0, none⟩), v] W0 (wr p bs :: L) fun r L' => L' = wr p (bs ++ varint l.length ++ l) :: L := by
  replace hv : Sc L v eB l := ⟨hv⟩
  refine CT_enter Try.func49 rfl ?_; (simp only [Try.ntmps49, List.size_toArray, List.length_cons, List.length_nil, Nat.reduceAdd, Nat.reduceSub, Array.replicate_succ, Array.replicate_zero, List.push_toArray, List.append_toArray, List.nil_append, List.cons_append])
  repeat' (first | refine go ?_ | intro _ | (apply cG; first | refine cT ?_ | refine cF ?_ | refine cS (fun _ => ?_) fun _ => ?_) | (apply gW; refine sW ?_) | (apply gI; refine sI ?_) | (apply gE; refine sE ?_) | (apply gP; refine sP ?_) | (apply gC; refine sC ?_) | (apply gD; refine sD ?_) | fail)
  refine O_d (dy_call ArgsI.pf (by first | exact rfl | trivial | (intro a b; rfl)) (wText_ct ⟨l.toArray⟩ (by show l.toArray.size ≤ _; simpa using hs) hl)) ?_; rintro _ _ ⟨_, rfl, rfl⟩; refine O_n ?_
  repeat' (first | refine go ?_ | intro _ | (apply cG; first | refine cT ?_ | refine cF ?_ | refine cS (fun _ => ?_) fun _ => ?_) | (apply gW; refine sW ?_) | (apply gI; refine sI ?_) | (apply gE; refine sE ?_) | (apply gP; refine sP ?_) | (apply gC; refine sC ?_) | (apply gD; refine sD ?_) | fail)
  refine E_end0 (by first | exact .inl rfl | exact .inr rfl) (by rfl) (by rfl) rfl
theorem wDone_ct {p : Nat} {bs : List UInt8} (hl : bs.length ≤ 100000000000000) :
    CT Try.prog 39 #[.pointer (some ⟨p, 0, none⟩)] W0 (wr p bs :: L) fun r L' => ∃ A c, r = .slice A bs.length c ∧ L' = own 5 eB (.slice A bs.length c) bs :: wr p bs :: L := by
  refine CT_enter Try.func39 rfl ?_; (simp only [Try.ntmps39, List.size_toArray, List.length_cons, List.length_nil, Nat.reduceAdd, Nat.reduceSub, Array.replicate_succ, Array.replicate_zero, List.push_toArray, List.append_toArray, List.nil_append, List.cons_append])
  repeat' (first | refine go ?_ | intro _ | (apply cG; first | refine cT ?_ | refine cF ?_ | refine cS (fun _ => ?_) fun _ => ?_) | (apply gW; refine sW ?_) | (apply gI; refine sI ?_) | (apply gE; refine sE ?_) | (apply gP; refine sP ?_) | (apply gC; refine sC ?_) | (apply gD; refine sD ?_) | fail)
  refine wr_open fun A c => ?_
  repeat' (first | refine go ?_ | intro _ | (apply cG; first | refine cT ?_ | refine cF ?_ | refine cS (fun _ => ?_) fun _ => ?_) | (apply gW; refine sW ?_) | (apply gI; refine sI ?_) | (apply gE; refine sE ?_) | (apply gP; refine sP ?_) | (apply gC; refine sC ?_) | (apply gD; refine sD ?_) | fail)
  refine O_d (dy_call ArgsI.pf (by first | exact rfl | trivial | (intro a b; rfl)) (Clone_ct Sc.pf hl)) ?_; rintro _ _ ⟨_, ⟨A', c', rfl, rfl⟩, rfl⟩; refine O_n ?_
  repeat' (first | refine go ?_ | intro _ | (apply cG; first | refine cT ?_ | refine cF ?_ | refine cS (fun _ => ?_) fun _ => ?_) | (apply gW; refine sW ?_) | (apply gI; refine sI ?_) | (apply gE; refine sE ?_) | (apply gP; refine sP ?_) | (apply gC; refine sC ?_) | (apply gD; refine sD ?_) | fail)
  refine E_sub (sub_skip wr_sub) ?_
  refine E_end1 (by rfl) (by rfl) Ev.pf ⟨_, _, rfl, rfl⟩
/-- the encodings of a list's numbers -/
def encI (l : List Int) : List UInt8 := (l.map fun n => varint (zig n)).flatten
theorem encI_snoc (l : List Int) (n : Int) : encI (l ++ [n]) = encI l ++ varint (zig n) := by simp [encI]
theorem zig_lt {n : Int} (h1 : -9223372036854775808 ≤ n) (h2 : n ≤ 9223372036854775807) : zig n < 18446744073709551616 := by unfold zig; split <;> omega
theorem vlen {m : Nat} (h : m < 18446744073709551616) : (varint m).length ≤ 10 := by
  rw [varint_len]; exact sizeV_le 10 m (Nat.lt_of_lt_of_le h (by decide)) (by decide)
theorem encI_len : ∀ {l : List Int}, (∀ n ∈ l, -9223372036854775808 ≤ n ∧ n ≤ 9223372036854775807) → (encI l).length ≤ 10 * l.length
  | [], _ => by simp [encI]
  | n :: l, h => by
    have h1 := encI_len (l := l) fun x hx => h x (.tail _ hx)
    have h2 := h n (.head _)
    have h3 := vlen (zig_lt h2.1 h2.2)
    simp only [encI, List.map_cons, List.flatten_cons, List.length_append, List.length_cons] at *
    omega
theorem take_snoc' {α : Type} {l : List α} {k : Nat} {x : α} (h : l[k]? = some x) : l.take (k + 1) = l.take k ++ [x] := by
  rw [List.take_add_one, h]; rfl
end
end Go.Proofs.Ythbgmnoaaohbcaa
namespace Go.Proofs.Ythbgmnoaaohbcaa
open Go Go.RowKit
set_option linter.unusedVariables false
set_option linter.unusedSimpArgs false
/-- a reader: the bytes that are left, the error (0: none, 2: form, 3: more) -/
abbrev Rs := List UInt8 × Int
def rFail (s : Rs) (e : Int) : Rs := if s.2 = 0 then (s.1, e) else s
def rNext (s : Rs) : UInt8 × Rs :=
  if s.2 = 0 then (match s.1 with
    | [] => (0, ([], 3))
    | c :: r => (c, (r, 0))) else (0, s)
/-- from byte number i on, n so far -/
def rUi : Nat → Nat → List UInt8 → Nat × Rs
  | _, _, [] => (0, ([], 3))
  | i, n, c :: r => if (i = 9 ∧ 1 < c.toNat) ∨ (0 < i ∧ c.toNat = 0) then (0, (r, 2)) else if c.toNat < 128 then (n + c.toNat * 128 ^ i, (r, 0)) else rUi (i + 1) (n + (c.toNat - 128) * 128 ^ i) r
def rU (s : Rs) : Nat × Rs := if s.2 = 0 then rUi 0 0 s.1 else (0, s)
def unzig (n : Nat) : Int := if n % 2 = 1 then -((n / 2 : Nat) : Int) - 1 else ((n / 2 : Nat) : Int)
def rI (s : Rs) : Int × Rs := (unzig (rU s).1, (rU s).2)
def rB (s : Rs) : Bool × Rs := ((rNext s).1.toNat = 1, if 1 < (rNext s).1.toNat then rFail (rNext s).2 2 else (rNext s).2)
/-- a list's elements, by a reading of one -/
def rMany {α : Type} (f : Rs → α × Rs) : Nat → Rs → List α × Rs
  | 0, s => ([], s)
  | n + 1, s => if s.2 = 0 then ((f s).1 :: (rMany f n (f s).2).1, (rMany f n (f s).2).2) else ([], s)
def rList {α : Type} (f : Rs → α × Rs) (s : Rs) : List α × Rs :=
  let n := (rU s).1
  let s1 := if (rU s).2.1.length < n then rFail (rU s).2 3 else (rU s).2
  let r := rMany f n s1
  (if r.2.2 = 0 then r.1 else [], r.2)
def rEnd (s : Rs) : Int := if s.2 = 0 ∧ 0 < s.1.length then 2 else s.2
/-- errors stay; bytes are taken from the front -/
theorem rUi_suffix : ∀ (i n : Nat) (l : List UInt8), (rUi i n l).2.1.length ≤ l.length
  | _, _, [] => by simp [rUi]
  | i, n, c :: r => by
    rw [rUi]
    split
    · simp
    · split
      · simp
      · have := rUi_suffix (i + 1) (n + (c.toNat - 128) * 128 ^ i) r
        simp only [List.length_cons]; omega
theorem rUi_lt : ∀ (l : List UInt8) (i n : Nat), i ≤ 9 → n < 128 ^ i → (rUi i n l).1 < 18446744073709551616
  | [], _, _, _, _ => by simp [rUi]
  | c :: r, i, n, hi, hn => by
    rw [rUi]
    split
    · simp
    · rename_i h1
      have hc : c.toNat < 256 := c.toNat_lt
      split
      · rename_i h2
        dsimp only
        rcases Nat.lt_or_ge i 9 with h9 | h9
        · have : 128 ^ (i + 1) ≤ 128 ^ 9 := Nat.pow_le_pow_right (by decide) h9
          have e : c.toNat * 128 ^ i ≤ 127 * 128 ^ i := Nat.mul_le_mul_right _ (by omega)
          rw [Nat.pow_succ] at this
          have : (128 : Nat) ^ 9 = 9223372036854775808 := by decide
          omega
        · have : i = 9 := by omega
          subst this
          have e9 : (128 : Nat) ^ 9 = 9223372036854775808 := by decide
          rw [e9] at hn ⊢
          have : c.toNat ≤ 1 := by
            rcases Nat.lt_or_ge 1 c.toNat with h | h
            · exact absurd (.inl ⟨rfl, h⟩) h1
            · exact h
          omega
      · rename_i h2
        have h9 : i ≠ 9 := fun e => h1 (.inl ⟨e, by omega⟩)
        refine rUi_lt r (i + 1) _ (by omega) ?_
        rw [Nat.pow_succ]
        have e : (c.toNat - 128) * 128 ^ i ≤ 127 * 128 ^ i := Nat.mul_le_mul_right _ (by omega)
        omega
theorem rU_lt (s : Rs) : (rU s).1 < 18446744073709551616 := by
  unfold rU; split
  · exact rUi_lt _ 0 0 (by omega) (by decide)
  · simp
theorem rU_len (s : Rs) : (rU s).2.1.length ≤ s.1.length := by
  unfold rU; split
  · exact rUi_suffix _ _ _
  · exact Nat.le_refl _
theorem rNext_len (s : Rs) : (rNext s).2.1.length ≤ s.1.length := by
  unfold rNext; split
  · split
    · simp
    · rename_i h; rw [h]; simp
  · exact Nat.le_refl _
end Go.Proofs.Ythbgmnoaaohbcaa
