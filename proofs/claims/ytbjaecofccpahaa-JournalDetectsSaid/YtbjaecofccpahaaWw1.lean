/-
  Walks of package wire: the writer.
-/
import Derived.Test.YtbjaecofccpahaaTy
import Derived.Test.YtbjaecofccpahaaSt8
import Derived.Test.YtbjaecofccpahaaWp
import Derived.Outline
import Derived.Lib.Hide
import Derived.Deep.QuietTactic
import Derived.BigQuiet
import Derived.Deep.Cut
namespace Go.Proofs.Ytbjaecofccpahaa
open Go Go.RowKit
set_option linter.unusedVariables false
set_option linter.unusedSimpArgs false
/-- a writer at block p that holds bs -/
def wr (p : Nat) (bs : List UInt8) : HP := ex fun v => sp [cel p [v] 49, own 5 eB v bs]
theorem St.wro {p : Nat} {bs : List UInt8} {W0 w : World} {L : List HP} (hS : St W0 w (wr p bs :: L)) : ∃ v, St W0 w (cel p [v] 49 :: own 5 eB v bs :: L) := by
  obtain ⟨v, h⟩ := hS.ex_
  exact ⟨v, h.open_⟩
theorem St.wrc {p : Nat} {bs : List UInt8} {v : Value} {W0 w : World} {L : List HP} (hS : St W0 w (cel p [v] 49 :: own 5 eB v bs :: L)) : St W0 w (wr p bs :: L) :=
  St.mk_ex v (St.close_ (L := [cel p [v] 49, own 5 eB v bs]) hS)
theorem byte_small {m : UInt64} (h : m.toNat < 128) : Value.int .u8 (m.toNat : Int) = bv (UInt8.ofNat m.toNat) := by
  congr 1
  simp
  omega
theorem byte_big (m : UInt64) : Value.int .u8 (bits .or .u8 ((m.toNat : Int) % 256) 128) = bv (UInt8.ofNat (m.toNat % 128 + 128)) := by
  have h : ∀ k : Fin 256, bits .or .u8 (k.val : Int) 128 = (((UInt8.ofNat (k.val % 128 + 128)).toNat : Nat) : Int) := by decide +kernel
  have h2 := h ⟨m.toNat % 256, Nat.mod_lt _ (by omega)⟩
  have e1 : (m.toNat : Int) % 256 = ((m.toNat % 256 : Nat) : Int) := by omega
  have e2 : m.toNat % 256 % 128 = m.toNat % 128 := by omega
  rw [e1, h2, e2]
set_option maxRecDepth 8000 in
set_option maxHeartbeats 1000000 in
theorem wUint_any {W0 w : World} {L : List HP} {p : Nat} {bs : List UInt8} (hS : St W0 w (wr p bs :: L)) (n : UInt64) (hl : bs.length ≤ 100000000000000) :
    Calls Try.prog 30 #[.pointer (some ⟨p, 0, none⟩), uv n] w fun e w' => (∃ v, e = .returned v) ∧ St W0 w' (wr p (bs ++ varint n.toNat) :: L) := by
  go_enter Try.func30, Try.ntmps30
  go_wp2
  go_loopw [1] (fun x wr' => Hid (∃ (m : UInt64) (pre : List UInt8), x = uv m ∧ pre ++ varint m.toNat = varint n.toNat ∧ St W0 wr' (wr p (bs ++ pre) :: L))) (fun x _ => (intOf x).toNat)
  case atStart => exact Lib.hid ⟨n, [], rfl, rfl, by simpa using hS⟩
  case round =>
    clear hS
    obtain ⟨m, pre, rfl, hpre, hS⟩ := hrel.out
    clear hrel
    have hplen : pre.length ≤ 10 := by
      have h1 := congrArg List.length hpre
      rw [List.length_append, varint_len n.toNat] at h1
      have h2 := sizeV_le 10 n.toNat (Nat.lt_of_lt_of_le (u64_lt n) (by decide)) (by decide)
      omega
    replace hpre := Lib.hid hpre
    obtain ⟨v, hS⟩ := hS.wro
    by_cases hm : m.toNat < 128
    · have hge : decide ((128 : Int) ≤ (m.toNat : Int)) = false := by simp; omega
      go_wp2_with (first | ((with_reducible refine g_load ?_); refine wl_load hS (by rfl) (by rfl) (by rfl) (by repeat (first | exact .head _ | refine .tail _ ?_)) (by rfl) ?_) | ((with_reducible refine g_lit ?_); (with_reducible refine stop_op ?_)))
      refine (?_ : wpList _ _ _ _ _ _)
      refine L_push (el := (UInt8.ofNat m.toNat)) hS (by rfl) (fun _ => by rfl) (fun _ => (by conv => lhs; whnf)) (of_decide_eq_true (by rfl)) (by with_reducible first | exact at0 | exact at1 | exact at2 | exact at3 | exact at4 | exact at5 | exact at6 | exact at7 | exact at8 | exact at9 | exact at10 | exact at11 | exact at12) (by rfl) (by rfl) (by decide) (by decide) (fun _ _ _ => (congrArg (fun v => [v]) (byte_small hm) : [Value.int .u8 (m.toNat : Int)] = [bv (UInt8.ofNat m.toNat)])) (by (try simp); omega) ?_; clear hS; intro A A1 c w' hS; (try simp only [List.set_cons_zero, List.set_cons_succ] at hS)
      go_wp2_with ((with_reducible refine g_store ?_); refine wl_store hS (by rfl) (by rfl) (by rfl) (by rfl) (by rfl) (by with_reducible first | exact at0 | exact at1 | exact at2 | exact at3 | exact at4 | exact at5 | exact at6 | exact at7 | exact at8 | exact at9 | exact at10 | exact at11 | exact at12) (of_decide_eq_true (by rfl)) ?_; clear hS; intro w' hS; (try simp only [List.set_cons_zero, List.set_cons_succ] at hS); (try simp only [Act.eval, Act.put, List.setIfInBounds_toArray, List.set_cons_zero, List.set_cons_succ, Array.getD_eq_getD_getElem?, List.getElem?_toArray, List.getElem?_cons_succ, List.getElem?_cons_zero, Option.getD_some] at hS))
      refine bodyPost_end (results_none rfl _ _ _) rfl ⟨⟨_, rfl⟩, ?_⟩
      have hp := hpre.out
      rw [varint_small hm] at hp
      rw [← hp, ← List.append_assoc]
      rw [List.length_append] at hS
      exact hS.wrc
    · have hge : decide ((128 : Int) ≤ (m.toNat : Int)) = true := by simp; omega
      go_wp2_with (first | ((with_reducible refine g_load ?_); refine wl_load hS (by rfl) (by rfl) (by rfl) (by repeat (first | exact .head _ | refine .tail _ ?_)) (by rfl) ?_) | ((with_reducible refine g_lit ?_); (with_reducible refine stop_op ?_)))
      refine (?_ : wpList _ _ _ _ _ _)
      refine L_push (el := (UInt8.ofNat (m.toNat % 128 + 128))) hS (by rfl) (fun _ => by rfl) (fun _ => (by conv => lhs; whnf)) (of_decide_eq_true (by rfl)) (by with_reducible first | exact at0 | exact at1 | exact at2 | exact at3 | exact at4 | exact at5 | exact at6 | exact at7 | exact at8 | exact at9 | exact at10 | exact at11 | exact at12) (by rfl) (by rfl) (by decide) (by decide) (fun _ _ _ => (congrArg (fun v => [v]) (byte_big m) : [Value.int .u8 (bits .or .u8 ((m.toNat : Int) % 256) 128)] = [bv (UInt8.ofNat (m.toNat % 128 + 128))])) (by (try simp); omega) ?_; clear hS; intro A A1 c w' hS; (try simp only [List.set_cons_zero, List.set_cons_succ] at hS)
      go_wp2_with ((with_reducible refine g_store ?_); refine wl_store hS (by rfl) (by rfl) (by rfl) (by rfl) (by rfl) (by with_reducible first | exact at0 | exact at1 | exact at2 | exact at3 | exact at4 | exact at5 | exact at6 | exact at7 | exact at8 | exact at9 | exact at10 | exact at11 | exact at12) (of_decide_eq_true (by rfl)) ?_; clear hS; intro w' hS; (try simp only [List.set_cons_zero, List.set_cons_succ] at hS); (try simp only [Act.eval, Act.put, List.setIfInBounds_toArray, List.set_cons_zero, List.set_cons_succ, Array.getD_eq_getD_getElem?, List.getElem?_toArray, List.getElem?_cons_succ, List.getElem?_cons_zero, Option.getD_some] at hS))
      have hd : (m / 128).toNat = m.toNat / 128 := by rw [UInt64.toNat_div]; rfl
      go_roundw
      case rel =>
        refine Lib.hid ⟨m / 128, pre ++ [UInt8.ofNat (m.toNat % 128 + 128)], ?_, ?_, ?_⟩
        · show Value.int .u64 ((m.toNat : Int) / 128) = Value.int .u64 ((m / 128).toNat : Int)
          rw [hd]; rfl
        · have hp := hpre.out
          rw [varint_big hm] at hp
          rw [← hp, hd, List.append_assoc]
          rfl
        · rw [List.length_append] at hS
          rw [← List.append_assoc]
          exact hS.wrc
      case measure =>
        simp [intOf]
        omega
end Go.Proofs.Ytbjaecofccpahaa
