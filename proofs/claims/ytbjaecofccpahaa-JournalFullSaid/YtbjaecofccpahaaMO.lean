/-
  The reference's hash: its walks, and its contracts. Made of Hw1, Hw3.
-/
import Derived.Outline
import Derived.Lib.Hide
import Derived.Deep.QuietTactic
import Derived.BigQuiet
import Derived.Deep.Cut
import Derived.Test.YtbjaecofccpahaaMN
import Derived.Test.YtbjaecofccpahaaMJ
import Derived.Test.YtbjaecofccpahaaMC
import Derived.Test.YtbjaecofccpahaaMD
import Derived.Test.YtbjaecofccpahaaMK
namespace Go.Proofs.Ytbjaecofccpahaa
open Go Go.RowKit
set_option linter.unusedVariables false
set_option linter.unusedSimpArgs false
theorem rmix_any (s x : UInt64) (w : World) : Calls Try.prog 79 #[uv s, uv x] w fun e w' => e = .returned (uv (mix s x)) ∧ w = w' := by
  go_enter Try.func79, Try.ntmps79
  go_wp2
  go_ret
  exact ⟨congrArg _ (mix_walk2 s x), rfl⟩
set_option maxHeartbeats 1000000 in
theorem Words_any {W0 w : World} {L : List HP} (hS : St W0 w L) {v : Value} {l : List UInt8} (hv : Src L eB v l) (hl : l.length ≤ 140737488355328) :
    Calls Try.prog 65 #[v] w fun e w' => ∃ r, e = .returned r ∧ St W0 w' (own 53 eU r (wordsOf l) :: L) := by
  obtain ⟨A, cap, rfl, hcap⟩ := (hv.sl hS).form
  replace hS := hS.own_nil 53 eU
  go_enter Try.func65, Try.ntmps65
  go_wp2
  go_loopw [3, 4] (fun v i wr => Hid (∃ j : Nat, 8 * j ≤ l.length + 7 ∧ i = .int .i64 ((8 * j : Nat) : Int) ∧ St W0 wr (own 53 eU v ((List.range j).map (wordAt l)) :: L))) (fun _ i _ => l.length + 8 - (intOf i).toNat)
  case atStart => exact Lib.hid ⟨0, by omega, rfl, hS⟩
  case round =>
    clear hS w
    obtain ⟨j, hj, rfl, hS⟩ := hrel.out
    by_cases hlt : 8 * j < l.length
    · obtain ⟨m, hm⟩ : ∃ m, m = min 8 (l.length - 8 * j) := ⟨_, rfl⟩
      have hm1 : 1 ≤ m ∧ m ≤ 8 ∧ 8 * j + m ≤ l.length ∧ (m = 8 ∨ 8 * j + m = l.length) := by omega
      have hmm : min 8 (l.length - 8 * j) = m := hm.symm
      clear hm
      have Hm := Lib.hid hmm
      clear hmm
      obtain ⟨hm2, hm3, hm4, hm5⟩ := hm1
      by_cases h8 : 8 * j + 8 ≤ l.length
      all_goals
        go_wp2
        go_loop [5, 6] (fun x k => Hid (∃ q : Nat, q ≤ m ∧ k = .int .i64 (((8 * j + q : Nat) : Int) - 1) ∧ x = uv (leW ((l.drop (8 * j + q)).take (m - q))))) (fun _ k => (intOf k + 1 - 8 * j).toNat)
        case atStart =>
          refine Lib.hid ⟨m, Nat.le_refl _, ?_, ?_⟩
          · congr 1; omega
          · rw [Nat.sub_self]; rfl
        case round =>
          obtain ⟨q, hq, rfl, rfl⟩ := hrel.out
          by_cases hq0 : 1 ≤ q
          · go_wp2_with ((with_reducible refine g_idx ?_); first | (refine wl_idxB (by rfl) (by rfl) (by rfl) (by rfl) (Src.sl (by first | exact hv | exact (hv).c | exact (hv).c.c | exact (hv).c.c.c | exact (hv).c.c.c.c) hS) (by omega) (by omega) ?_; intro b off x hx hb hcell) | (refine wl_idxI (by rfl) (by rfl) (by rfl) (by rfl) (Src.sl (by first | exact hv | exact (hv).c | exact (hv).c.c | exact (hv).c.c.c | exact (hv).c.c.c.c) hS) (by omega) (by omega) ?_; intro b off x hx hcell) | (refine wl_idxU (by rfl) (by rfl) (by rfl) (by rfl) (Src.sl (by first | exact hv | exact (hv).c | exact (hv).c.c | exact (hv).c.c.c | exact (hv).c.c.c.c) hS) (by omega) (by omega) ?_; intro b off x hx hb hcell))
            go_round
            case rel =>
              have e : (((8 * j + q : Nat) : Int) - 1).toNat = 8 * j + (q - 1) := by omega
              rw [e] at hx
              refine Lib.hid ⟨q - 1, by omega, by congr 1; omega, ?_⟩
              have h1 := leW_snoc_step l _ x (m - q) hx
              have e2 : 8 * j + (q - 1) + 1 = 8 * j + q := by omega
              have e3 : m - q + 1 = m - (q - 1) := by omega
              rw [e2, e3] at h1
              rw [h1]
              first | exact leW_walk _ _ | exact (Value.int.inj (leW_walk _ _)).2
            case measure => simp [intOf]; omega
          · obtain rfl : q = 0 := by omega
            go_wp2_with ((with_reducible refine g_lit ?_); refine L_push hS (by rfl) (fun _ => by rfl) (fun _ => (by conv => lhs; whnf)) (of_decide_eq_true (by rfl)) (by with_reducible first | exact at0 | exact at1 | exact at2 | exact at3 | exact at4 | exact at5 | exact at6 | exact at7 | exact at8 | exact at9 | exact at10 | exact at11 | exact at12) (by rfl) (by rfl) (by decide) (by decide) (fun _ _ _ => by rfl) (by (try simp); omega) ?_; clear hS; intro A A1 c w' hS; (try simp only [List.set_cons_zero, List.set_cons_succ] at hS))
            go_roundw
            case rel =>
              refine Lib.hid ⟨j + 1, by omega, by first | rfl | (congr 1; omega), ?_⟩
              rw [List.range_succ, List.map_append]
              have e : leW (List.take (m - 0) (List.drop (8 * j + 0) l)) = wordAt l j := by
                unfold wordAt
                simp only [Nat.sub_zero, Nat.add_zero]
                rcases hm5 with rfl | h
                · rfl
                · rw [List.take_of_length_le (by simp; omega), List.take_of_length_le (by simp; omega)]
              rw [e] at hS
              simpa using hS
            case measure => simp [intOf]; omega
    · go_wp2_with fail
      go_ret
      refine ⟨_, rfl, ?_⟩
      have e : j = (l.length + 7) / 8 := by omega
      subst e
      exact hS
theorem rmix_i {a b : Int} {s x : UInt64} (ha : a = (s.toNat : Int)) (hb : b = (x.toNat : Int)) (w : World) : Calls Try.prog 79 #[.int .u64 a, .int .u64 b] w fun e w' => e = .returned (uv (mix s x)) ∧ w = w' := by
  subst ha; subst hb; exact rmix_any s x w
set_option maxRecDepth 8000 in
set_option maxHeartbeats 1000000 in
theorem rSum_any {W0 w : World} {L : List HP} (hS : St W0 w L) {s : ByteArray} (hs : s.size ≤ 100000000000000) {v : Value} {l : List Int} (hv : Src L eI v l) (hl : l.length ≤ 100000000000000) :
    Calls Try.prog 66 #[.string s, v] w fun e w' => e = .returned (uv (sumW s.data.toList l)) ∧ St W0 w' L := by
  obtain ⟨A, cap, rfl, hcap⟩ := (hv.sl hS).form
  obtain ⟨bs, hbs⟩ : ∃ bs, s.data.toList = bs := ⟨_, rfl⟩
  have hsl : bs.length = s.size := by rw [← hbs]; rfl
  rw [hbs]
  go_enter Try.func66, Try.ntmps66
  go_wp2_with ((with_reducible refine g_conv ?_); (with_reducible refine stop_op ?_))
  refine (?_ : wpList _ _ _ _ _ _)
  refine wl_bytes hS rfl (by rfl) (by rfl) ?_
  clear hS
  intro B c w' hS
  rw [hbs] at hS
  clear hbs
  go_wp2_with (go_at_call 65; refine (own_form (Words_any hS (.inl (.head _)) (by omega))).mono ?_; clear hS; rintro e w' ⟨B2, c2, rfl, hS⟩)
  obtain ⟨ws, hws⟩ : ∃ ws, wordsOf bs = ws := ⟨_, rfl⟩
  have hwl : ws.length ≤ 100000000000000 := by rw [← hws]; simp [wordsOf]; omega
  simp only [hws] at hS ⊢
  have hws := Lib.hid hws
  have hwd := Src.head (L := rd eB (.slice B s.size c) bs :: L) (t := 53) (R := eU) (v := .slice B2 ws.length c2) (l := ws)
  go_loop [5, 7] (fun v i => Hid (∃ j : Nat, j ≤ ws.length ∧ i = .int .i64 (j : Int) ∧ v = uv ((ws.take j).foldl mix 0))) (fun _ i => ws.length - (intOf i).toNat)
  case atStart => exact Lib.hid ⟨0, by omega, rfl, rfl⟩
  case round =>
    obtain ⟨j, hj, rfl, rfl⟩ := hrel.out
    by_cases hlt : j < ws.length
    · go_wp2_with ((with_reducible refine g_idx ?_); first | (refine wl_idxB (by rfl) (by rfl) (by rfl) (by rfl) (Src.sl (by first | exact hwd | exact (hwd).c | exact (hwd).c.c | exact (hwd).c.c.c | exact (hwd).c.c.c.c) hS) (by omega) (by omega) ?_; intro b off x hx hb hcell) | (refine wl_idxI (by rfl) (by rfl) (by rfl) (by rfl) (Src.sl (by first | exact hwd | exact (hwd).c | exact (hwd).c.c | exact (hwd).c.c.c | exact (hwd).c.c.c.c) hS) (by omega) (by omega) ?_; intro b off x hx hcell) | (refine wl_idxU (by rfl) (by rfl) (by rfl) (by rfl) (Src.sl (by first | exact hwd | exact (hwd).c | exact (hwd).c.c | exact (hwd).c.c.c | exact (hwd).c.c.c.c) hS) (by omega) (by omega) ?_; intro b off x hx hb hcell))
      go_wp2_with (go_at_call 79; refine (rmix_i rfl rfl _).mono ?_; rintro e w' ⟨rfl, rfl⟩)
      go_round
      case rel => exact Lib.hid ⟨j + 1, by omega, by go_num, (by rw [fold_snoc (i := j) hx]; try rfl)⟩
      case measure => simp [intOf]; omega
    · obtain rfl : j = ws.length := by omega
      rw [List.take_length]
      go_wp2_with (go_at_call 79; refine (rmix_i rfl (by first | exact ofIntI _ | exact u64_ofNat _ (by omega)) _).mono ?_; rintro e w' ⟨rfl, rfl⟩)
      obtain ⟨z, hz⟩ : ∃ z, mix (mix (ws.foldl mix 0) (UInt64.ofNat s.size)) (UInt64.ofNat l.length) = z := ⟨_, rfl⟩
      rw [hz]
      have hz := Lib.hid hz
      go_loop [5, 8] (fun v i => Hid (∃ j : Nat, j ≤ l.length ∧ i = .int .i64 (j : Int) ∧ v = uv ((l.take j).foldl mixI z))) (fun _ i => l.length - (intOf i).toNat)
      case atStart => exact Lib.hid ⟨0, by omega, rfl, rfl⟩
      case round =>
        obtain ⟨j, hj, rfl, rfl⟩ := hrel.out
        by_cases hlt : j < l.length
        · go_wp2_with ((with_reducible refine g_idx ?_); first | (refine wl_idxB (by rfl) (by rfl) (by rfl) (by rfl) (Src.sl (by first | exact hv | exact (hv).c | exact (hv).c.c | exact (hv).c.c.c | exact (hv).c.c.c.c) hS) (by omega) (by omega) ?_; intro b off x hx hb hcell) | (refine wl_idxI (by rfl) (by rfl) (by rfl) (by rfl) (Src.sl (by first | exact hv | exact (hv).c | exact (hv).c.c | exact (hv).c.c.c | exact (hv).c.c.c.c) hS) (by omega) (by omega) ?_; intro b off x hx hcell) | (refine wl_idxU (by rfl) (by rfl) (by rfl) (by rfl) (Src.sl (by first | exact hv | exact (hv).c | exact (hv).c.c | exact (hv).c.c.c | exact (hv).c.c.c.c) hS) (by omega) (by omega) ?_; intro b off x hx hb hcell))
          go_wp2_with (go_at_call 79; refine (rmix_i rfl (ofIntI _) _).mono ?_; rintro e w' ⟨rfl, rfl⟩)
          go_round
          case rel => exact Lib.hid ⟨j + 1, by omega, by go_num, (by rw [fold_snoc (i := j) hx]; try rfl)⟩
          case measure => simp [intOf]; omega
        · obtain rfl : j = l.length := by omega
          rw [List.take_length]
          go_wp2_with (go_at_call 79; refine (rmix_i rfl (show (0 : Int) = ((0 : UInt64).toNat : Int) from rfl) _).mono ?_; rintro e w' ⟨rfl, rfl⟩)
          go_ret
          refine ⟨?_, hS.drop.drop⟩
          have e : sumW bs l = mix (l.foldl mixI z) 0 := by unfold sumW; rw [hws.out, hsl, hz.out]
          refine Eq.trans ?_ (congrArg (fun x => Ending.returned (uv x)) e.symm)
          exact congrArg Ending.returned (by conv => lhs; whnf)
set_option maxRecDepth 8000 in
set_option maxHeartbeats 1000000 in
theorem rBytes_any {W0 w : World} {L : List HP} (hS : St W0 w L) {s : ByteArray} (hs : s.size ≤ 100000000000000) {v : Value} {l : List UInt8} (hv : Src L eB v l) (hl : l.length ≤ 10000000000000) :
    Calls Try.prog 50 #[.string s, v] w fun e w' => e = .returned (uv (bytesW s.data.toList l)) ∧ St W0 w' L := by
  obtain ⟨A, cap, rfl, hcap⟩ := (hv.sl hS).form
  obtain ⟨bs, hbs⟩ : ∃ bs, s.data.toList = bs := ⟨_, rfl⟩
  rw [hbs]
  go_enter Try.func50, Try.ntmps50
  go_wp2_with (go_at_call 65; refine (own_form (Words_any hS hv (by omega))).mono ?_; clear hS; rintro e w' ⟨B2, c2, rfl, hS⟩)
  obtain ⟨ws, hws⟩ : ∃ ws, wordsOf l = ws := ⟨_, rfl⟩
  have hwl : ws.length ≤ 10000000000000 := by rw [← hws]; simp [wordsOf]; omega
  simp only [hws] at hS ⊢
  have hws := Lib.hid hws
  have hwd := (Src.head (L := L) (t := 53) (R := eU) (v := .slice B2 ws.length c2) (l := ws)).c (A := own 3 eI (.slice none 0 0) [])
  replace hS := hS.own_nil 3 eI
  go_loopw [6, 7] (fun v i wr => Hid (∃ j : Nat, j ≤ ws.length ∧ i = .int .i64 (j : Int) ∧ St W0 wr (own 3 eI v ((ws.take j).map toI) :: own 53 eU (.slice B2 ws.length c2) ws :: L))) (fun _ i _ => ws.length - (intOf i).toNat)
  case atStart => exact Lib.hid ⟨0, by omega, rfl, hS⟩
  case round =>
    clear hS
    obtain ⟨j, hj, rfl, hS⟩ := hrel.out
    have hwd := (Src.head (L := L) (t := 53) (R := eU) (v := .slice B2 ws.length c2) (l := ws)).c (A := own 3 eI u6 ((ws.take j).map toI))
    by_cases hlt : j < ws.length
    · go_wp2_with (first | ((with_reducible refine g_idx ?_); first | (refine wl_idxB (by rfl) (by rfl) (by rfl) (by rfl) (Src.sl (by first | exact hwd | exact (hwd).c | exact (hwd).c.c | exact (hwd).c.c.c | exact (hwd).c.c.c.c) hS) (by omega) (by omega) ?_; intro b off x hx hb hcell) | (refine wl_idxI (by rfl) (by rfl) (by rfl) (by rfl) (Src.sl (by first | exact hwd | exact (hwd).c | exact (hwd).c.c | exact (hwd).c.c.c | exact (hwd).c.c.c.c) hS) (by omega) (by omega) ?_; intro b off x hx hcell) | (refine wl_idxU (by rfl) (by rfl) (by rfl) (by rfl) (Src.sl (by first | exact hwd | exact (hwd).c | exact (hwd).c.c | exact (hwd).c.c.c | exact (hwd).c.c.c.c) hS) (by omega) (by omega) ?_; intro b off x hx hb hcell)) | ((with_reducible refine g_lit ?_); refine L_push hS (by rfl) (fun _ => by rfl) (fun _ => (by conv => lhs; whnf)) (of_decide_eq_true (by rfl)) (by with_reducible first | exact at0 | exact at1 | exact at2 | exact at3 | exact at4 | exact at5 | exact at6 | exact at7 | exact at8 | exact at9 | exact at10 | exact at11 | exact at12) (by rfl) (by rfl) (by decide) (by decide) (fun _ _ _ => by rfl) (by (try simp); omega) ?_; clear hS; intro A A1 c w' hS; (try simp only [List.set_cons_zero, List.set_cons_succ] at hS)))
      go_roundw
      case rel =>
        refine Lib.hid ⟨j + 1, by omega, by go_num, ?_⟩
        have e : (ws.take (j + 1)).map toI = (ws.take j).map toI ++ [wrap64 (x.toNat : Int)] := by
          have hx : ws[j]? = some x := hx
          rw [List.take_add_one, hx]; simp [toI]
        rw [e]
        simpa [Nat.min_eq_left hj] using hS
      case measure => simp [intOf]; omega
    · obtain rfl : j = ws.length := by omega
      rw [List.take_length] at hS
      go_wp2_with ((with_reducible refine g_lit ?_); refine L_push hS (by rfl) (fun _ => by rfl) (fun _ => (by conv => lhs; whnf)) (of_decide_eq_true (by rfl)) (by with_reducible first | exact at0 | exact at1 | exact at2 | exact at3 | exact at4 | exact at5 | exact at6 | exact at7 | exact at8 | exact at9 | exact at10 | exact at11 | exact at12) (by rfl) (by rfl) (by decide) (by decide) (fun _ _ _ => by rfl) (by (try simp); omega) ?_; clear hS; intro A A1 c w' hS; (try simp only [List.set_cons_zero, List.set_cons_succ] at hS))
      refine (rSum_any (L := own 3 eI (.slice A (ws.length + 1) c) (ws.map toI ++ [(l.length : Int)]) :: own 53 eU (.slice B2 ws.length c2) ws :: L) (by simpa using hS) hs Src.head (by simp; omega)).mono ?_
      clear hS
      rintro e w' ⟨rfl, hS⟩
      go_wp2
      go_ret
      refine ⟨?_, hS.drop.drop⟩
      have e : bytesW bs l = sumW bs (ws.map toI ++ [(l.length : Int)]) := by unfold bytesW; rw [hws.out]
      refine Eq.trans ?_ (congrArg (fun x => Ending.returned (uv x)) e.symm)
      exact congrArg Ending.returned (by (conv => lhs; whnf); try first | rfl | (rw [hbs]; rfl))
section
variable {W0 : World} {L : List HP}
theorem rBytes_ct {s : ByteArray} {v : Value} {l : List UInt8} {z : UInt64} (hv : Src L eB v l) (hs : s.size ≤ 100000000000000) (hl : l.length ≤ 10000000000000) (hz : bytesW s.data.toList l = z) :
    CT Try.prog 50 #[.string s, v] W0 L fun r L' => r = uv z ∧ L' = L :=
  ⟨fun w s' => (rBytes_any s' hs hv (by omega)).mono fun e w' ⟨h, hw⟩ => ⟨_, _, h, ⟨by rw [hz], rfl⟩, hw⟩⟩
end
end Go.Proofs.Ytbjaecofccpahaa
namespace Go.Proofs.Ytbjaecofccpahaa
open Go Go.RowKit
set_option linter.unusedVariables false
set_option linter.unusedSimpArgs false
/-- the varint of a number -/
def varint (n : Nat) : List UInt8 := if n < 128 then [UInt8.ofNat n] else UInt8.ofNat (n % 128 + 128) :: varint (n / 128)
termination_by n
decreasing_by omega
def zig (n : Int) : Nat := if n < 0 then (-(2 * n) - 1).toNat else (2 * n).toNat
/-- how many groups of seven bits -/
def sizeV (n : Nat) : Nat := if n < 128 then 1 else sizeV (n / 128) + 1
termination_by n
decreasing_by omega
theorem varint_len (n : Nat) : (varint n).length = sizeV n := by
  induction n using varint.induct with
  | case1 n h => rw [varint, sizeV, if_pos h, if_pos h]; rfl
  | case2 n h ih => rw [varint, sizeV, if_neg h, if_neg h]; simp [ih]
theorem varint_small {n : Nat} (h : n < 128) : varint n = [UInt8.ofNat n] := by rw [varint, if_pos h]
theorem varint_big {n : Nat} (h : ¬ n < 128) : varint n = UInt8.ofNat (n % 128 + 128) :: varint (n / 128) := by rw [varint, if_neg h]
theorem sizeV_pos (n : Nat) : 1 ≤ sizeV n := by rw [sizeV]; split <;> omega
theorem sizeV_le : ∀ (k n : Nat), n < 128 ^ k → 0 < k → sizeV n ≤ k
  | 0, _, _, h => by omega
  | k + 1, n, hn, _ => by
    rw [sizeV]
    split
    · omega
    · rename_i h
      have hk : 0 < k := by
        rcases k with _ | k
        · simp at hn; omega
        · omega
      have := sizeV_le k (n / 128) (by rw [Nat.pow_succ] at hn; exact Nat.div_lt_of_lt_mul (by omega)) hk
      omega
end Go.Proofs.Ytbjaecofccpahaa
namespace Go.Proofs.Ytbjaecofccpahaa
open Go Go.RowKit
set_option linter.unusedVariables false
set_option linter.unusedSimpArgs false
/-- a writer at block p that holds bs -/
def wr (p : Nat) (bs : List UInt8) : HP := ex fun v => sp [cel p [v] 49, own 5 eB v bs]
theorem St.wro {p : Nat} {bs : List UInt8} {W0 w : World} {L : List HP} (hS : St W0 w (wr p bs :: L)) : ∃ v, St W0 w (cel p [v] 49 :: own 5 eB v bs :: L) := by
  obtain ⟨v, h⟩ := hS.ex_
  exact ⟨v, h.open_⟩
theorem St.wrc {p : Nat} {bs : List UInt8} {v : Value} {W0 w : World} {L : List HP} (hS : St W0 w (cel p [v] 49 :: own 5 eB v bs :: L)) : St W0 w (wr p bs :: L) :=
  St.mk_ex v (St.close_ (L := [cel p [v] 49, own 5 eB v bs]) hS)
theorem byte_small {m : UInt64} (h : m.toNat < 128) : Value.int .u8 (m.toNat : Int) = bv (UInt8.ofNat m.toNat) := by
  congr 1
  simp
  omega
theorem byte_big (m : UInt64) : Value.int .u8 (bits .or .u8 ((m.toNat : Int) % 256) 128) = bv (UInt8.ofNat (m.toNat % 128 + 128)) := by
  have h : ∀ k : Fin 256, bits .or .u8 (k.val : Int) 128 = (((UInt8.ofNat (k.val % 128 + 128)).toNat : Nat) : Int) := by decide +kernel
  have h2 := h ⟨m.toNat % 256, Nat.mod_lt _ (by omega)⟩
  have e1 : (m.toNat : Int) % 256 = ((m.toNat % 256 : Nat) : Int) := by omega
  have e2 : m.toNat % 256 % 128 = m.toNat % 128 := by omega
  rw [e1, h2, e2]
set_option maxRecDepth 8000 in
set_option maxHeartbeats 1000000 in
theorem wUint_any {W0 w : World} {L : List HP} {p : Nat} {bs : List UInt8} (hS : St W0 w (wr p bs :: L)) (n : UInt64) (hl : bs.length ≤ 100000000000000) :
    Calls Try.prog 30 #[.pointer (some ⟨p, 0, none⟩), uv n] w fun e w' => (∃ v, e = .returned v) ∧ St W0 w' (wr p (bs ++ varint n.toNat) :: L) := by
  go_enter Try.func30, Try.ntmps30
  go_wp2
  go_loopw [1] (fun x wr' => Hid (∃ (m : UInt64) (pre : List UInt8), x = uv m ∧ pre ++ varint m.toNat = varint n.toNat ∧ St W0 wr' (wr p (bs ++ pre) :: L))) (fun x _ => (intOf x).toNat)
  case atStart => exact Lib.hid ⟨n, [], rfl, rfl, by simpa using hS⟩
  case round =>
    clear hS
    obtain ⟨m, pre, rfl, hpre, hS⟩ := hrel.out
    clear hrel
    have hplen : pre.length ≤ 10 := by
      have h1 := congrArg List.length hpre
      rw [List.length_append, varint_len n.toNat] at h1
      have h2 := sizeV_le 10 n.toNat (Nat.lt_of_lt_of_le (u64_lt n) (by decide)) (by decide)
      omega
    replace hpre := Lib.hid hpre
    obtain ⟨v, hS⟩ := hS.wro
    by_cases hm : m.toNat < 128
    · have hge : decide ((128 : Int) ≤ (m.toNat : Int)) = false := by simp; omega
      go_wp2_with (first | ((with_reducible refine g_load ?_); refine wl_load hS (by rfl) (by rfl) (by rfl) (by repeat (first | exact .head _ | refine .tail _ ?_)) (by rfl) ?_) | ((with_reducible refine g_lit ?_); (with_reducible refine stop_op ?_)))
      refine (?_ : wpList _ _ _ _ _ _)
      refine L_push (el := (UInt8.ofNat m.toNat)) hS (by rfl) (fun _ => by rfl) (fun _ => (by conv => lhs; whnf)) (of_decide_eq_true (by rfl)) (by with_reducible first | exact at0 | exact at1 | exact at2 | exact at3 | exact at4 | exact at5 | exact at6 | exact at7 | exact at8 | exact at9 | exact at10 | exact at11 | exact at12) (by rfl) (by rfl) (by decide) (by decide) (fun _ _ _ => (congrArg (fun v => [v]) (byte_small hm) : [Value.int .u8 (m.toNat : Int)] = [bv (UInt8.ofNat m.toNat)])) (by (try simp); omega) ?_; clear hS; intro A A1 c w' hS; (try simp only [List.set_cons_zero, List.set_cons_succ] at hS)
      go_wp2_with ((with_reducible refine g_store ?_); refine wl_store hS (by rfl) (by rfl) (by rfl) (by rfl) (by rfl) (by with_reducible first | exact at0 | exact at1 | exact at2 | exact at3 | exact at4 | exact at5 | exact at6 | exact at7 | exact at8 | exact at9 | exact at10 | exact at11 | exact at12) (of_decide_eq_true (by rfl)) ?_; clear hS; intro w' hS; (try simp only [List.set_cons_zero, List.set_cons_succ] at hS); (try simp only [Act.eval, Act.put, List.setIfInBounds_toArray, List.set_cons_zero, List.set_cons_succ, Array.getD_eq_getD_getElem?, List.getElem?_toArray, List.getElem?_cons_succ, List.getElem?_cons_zero, Option.getD_some] at hS))
      refine bodyPost_end (results_none rfl _ _ _) rfl ⟨⟨_, rfl⟩, ?_⟩
      have hp := hpre.out
      rw [varint_small hm] at hp
      rw [← hp, ← List.append_assoc]
      rw [List.length_append] at hS
      exact hS.wrc
    · have hge : decide ((128 : Int) ≤ (m.toNat : Int)) = true := by simp; omega
      go_wp2_with (first | ((with_reducible refine g_load ?_); refine wl_load hS (by rfl) (by rfl) (by rfl) (by repeat (first | exact .head _ | refine .tail _ ?_)) (by rfl) ?_) | ((with_reducible refine g_lit ?_); (with_reducible refine stop_op ?_)))
      refine (?_ : wpList _ _ _ _ _ _)
      refine L_push (el := (UInt8.ofNat (m.toNat % 128 + 128))) hS (by rfl) (fun _ => by rfl) (fun _ => (by conv => lhs; whnf)) (of_decide_eq_true (by rfl)) (by with_reducible first | exact at0 | exact at1 | exact at2 | exact at3 | exact at4 | exact at5 | exact at6 | exact at7 | exact at8 | exact at9 | exact at10 | exact at11 | exact at12) (by rfl) (by rfl) (by decide) (by decide) (fun _ _ _ => (congrArg (fun v => [v]) (byte_big m) : [Value.int .u8 (bits .or .u8 ((m.toNat : Int) % 256) 128)] = [bv (UInt8.ofNat (m.toNat % 128 + 128))])) (by (try simp); omega) ?_; clear hS; intro A A1 c w' hS; (try simp only [List.set_cons_zero, List.set_cons_succ] at hS)
      go_wp2_with ((with_reducible refine g_store ?_); refine wl_store hS (by rfl) (by rfl) (by rfl) (by rfl) (by rfl) (by with_reducible first | exact at0 | exact at1 | exact at2 | exact at3 | exact at4 | exact at5 | exact at6 | exact at7 | exact at8 | exact at9 | exact at10 | exact at11 | exact at12) (of_decide_eq_true (by rfl)) ?_; clear hS; intro w' hS; (try simp only [List.set_cons_zero, List.set_cons_succ] at hS); (try simp only [Act.eval, Act.put, List.setIfInBounds_toArray, List.set_cons_zero, List.set_cons_succ, Array.getD_eq_getD_getElem?, List.getElem?_toArray, List.getElem?_cons_succ, List.getElem?_cons_zero, Option.getD_some] at hS))
      have hd : (m / 128).toNat = m.toNat / 128 := by rw [UInt64.toNat_div]; rfl
      go_roundw
      case rel =>
        refine Lib.hid ⟨m / 128, pre ++ [UInt8.ofNat (m.toNat % 128 + 128)], ?_, ?_, ?_⟩
        · show Value.int .u64 ((m.toNat : Int) / 128) = Value.int .u64 ((m / 128).toNat : Int)
          rw [hd]; rfl
        · have hp := hpre.out
          rw [varint_big hm] at hp
          rw [← hp, hd, List.append_assoc]
          rfl
        · rw [List.length_append] at hS
          rw [← List.append_assoc]
          exact hS.wrc
      case measure =>
        simp [intOf]
        omega
end Go.Proofs.Ytbjaecofccpahaa
namespace Go.Proofs.Ytbjaecofccpahaa
open Go Go.RowKit
set_option linter.unusedVariables false
set_option linter.unusedSimpArgs false
theorem ofIntI' (n : Int) : IntKind.u64.wrap n = ((UInt64.ofInt n).toNat : Int) := by
  rw [IntKind.wrap_u64]
  simp [UInt64.ofInt]
  omega
def zigU (n : Int) : UInt64 := UInt64.ofNat (zig n)
theorem xor_ones (a : UInt64) : ((a ^^^ 18446744073709551615).toNat : Int) = 18446744073709551615 - (a.toNat : Int) := by
  have e : a ^^^ 18446744073709551615 = ~~~a := by
    apply UInt64.eq_of_toBitVec_eq
    simp only [UInt64.toBitVec_xor, UInt64.toBitVec_not]
    have : (18446744073709551615 : UInt64).toBitVec = BitVec.allOnes 64 := by decide
    rw [this, BitVec.xor_allOnes]
  rw [e]
  have h := u64_lt a
  have h2 : (~~~a).toNat = 18446744073709551615 - a.toNat := by
    show (~~~a).toBitVec.toNat = _
    rw [UInt64.toBitVec_not, BitVec.toNat_not]
    rfl
  rw [h2]
  omega
theorem zig_walk {n : Int} (h1 : -9223372036854775808 ≤ n) (h2 : n ≤ 9223372036854775807) :
    (Value.int IntKind.u64 (bits BinOp.xor IntKind.u64 (IntKind.u64.wrap (IntKind.u64.wrap n * 2)) (IntKind.u64.wrap (n / 9223372036854775808)))) = uv (zigU n) := by
  obtain ⟨x, hx⟩ : ∃ x : UInt64, IntKind.u64.wrap (IntKind.u64.wrap n * 2) = (x.toNat : Int) := ⟨UInt64.ofInt (IntKind.u64.wrap n * 2), ofIntI' _⟩
  have hz : zig n < 18446744073709551616 := by unfold zig; split <;> omega
  have hzu : ((zigU n).toNat : Int) = (zig n : Int) := by unfold zigU; rw [UInt64.toNat_ofNat']; omega
  have hx2 := hx
  rw [IntKind.wrap_u64, IntKind.wrap_u64] at hx2
  rw [hx]
  congr 1
  by_cases hn : n < 0
  · have e : IntKind.u64.wrap (n / 9223372036854775808) = (((18446744073709551615 : UInt64)).toNat : Int) := by
      have : n / 9223372036854775808 = -1 := by omega
      rw [this]; decide
    rw [e, u64_xor, xor_ones, hzu]
    unfold zig
    rw [if_pos hn]
    omega
  · have e : IntKind.u64.wrap (n / 9223372036854775808) = (((0 : UInt64)).toNat : Int) := by
      have : n / 9223372036854775808 = 0 := by omega
      rw [this]; decide
    rw [e, u64_xor, hzu]
    unfold zig
    rw [if_neg hn, UInt64.xor_zero]
    omega
theorem zigzag_any (n : Int) (w : World) (h1 : -9223372036854775808 ≤ n) (h2 : n ≤ 9223372036854775807) :
    Calls Try.prog 53 #[iv n] w fun e w' => e = .returned (uv (zigU n)) ∧ w = w' := by
  go_enter Try.func53, Try.ntmps53
  go_wp2
  go_ret
  exact ⟨congrArg (fun v => Ending.returned v) (zig_walk h1 h2), rfl⟩
theorem wInt_any {W0 w : World} {L : List HP} {p : Nat} {bs : List UInt8} (hS : St W0 w (wr p bs :: L)) (n : Int) (h1 : -9223372036854775808 ≤ n) (h2 : n ≤ 9223372036854775807) (hl : bs.length ≤ 100000000000000) :
    Calls Try.prog 27 #[.pointer (some ⟨p, 0, none⟩), iv n] w fun e w' => (∃ v, e = .returned v) ∧ St W0 w' (wr p (bs ++ varint (zigU n).toNat) :: L) := by
  go_enter Try.func27, Try.ntmps27
  go_wp2_with (first | (go_at_call 53; refine (zigzag_any n _ h1 h2).mono ?_; rintro e w' ⟨rfl, rfl⟩) | (go_at_call 30; (with_reducible refine stop_op ?_)))
  refine (wUint_any hS (zigU n) hl).mono ?_
  rintro _ w' ⟨⟨v, rfl⟩, hS⟩
  go_wp2
  exact bodyPost_end (results_none rfl _ _ _) rfl ⟨⟨_, rfl⟩, hS⟩
end Go.Proofs.Ytbjaecofccpahaa
namespace Go.Proofs.Ytbjaecofccpahaa
open Go Go.RowKit
set_option linter.unusedVariables false
set_option linter.unusedSimpArgs false
set_option maxRecDepth 20000
set_option synthInstance.maxSize 100000
set_option synthInstance.maxHeartbeats 400000
section
variable {W0 : World} {L : List HP}
/-- a number of 64 bits, said by a natural number -/
theorem uvn {m : Nat} (h : m < 18446744073709551616) : Value.int .u64 (m : Int) = uv (UInt64.ofNat m) ∧ (UInt64.ofNat m).toNat = m := by
  have : (UInt64.ofNat m).toNat = m := by rw [UInt64.toNat_ofNat']; omega
  exact ⟨by rw [uv, this], this⟩
theorem wUint_ct {p m : Nat} {bs : List UInt8} (hm : m < 18446744073709551616) (hl : bs.length ≤ 100000000000000) :
    CT Try.prog 30 #[.pointer (some ⟨p, 0, none⟩), .int .u64 (m : Int)] W0 (wr p bs :: L) fun r L' => L' = wr p (bs ++ varint m) :: L := by
  refine ⟨fun w s => ?_⟩
  have := wUint_any s (UInt64.ofNat m) hl
  rw [← (uvn hm).1, (uvn hm).2] at this
  exact this.mono fun e w' ⟨⟨v, hv⟩, h⟩ => ⟨v, _, hv, rfl, h⟩
theorem wInt_ct {p : Nat} {n : Int} {bs : List UInt8} (h1 : -9223372036854775808 ≤ n) (h2 : n ≤ 9223372036854775807) (hl : bs.length ≤ 100000000000000) :
    CT Try.prog 27 #[.pointer (some ⟨p, 0, none⟩), .int .i64 n] W0 (wr p bs :: L) fun r L' => L' = wr p (bs ++ varint (zig n)) :: L := by
  refine ⟨fun w s => ?_⟩
  have := wInt_any s n h1 h2 hl
  rw [zigU, (uvn (m := zig n) (by unfold zig; split <;> omega)).2] at this
  exact this.mono fun e w' ⟨⟨v, hv⟩, h⟩ => ⟨v, _, hv, rfl, h⟩
theorem wr_open {ops : Array Oper} {Q : Exit → Act → World → Prop} {rest : List Oper} {a : Act} {p : Nat} {bs : List UInt8} (k : ∀ A c, OL Try.prog W0 (cel p [.slice A bs.length c] 49 :: own 5 eB (.slice A bs.length c) bs :: L) ops Q rest a) : OL Try.prog W0 (wr p bs :: L) ops Q rest a := by
  refine ⟨fun w s => ?_⟩
  obtain ⟨v, h⟩ := s.wro
  obtain ⟨A, c, rfl, _⟩ := (h.rdo (.tail _ (.head _))).form
  exact (k A c).run w h
theorem wr_sub {p : Nat} {v : Value} {bs : List UInt8} : Sub (cel p [v] 49 :: own 5 eB v bs :: L) (wr p bs :: L) := (sub_close (Ls := [cel p [v] 49, own 5 eB v bs])).trans (sub_ex (F := fun v => sp [cel p [v] 49, own 5 eB v bs]) v)
theorem wText_ct {p : Nat} {bs : List UInt8} (s : ByteArray) (hs : s.size ≤ 1000000000000) (hl : bs.length ≤ 1000000000000) :
    CT Try.prog 54 #[.pointer (some ⟨p, 0, none⟩), .string s] W0 (wr p bs :: L) fun r L' => L' = wr p (bs ++ varint s.size ++ s.data.toList) :: L := by
  have hv := sizeV_le 10 s.size (Nat.lt_of_le_of_lt hs (by decide)) (by decide)
  rw [← varint_len] at hv
  refine CT_enter Try.func54 rfl ?_; (simp only [Try.ntmps54, List.size_toArray, List.length_cons, List.length_nil, Nat.reduceAdd, Nat.reduceSub, Array.replicate_succ, Array.replicate_zero, List.push_toArray, List.append_toArray, List.nil_append, List.cons_append])
  repeat' (first | refine go ?_ | intro _ | (apply cG; first | refine cT ?_ | refine cF ?_ | refine cS (fun _ => ?_) fun _ => ?_) | (apply gW; refine sW ?_) | (apply gI; refine sI ?_) | (apply gE; refine sE ?_) | (apply gP; refine sP ?_) | (apply gC; refine sC ?_) | (apply gD; refine sD ?_) | fail)
  refine O_d (dy_call ArgsI.pf (by first | exact rfl | trivial | (intro a b; rfl)) (wUint_ct (by omega) (by omega))) ?_; rintro _ _ ⟨_, rfl, rfl⟩; refine O_n ?_
  repeat' (first | refine go ?_ | intro _ | (apply cG; first | refine cT ?_ | refine cF ?_ | refine cS (fun _ => ?_) fun _ => ?_) | (apply gW; refine sW ?_) | (apply gI; refine sI ?_) | (apply gE; refine sE ?_) | (apply gP; refine sP ?_) | (apply gC; refine sC ?_) | (apply gD; refine sD ?_) | fail)
  refine wr_open fun A c => ?_
  repeat' (first | refine go ?_ | intro _ | (apply cG; first | refine cT ?_ | refine cF ?_ | refine cS (fun _ => ?_) fun _ => ?_) | (apply gW; refine sW ?_) | (apply gI; refine sI ?_) | (apply gE; refine sE ?_) | (apply gP; refine sP ?_) | (apply gC; refine sC ?_) | (apply gD; refine sD ?_) | fail)
  refine E_sub wr_sub ?_
  refine E_end0 (by first | exact .inl rfl | exact .inr rfl) (by rfl) (by rfl) rfl
theorem wRaw_ct {p : Nat} {v : Value} {l bs : List UInt8} (hv : Src L eB v l) (hs : l.length ≤ 1000000000000) (hl : bs.length ≤ 1000000000000) :
    CT Try.prog 28 #[.pointer (some ⟨p, 0, none⟩), v] W0 (wr p bs :: L) fun r L' => L' = wr p (bs ++ varint l.length ++ l) :: L := by
  replace hv : Sc L v eB l := ⟨hv⟩
  refine CT_enter Try.func28 rfl ?_; (simp only [Try.ntmps28, List.size_toArray, List.length_cons, List.length_nil, Nat.reduceAdd, Nat.reduceSub, Array.replicate_succ, Array.replicate_zero, List.push_toArray, List.append_toArray, List.nil_append, List.cons_append])
  repeat' (first | refine go ?_ | intro _ | (apply cG; first | refine cT ?_ | refine cF ?_ | refine cS (fun _ => ?_) fun _ => ?_) | (apply gW; refine sW ?_) | (apply gI; refine sI ?_) | (apply gE; refine sE ?_) | (apply gP; refine sP ?_) | (apply gC; refine sC ?_) | (apply gD; refine sD ?_) | fail)
  refine O_d (dy_call ArgsI.pf (by first | exact rfl | trivial | (intro a b; rfl)) (wText_ct ⟨l.toArray⟩ (by show l.toArray.size ≤ _; simpa using hs) hl)) ?_; rintro _ _ ⟨_, rfl, rfl⟩; refine O_n ?_
  repeat' (first | refine go ?_ | intro _ | (apply cG; first | refine cT ?_ | refine cF ?_ | refine cS (fun _ => ?_) fun _ => ?_) | (apply gW; refine sW ?_) | (apply gI; refine sI ?_) | (apply gE; refine sE ?_) | (apply gP; refine sP ?_) | (apply gC; refine sC ?_) | (apply gD; refine sD ?_) | fail)
  refine E_end0 (by first | exact .inl rfl | exact .inr rfl) (by rfl) (by rfl) rfl
theorem wDone_ct {p : Nat} {bs : List UInt8} (hl : bs.length ≤ 100000000000000) :
    CT Try.prog 29 #[.pointer (some ⟨p, 0, none⟩)] W0 (wr p bs :: L) fun r L' => ∃ A c, r = .slice A bs.length c ∧ L' = own 5 eB (.slice A bs.length c) bs :: wr p bs :: L := by
  refine CT_enter Try.func29 rfl ?_; (simp only [Try.ntmps29, List.size_toArray, List.length_cons, List.length_nil, Nat.reduceAdd, Nat.reduceSub, Array.replicate_succ, Array.replicate_zero, List.push_toArray, List.append_toArray, List.nil_append, List.cons_append])
  repeat' (first | refine go ?_ | intro _ | (apply cG; first | refine cT ?_ | refine cF ?_ | refine cS (fun _ => ?_) fun _ => ?_) | (apply gW; refine sW ?_) | (apply gI; refine sI ?_) | (apply gE; refine sE ?_) | (apply gP; refine sP ?_) | (apply gC; refine sC ?_) | (apply gD; refine sD ?_) | fail)
  refine wr_open fun A c => ?_
  repeat' (first | refine go ?_ | intro _ | (apply cG; first | refine cT ?_ | refine cF ?_ | refine cS (fun _ => ?_) fun _ => ?_) | (apply gW; refine sW ?_) | (apply gI; refine sI ?_) | (apply gE; refine sE ?_) | (apply gP; refine sP ?_) | (apply gC; refine sC ?_) | (apply gD; refine sD ?_) | fail)
  refine O_d (dy_call ArgsI.pf (by first | exact rfl | trivial | (intro a b; rfl)) (Clone_ct Sc.pf hl)) ?_; rintro _ _ ⟨_, ⟨A', c', rfl, rfl⟩, rfl⟩; refine O_n ?_
  repeat' (first | refine go ?_ | intro _ | (apply cG; first | refine cT ?_ | refine cF ?_ | refine cS (fun _ => ?_) fun _ => ?_) | (apply gW; refine sW ?_) | (apply gI; refine sI ?_) | (apply gE; refine sE ?_) | (apply gP; refine sP ?_) | (apply gC; refine sC ?_) | (apply gD; refine sD ?_) | fail)
  refine E_sub (sub_skip wr_sub) ?_
  refine E_end1 (by rfl) (by rfl) Ev.pf ⟨_, _, rfl, rfl⟩
/-- the encodings of a list's numbers -/
def encI (l : List Int) : List UInt8 := (l.map fun n => varint (zig n)).flatten
theorem encI_snoc (l : List Int) (n : Int) : encI (l ++ [n]) = encI l ++ varint (zig n) := by simp [encI]
theorem zig_lt {n : Int} (h1 : -9223372036854775808 ≤ n) (h2 : n ≤ 9223372036854775807) : zig n < 18446744073709551616 := by unfold zig; split <;> omega
theorem vlen {m : Nat} (h : m < 18446744073709551616) : (varint m).length ≤ 10 := by
  rw [varint_len]; exact sizeV_le 10 m (Nat.lt_of_lt_of_le h (by decide)) (by decide)
theorem encI_len : ∀ {l : List Int}, (∀ n ∈ l, -9223372036854775808 ≤ n ∧ n ≤ 9223372036854775807) → (encI l).length ≤ 10 * l.length
  | [], _ => by simp [encI]
  | n :: l, h => by
    have h1 := encI_len (l := l) fun x hx => h x (.tail _ hx)
    have h2 := h n (.head _)
    have h3 := vlen (zig_lt h2.1 h2.2)
    simp only [encI, List.map_cons, List.flatten_cons, List.length_append, List.length_cons] at *
    omega
theorem take_snoc' {α : Type} {l : List α} {k : Nat} {x : α} (h : l[k]? = some x) : l.take (k + 1) = l.take k ++ [x] := by
  rw [List.take_add_one, h]; rfl
end
end Go.Proofs.Ytbjaecofccpahaa
namespace Go.Proofs.Ytbjaecofccpahaa
open Go Go.RowKit
set_option linter.unusedVariables false
set_option linter.unusedSimpArgs false
/-- a reader: the bytes that are left, the error (0: none, 2: form, 3: more) -/
abbrev Rs := List UInt8 × Int
def rFail (s : Rs) (e : Int) : Rs := if s.2 = 0 then (s.1, e) else s
def rNext (s : Rs) : UInt8 × Rs :=
  if s.2 = 0 then (match s.1 with
    | [] => (0, ([], 3))
    | c :: r => (c, (r, 0))) else (0, s)
/-- from byte number i on, n so far -/
def rUi : Nat → Nat → List UInt8 → Nat × Rs
  | _, _, [] => (0, ([], 3))
  | i, n, c :: r => if (i = 9 ∧ 1 < c.toNat) ∨ (0 < i ∧ c.toNat = 0) then (0, (r, 2)) else if c.toNat < 128 then (n + c.toNat * 128 ^ i, (r, 0)) else rUi (i + 1) (n + (c.toNat - 128) * 128 ^ i) r
def rU (s : Rs) : Nat × Rs := if s.2 = 0 then rUi 0 0 s.1 else (0, s)
def unzig (n : Nat) : Int := if n % 2 = 1 then -((n / 2 : Nat) : Int) - 1 else ((n / 2 : Nat) : Int)
def rI (s : Rs) : Int × Rs := (unzig (rU s).1, (rU s).2)
def rB (s : Rs) : Bool × Rs := ((rNext s).1.toNat = 1, if 1 < (rNext s).1.toNat then rFail (rNext s).2 2 else (rNext s).2)
/-- a list's elements, by a reading of one -/
def rMany {α : Type} (f : Rs → α × Rs) : Nat → Rs → List α × Rs
  | 0, s => ([], s)
  | n + 1, s => if s.2 = 0 then ((f s).1 :: (rMany f n (f s).2).1, (rMany f n (f s).2).2) else ([], s)
def rList {α : Type} (f : Rs → α × Rs) (s : Rs) : List α × Rs :=
  let n := (rU s).1
  let s1 := if (rU s).2.1.length < n then rFail (rU s).2 3 else (rU s).2
  let r := rMany f n s1
  (if r.2.2 = 0 then r.1 else [], r.2)
def rEnd (s : Rs) : Int := if s.2 = 0 ∧ 0 < s.1.length then 2 else s.2
/-- errors stay; bytes are taken from the front -/
theorem rUi_suffix : ∀ (i n : Nat) (l : List UInt8), (rUi i n l).2.1.length ≤ l.length
  | _, _, [] => by simp [rUi]
  | i, n, c :: r => by
    rw [rUi]
    split
    · simp
    · split
      · simp
      · have := rUi_suffix (i + 1) (n + (c.toNat - 128) * 128 ^ i) r
        simp only [List.length_cons]; omega
theorem rUi_lt : ∀ (l : List UInt8) (i n : Nat), i ≤ 9 → n < 128 ^ i → (rUi i n l).1 < 18446744073709551616
  | [], _, _, _, _ => by simp [rUi]
  | c :: r, i, n, hi, hn => by
    rw [rUi]
    split
    · simp
    · rename_i h1
      have hc : c.toNat < 256 := c.toNat_lt
      split
      · rename_i h2
        dsimp only
        rcases Nat.lt_or_ge i 9 with h9 | h9
        · have : 128 ^ (i + 1) ≤ 128 ^ 9 := Nat.pow_le_pow_right (by decide) h9
          have e : c.toNat * 128 ^ i ≤ 127 * 128 ^ i := Nat.mul_le_mul_right _ (by omega)
          rw [Nat.pow_succ] at this
          have : (128 : Nat) ^ 9 = 9223372036854775808 := by decide
          omega
        · have : i = 9 := by omega
          subst this
          have e9 : (128 : Nat) ^ 9 = 9223372036854775808 := by decide
          rw [e9] at hn ⊢
          have : c.toNat ≤ 1 := by
            rcases Nat.lt_or_ge 1 c.toNat with h | h
            · exact absurd (.inl ⟨rfl, h⟩) h1
            · exact h
          omega
      · rename_i h2
        have h9 : i ≠ 9 := fun e => h1 (.inl ⟨e, by omega⟩)
        refine rUi_lt r (i + 1) _ (by omega) ?_
        rw [Nat.pow_succ]
        have e : (c.toNat - 128) * 128 ^ i ≤ 127 * 128 ^ i := Nat.mul_le_mul_right _ (by omega)
        omega
theorem rU_lt (s : Rs) : (rU s).1 < 18446744073709551616 := by
  unfold rU; split
  · exact rUi_lt _ 0 0 (by omega) (by decide)
  · simp
theorem rU_len (s : Rs) : (rU s).2.1.length ≤ s.1.length := by
  unfold rU; split
  · exact rUi_suffix _ _ _
  · exact Nat.le_refl _
theorem rNext_len (s : Rs) : (rNext s).2.1.length ≤ s.1.length := by
  unfold rNext; split
  · split
    · simp
    · rename_i h; rw [h]; simp
  · exact Nat.le_refl _
end Go.Proofs.Ytbjaecofccpahaa
