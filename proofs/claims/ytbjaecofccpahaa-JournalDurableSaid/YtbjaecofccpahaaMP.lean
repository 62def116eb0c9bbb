/-
  The reference's hash: its walks, and its contracts. Made of Hw1, Hw3.
-/
import Derived.Test.YtbjaecofccpahaaMO
import Derived.Test.YtbjaecofccpahaaMK
namespace Go.Proofs.Ytbjaecofccpahaa
open Go Go.RowKit
set_option linter.unusedVariables false
set_option linter.unusedSimpArgs false
theorem rmix_any (s x : UInt64) (w : World) : Calls Try.prog 79 #[uv s, uv x] w fun e w' => e = .returned (uv (mix s x)) ∧ w = w' := by
  go_enter Try.func79, Try.ntmps79
  go_wp2
  go_ret
  exact ⟨congrArg _ (mix_walk2 s x), rfl⟩
set_option maxHeartbeats 1000000 in
theorem Words_any {W0 w : World} {L : List HP} (hS : St W0 w L) {v : Value} {l : List UInt8} (hv : Src L eB v l) (hl : l.length ≤ 140737488355328) :
    Calls Try.prog 65 #[v] w fun e w' => ∃ r, e = .returned r ∧ St W0 w' (own 53 eU r (wordsOf l) :: L) := by
  obtain ⟨A, cap, rfl, hcap⟩ := (hv.sl hS).form
  replace hS := hS.own_nil 53 eU
  go_enter Try.func65, Try.ntmps65
  go_wp2
  go_loopw [3, 4] (fun v i wr => Hid (∃ j : Nat, 8 * j ≤ l.length + 7 ∧ i = .int .i64 ((8 * j : Nat) : Int) ∧ St W0 wr (own 53 eU v ((List.range j).map (wordAt l)) :: L))) (fun _ i _ => l.length + 8 - (intOf i).toNat)
  case atStart => exact Lib.hid ⟨0, by omega, rfl, hS⟩
  case round =>
    clear hS w
    obtain ⟨j, hj, rfl, hS⟩ := hrel.out
    by_cases hlt : 8 * j < l.length
    · obtain ⟨m, hm⟩ : ∃ m, m = min 8 (l.length - 8 * j) := ⟨_, rfl⟩
      have hm1 : 1 ≤ m ∧ m ≤ 8 ∧ 8 * j + m ≤ l.length ∧ (m = 8 ∨ 8 * j + m = l.length) := by omega
      have hmm : min 8 (l.length - 8 * j) = m := hm.symm
      clear hm
      have Hm := Lib.hid hmm
      clear hmm
      obtain ⟨hm2, hm3, hm4, hm5⟩ := hm1
      by_cases h8 : 8 * j + 8 ≤ l.length
      all_goals
        go_wp2
        go_loop [5, 6] (fun x k => Hid (∃ q : Nat, q ≤ m ∧ k = .int .i64 (((8 * j + q : Nat) : Int) - 1) ∧ x = uv (leW ((l.drop (8 * j + q)).take (m - q))))) (fun _ k => (intOf k + 1 - 8 * j).toNat)
        case atStart =>
          refine Lib.hid ⟨m, Nat.le_refl _, ?_, ?_⟩
          · congr 1; omega
          · rw [Nat.sub_self]; rfl
        case round =>
          obtain ⟨q, hq, rfl, rfl⟩ := hrel.out
          by_cases hq0 : 1 ≤ q
          · go_wp2_with ((with_reducible refine g_idx ?_); first | (refine wl_idxB (by rfl) (by rfl) (by rfl) (by rfl) (Src.sl (by first | exact hv | exact (hv).c | exact (hv).c.c | exact (hv).c.c.c | exact (hv).c.c.c.c) hS) (by omega) (by omega) ?_; intro b off x hx hb hcell) | (refine wl_idxI (by rfl) (by rfl) (by rfl) (by rfl) (Src.sl (by first | exact hv | exact (hv).c | exact (hv).c.c | exact (hv).c.c.c | exact (hv).c.c.c.c) hS) (by omega) (by omega) ?_; intro b off x hx hcell) | (refine wl_idxU (by rfl) (by rfl) (by rfl) (by rfl) (Src.sl (by first | exact hv | exact (hv).c | exact (hv).c.c | exact (hv).c.c.c | exact (hv).c.c.c.c) hS) (by omega) (by omega) ?_; intro b off x hx hb hcell))
            go_round
            case rel =>
              have e : (((8 * j + q : Nat) : Int) - 1).toNat = 8 * j + (q - 1) := by omega
              rw [e] at hx
              refine Lib.hid ⟨q - 1, by omega, by congr 1; omega, ?_⟩
              have h1 := leW_snoc_step l _ x (m - q) hx
              have e2 : 8 * j + (q - 1) + 1 = 8 * j + q := by omega
              have e3 : m - q + 1 = m - (q - 1) := by omega
              rw [e2, e3] at h1
              rw [h1]
              first | exact leW_walk _ _ | exact (Value.int.inj (leW_walk _ _)).2
            case measure => simp [intOf]; omega
          · obtain rfl : q = 0 := by omega
            go_wp2_with ((with_reducible refine g_lit ?_); refine L_push hS (by rfl) (fun _ => by rfl) (fun _ => (by conv => lhs; whnf)) (of_decide_eq_true (by rfl)) (by with_reducible first | exact at0 | exact at1 | exact at2 | exact at3 | exact at4 | exact at5 | exact at6 | exact at7 | exact at8 | exact at9 | exact at10 | exact at11 | exact at12) (by rfl) (by rfl) (by decide) (by decide) (fun _ _ _ => by rfl) (by (try simp); omega) ?_; clear hS; intro A A1 c w' hS; (try simp only [List.set_cons_zero, List.set_cons_succ] at hS))
            go_roundw
            case rel =>
              refine Lib.hid ⟨j + 1, by omega, by first | rfl | (congr 1; omega), ?_⟩
              rw [List.range_succ, List.map_append]
              have e : leW (List.take (m - 0) (List.drop (8 * j + 0) l)) = wordAt l j := by
                unfold wordAt
                simp only [Nat.sub_zero, Nat.add_zero]
                rcases hm5 with rfl | h
                · rfl
                · rw [List.take_of_length_le (by simp; omega), List.take_of_length_le (by simp; omega)]
              rw [e] at hS
              simpa using hS
            case measure => simp [intOf]; omega
    · go_wp2_with fail
      go_ret
      refine ⟨_, rfl, ?_⟩
      have e : j = (l.length + 7) / 8 := by omega
      subst e
      exact hS
theorem rmix_i {a b : Int} {s x : UInt64} (ha : a = (s.toNat : Int)) (hb : b = (x.toNat : Int)) (w : World) : Calls Try.prog 79 #[.int .u64 a, .int .u64 b] w fun e w' => e = .returned (uv (mix s x)) ∧ w = w' := by
  subst ha; subst hb; exact rmix_any s x w
set_option maxRecDepth 8000 in
set_option maxHeartbeats 1000000 in
theorem rSum_any {W0 w : World} {L : List HP} (hS : St W0 w L) {s : ByteArray} (hs : s.size ≤ 100000000000000) {v : Value} {l : List Int} (hv : Src L eI v l) (hl : l.length ≤ 100000000000000) :
    Calls Try.prog 66 #[.string s, v] w fun e w' => e = .returned (uv (sumW s.data.toList l)) ∧ St W0 w' L := by
  obtain ⟨A, cap, rfl, hcap⟩ := (hv.sl hS).form
  obtain ⟨bs, hbs⟩ : ∃ bs, s.data.toList = bs := ⟨_, rfl⟩
  have hsl : bs.length = s.size := by rw [← hbs]; rfl
  rw [hbs]
  go_enter Try.func66, Try.ntmps66
  go_wp2_with ((with_reducible refine g_conv ?_); (with_reducible refine stop_op ?_))
  refine (?_ : wpList _ _ _ _ _ _)
  refine wl_bytes hS rfl (by rfl) (by rfl) ?_
  clear hS
  intro B c w' hS
  rw [hbs] at hS
  clear hbs
  go_wp2_with (go_at_call 65; refine (own_form (Words_any hS (.inl (.head _)) (by omega))).mono ?_; clear hS; rintro e w' ⟨B2, c2, rfl, hS⟩)
  obtain ⟨ws, hws⟩ : ∃ ws, wordsOf bs = ws := ⟨_, rfl⟩
  have hwl : ws.length ≤ 100000000000000 := by rw [← hws]; simp [wordsOf]; omega
  simp only [hws] at hS ⊢
  have hws := Lib.hid hws
  have hwd := Src.head (L := rd eB (.slice B s.size c) bs :: L) (t := 53) (R := eU) (v := .slice B2 ws.length c2) (l := ws)
  go_loop [5, 7] (fun v i => Hid (∃ j : Nat, j ≤ ws.length ∧ i = .int .i64 (j : Int) ∧ v = uv ((ws.take j).foldl mix 0))) (fun _ i => ws.length - (intOf i).toNat)
  case atStart => exact Lib.hid ⟨0, by omega, rfl, rfl⟩
  case round =>
    obtain ⟨j, hj, rfl, rfl⟩ := hrel.out
    by_cases hlt : j < ws.length
    · go_wp2_with ((with_reducible refine g_idx ?_); first | (refine wl_idxB (by rfl) (by rfl) (by rfl) (by rfl) (Src.sl (by first | exact hwd | exact (hwd).c | exact (hwd).c.c | exact (hwd).c.c.c | exact (hwd).c.c.c.c) hS) (by omega) (by omega) ?_; intro b off x hx hb hcell) | (refine wl_idxI (by rfl) (by rfl) (by rfl) (by rfl) (Src.sl (by first | exact hwd | exact (hwd).c | exact (hwd).c.c | exact (hwd).c.c.c | exact (hwd).c.c.c.c) hS) (by omega) (by omega) ?_; intro b off x hx hcell) | (refine wl_idxU (by rfl) (by rfl) (by rfl) (by rfl) (Src.sl (by first | exact hwd | exact (hwd).c | exact (hwd).c.c | exact (hwd).c.c.c | exact (hwd).c.c.c.c) hS) (by omega) (by omega) ?_; intro b off x hx hb hcell))
      go_wp2_with (go_at_call 79; refine (rmix_i rfl rfl _).mono ?_; rintro e w' ⟨rfl, rfl⟩)
      go_round
      case rel => exact Lib.hid ⟨j + 1, by omega, by go_num, (by rw [fold_snoc (i := j) hx]; try rfl)⟩
      case measure => simp [intOf]; omega
    · obtain rfl : j = ws.length := by omega
      rw [List.take_length]
      go_wp2_with (go_at_call 79; refine (rmix_i rfl (by first | exact ofIntI _ | exact u64_ofNat _ (by omega)) _).mono ?_; rintro e w' ⟨rfl, rfl⟩)
      obtain ⟨z, hz⟩ : ∃ z, mix (mix (ws.foldl mix 0) (UInt64.ofNat s.size)) (UInt64.ofNat l.length) = z := ⟨_, rfl⟩
      rw [hz]
      have hz := Lib.hid hz
      go_loop [5, 8] (fun v i => Hid (∃ j : Nat, j ≤ l.length ∧ i = .int .i64 (j : Int) ∧ v = uv ((l.take j).foldl mixI z))) (fun _ i => l.length - (intOf i).toNat)
      case atStart => exact Lib.hid ⟨0, by omega, rfl, rfl⟩
      case round =>
        obtain ⟨j, hj, rfl, rfl⟩ := hrel.out
        by_cases hlt : j < l.length
        · go_wp2_with ((with_reducible refine g_idx ?_); first | (refine wl_idxB (by rfl) (by rfl) (by rfl) (by rfl) (Src.sl (by first | exact hv | exact (hv).c | exact (hv).c.c | exact (hv).c.c.c | exact (hv).c.c.c.c) hS) (by omega) (by omega) ?_; intro b off x hx hb hcell) | (refine wl_idxI (by rfl) (by rfl) (by rfl) (by rfl) (Src.sl (by first | exact hv | exact (hv).c | exact (hv).c.c | exact (hv).c.c.c | exact (hv).c.c.c.c) hS) (by omega) (by omega) ?_; intro b off x hx hcell) | (refine wl_idxU (by rfl) (by rfl) (by rfl) (by rfl) (Src.sl (by first | exact hv | exact (hv).c | exact (hv).c.c | exact (hv).c.c.c | exact (hv).c.c.c.c) hS) (by omega) (by omega) ?_; intro b off x hx hb hcell))
          go_wp2_with (go_at_call 79; refine (rmix_i rfl (ofIntI _) _).mono ?_; rintro e w' ⟨rfl, rfl⟩)
          go_round
          case rel => exact Lib.hid ⟨j + 1, by omega, by go_num, (by rw [fold_snoc (i := j) hx]; try rfl)⟩
          case measure => simp [intOf]; omega
        · obtain rfl : j = l.length := by omega
          rw [List.take_length]
          go_wp2_with (go_at_call 79; refine (rmix_i rfl (show (0 : Int) = ((0 : UInt64).toNat : Int) from rfl) _).mono ?_; rintro e w' ⟨rfl, rfl⟩)
          go_ret
          refine ⟨?_, hS.drop.drop⟩
          have e : sumW bs l = mix (l.foldl mixI z) 0 := by unfold sumW; rw [hws.out, hsl, hz.out]
          refine Eq.trans ?_ (congrArg (fun x => Ending.returned (uv x)) e.symm)
          exact congrArg Ending.returned (by conv => lhs; whnf)
set_option maxRecDepth 8000 in
set_option maxHeartbeats 1000000 in
theorem rBytes_any {W0 w : World} {L : List HP} (hS : St W0 w L) {s : ByteArray} (hs : s.size ≤ 100000000000000) {v : Value} {l : List UInt8} (hv : Src L eB v l) (hl : l.length ≤ 10000000000000) :
    Calls Try.prog 50 #[.string s, v] w fun e w' => e = .returned (uv (bytesW s.data.toList l)) ∧ St W0 w' L := by
  obtain ⟨A, cap, rfl, hcap⟩ := (hv.sl hS).form
  obtain ⟨bs, hbs⟩ : ∃ bs, s.data.toList = bs := ⟨_, rfl⟩
  rw [hbs]
  go_enter Try.func50, Try.ntmps50
  go_wp2_with (go_at_call 65; refine (own_form (Words_any hS hv (by omega))).mono ?_; clear hS; rintro e w' ⟨B2, c2, rfl, hS⟩)
  obtain ⟨ws, hws⟩ : ∃ ws, wordsOf l = ws := ⟨_, rfl⟩
  have hwl : ws.length ≤ 10000000000000 := by rw [← hws]; simp [wordsOf]; omega
  simp only [hws] at hS ⊢
  have hws := Lib.hid hws
  have hwd := (Src.head (L := L) (t := 53) (R := eU) (v := .slice B2 ws.length c2) (l := ws)).c (A := own 3 eI (.slice none 0 0) [])
  replace hS := hS.own_nil 3 eI
  go_loopw [6, 7] (fun v i wr => Hid (∃ j : Nat, j ≤ ws.length ∧ i = .int .i64 (j : Int) ∧ St W0 wr (own 3 eI v ((ws.take j).map toI) :: own 53 eU (.slice B2 ws.length c2) ws :: L))) (fun _ i _ => ws.length - (intOf i).toNat)
  case atStart => exact Lib.hid ⟨0, by omega, rfl, hS⟩
  case round =>
    clear hS
    obtain ⟨j, hj, rfl, hS⟩ := hrel.out
    have hwd := (Src.head (L := L) (t := 53) (R := eU) (v := .slice B2 ws.length c2) (l := ws)).c (A := own 3 eI u6 ((ws.take j).map toI))
    by_cases hlt : j < ws.length
    · go_wp2_with (first | ((with_reducible refine g_idx ?_); first | (refine wl_idxB (by rfl) (by rfl) (by rfl) (by rfl) (Src.sl (by first | exact hwd | exact (hwd).c | exact (hwd).c.c | exact (hwd).c.c.c | exact (hwd).c.c.c.c) hS) (by omega) (by omega) ?_; intro b off x hx hb hcell) | (refine wl_idxI (by rfl) (by rfl) (by rfl) (by rfl) (Src.sl (by first | exact hwd | exact (hwd).c | exact (hwd).c.c | exact (hwd).c.c.c | exact (hwd).c.c.c.c) hS) (by omega) (by omega) ?_; intro b off x hx hcell) | (refine wl_idxU (by rfl) (by rfl) (by rfl) (by rfl) (Src.sl (by first | exact hwd | exact (hwd).c | exact (hwd).c.c | exact (hwd).c.c.c | exact (hwd).c.c.c.c) hS) (by omega) (by omega) ?_; intro b off x hx hb hcell)) | ((with_reducible refine g_lit ?_); refine L_push hS (by rfl) (fun _ => by rfl) (fun _ => (by conv => lhs; whnf)) (of_decide_eq_true (by rfl)) (by with_reducible first | exact at0 | exact at1 | exact at2 | exact at3 | exact at4 | exact at5 | exact at6 | exact at7 | exact at8 | exact at9 | exact at10 | exact at11 | exact at12) (by rfl) (by rfl) (by decide) (by decide) (fun _ _ _ => by rfl) (by (try simp); omega) ?_; clear hS; intro A A1 c w' hS; (try simp only [List.set_cons_zero, List.set_cons_succ] at hS)))
      go_roundw
      case rel =>
        refine Lib.hid ⟨j + 1, by omega, by go_num, ?_⟩
        have e : (ws.take (j + 1)).map toI = (ws.take j).map toI ++ [wrap64 (x.toNat : Int)] := by
          have hx : ws[j]? = some x := hx
          rw [List.take_add_one, hx]; simp [toI]
        rw [e]
        simpa [Nat.min_eq_left hj] using hS
      case measure => simp [intOf]; omega
    · obtain rfl : j = ws.length := by omega
      rw [List.take_length] at hS
      go_wp2_with ((with_reducible refine g_lit ?_); refine L_push hS (by rfl) (fun _ => by rfl) (fun _ => (by conv => lhs; whnf)) (of_decide_eq_true (by rfl)) (by with_reducible first | exact at0 | exact at1 | exact at2 | exact at3 | exact at4 | exact at5 | exact at6 | exact at7 | exact at8 | exact at9 | exact at10 | exact at11 | exact at12) (by rfl) (by rfl) (by decide) (by decide) (fun _ _ _ => by rfl) (by (try simp); omega) ?_; clear hS; intro A A1 c w' hS; (try simp only [List.set_cons_zero, List.set_cons_succ] at hS))
      refine (rSum_any (L := own 3 eI (.slice A (ws.length + 1) c) (ws.map toI ++ [(l.length : Int)]) :: own 53 eU (.slice B2 ws.length c2) ws :: L) (by simpa using hS) hs Src.head (by simp; omega)).mono ?_
      clear hS
      rintro e w' ⟨rfl, hS⟩
      go_wp2
      go_ret
      refine ⟨?_, hS.drop.drop⟩
      have e : bytesW bs l = sumW bs (ws.map toI ++ [(l.length : Int)]) := by unfold bytesW; rw [hws.out]
      refine Eq.trans ?_ (congrArg (fun x => Ending.returned (uv x)) e.symm)
      exact congrArg Ending.returned (by (conv => lhs; whnf); try first | rfl | (rw [hbs]; rfl))
section
variable {W0 : World} {L : List HP}
theorem rBytes_ct {s : ByteArray} {v : Value} {l : List UInt8} {z : UInt64} (hv : Src L eB v l) (hs : s.size ≤ 100000000000000) (hl : l.length ≤ 10000000000000) (hz : bytesW s.data.toList l = z) :
    CT Try.prog 50 #[.string s, v] W0 L fun r L' => r = uv z ∧ L' = L :=
  ⟨fun w s' => (rBytes_any s' hs hv (by omega)).mono fun e w' ⟨h, hw⟩ => ⟨_, _, h, ⟨by rw [hz], rfl⟩, hw⟩⟩
end
end Go.Proofs.Ytbjaecofccpahaa
namespace Go.Proofs.Ytbjaecofccpahaa
open Go Go.RowKit
set_option linter.unusedVariables false
set_option linter.unusedSimpArgs false
/-- a reader: the bytes that are left, the error (0: none, 2: form, 3: more) -/
abbrev Rs := List UInt8 × Int
def rFail (s : Rs) (e : Int) : Rs := if s.2 = 0 then (s.1, e) else s
def rNext (s : Rs) : UInt8 × Rs :=
  if s.2 = 0 then (match s.1 with
    | [] => (0, ([], 3))
    | c :: r => (c, (r, 0))) else (0, s)
/-- from byte number i on, n so far -/
def rUi : Nat → Nat → List UInt8 → Nat × Rs
  | _, _, [] => (0, ([], 3))
  | i, n, c :: r => if (i = 9 ∧ 1 < c.toNat) ∨ (0 < i ∧ c.toNat = 0) then (0, (r, 2)) else if c.toNat < 128 then (n + c.toNat * 128 ^ i, (r, 0)) else rUi (i + 1) (n + (c.toNat - 128) * 128 ^ i) r
def rU (s : Rs) : Nat × Rs := if s.2 = 0 then rUi 0 0 s.1 else (0, s)
def unzig (n : Nat) : Int := if n % 2 = 1 then -((n / 2 : Nat) : Int) - 1 else ((n / 2 : Nat) : Int)
def rI (s : Rs) : Int × Rs := (unzig (rU s).1, (rU s).2)
def rB (s : Rs) : Bool × Rs := ((rNext s).1.toNat = 1, if 1 < (rNext s).1.toNat then rFail (rNext s).2 2 else (rNext s).2)
/-- a list's elements, by a reading of one -/
def rMany {α : Type} (f : Rs → α × Rs) : Nat → Rs → List α × Rs
  | 0, s => ([], s)
  | n + 1, s => if s.2 = 0 then ((f s).1 :: (rMany f n (f s).2).1, (rMany f n (f s).2).2) else ([], s)
def rList {α : Type} (f : Rs → α × Rs) (s : Rs) : List α × Rs :=
  let n := (rU s).1
  let s1 := if (rU s).2.1.length < n then rFail (rU s).2 3 else (rU s).2
  let r := rMany f n s1
  (if r.2.2 = 0 then r.1 else [], r.2)
def rEnd (s : Rs) : Int := if s.2 = 0 ∧ 0 < s.1.length then 2 else s.2
/-- errors stay; bytes are taken from the front -/
theorem rUi_suffix : ∀ (i n : Nat) (l : List UInt8), (rUi i n l).2.1.length ≤ l.length
  | _, _, [] => by simp [rUi]
  | i, n, c :: r => by
    rw [rUi]
    split
    · simp
    · split
      · simp
      · have := rUi_suffix (i + 1) (n + (c.toNat - 128) * 128 ^ i) r
        simp only [List.length_cons]; omega
theorem rUi_lt : ∀ (l : List UInt8) (i n : Nat), i ≤ 9 → n < 128 ^ i → (rUi i n l).1 < 18446744073709551616
  | [], _, _, _, _ => by simp [rUi]
  | c :: r, i, n, hi, hn => by
    rw [rUi]
    split
    · simp
    · rename_i h1
      have hc : c.toNat < 256 := c.toNat_lt
      split
      · rename_i h2
        dsimp only
        rcases Nat.lt_or_ge i 9 with h9 | h9
        · have : 128 ^ (i + 1) ≤ 128 ^ 9 := Nat.pow_le_pow_right (by decide) h9
          have e : c.toNat * 128 ^ i ≤ 127 * 128 ^ i := Nat.mul_le_mul_right _ (by omega)
          rw [Nat.pow_succ] at this
          have : (128 : Nat) ^ 9 = 9223372036854775808 := by decide
          omega
        · have : i = 9 := by omega
          subst this
          have e9 : (128 : Nat) ^ 9 = 9223372036854775808 := by decide
          rw [e9] at hn ⊢
          have : c.toNat ≤ 1 := by
            rcases Nat.lt_or_ge 1 c.toNat with h | h
            · exact absurd (.inl ⟨rfl, h⟩) h1
            · exact h
          omega
      · rename_i h2
        have h9 : i ≠ 9 := fun e => h1 (.inl ⟨e, by omega⟩)
        refine rUi_lt r (i + 1) _ (by omega) ?_
        rw [Nat.pow_succ]
        have e : (c.toNat - 128) * 128 ^ i ≤ 127 * 128 ^ i := Nat.mul_le_mul_right _ (by omega)
        omega
theorem rU_lt (s : Rs) : (rU s).1 < 18446744073709551616 := by
  unfold rU; split
  · exact rUi_lt _ 0 0 (by omega) (by decide)
  · simp
theorem rU_len (s : Rs) : (rU s).2.1.length ≤ s.1.length := by
  unfold rU; split
  · exact rUi_suffix _ _ _
  · exact Nat.le_refl _
theorem rNext_len (s : Rs) : (rNext s).2.1.length ≤ s.1.length := by
  unfold rNext; split
  · split
    · simp
    · rename_i h; rw [h]; simp
  · exact Nat.le_refl _
end Go.Proofs.Ytbjaecofccpahaa
