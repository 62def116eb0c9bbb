/-
  Walks of the reference's hash.
-/
import Derived.Test.YtfgipcekegjalaaHw2
namespace Go.Proofs.Ytfgipcekegjalaa
open Go Go.RowKit
set_option linter.unusedVariables false
set_option linter.unusedSimpArgs false
theorem rmix_i {a b : Int} {s x : UInt64} (ha : a = (s.toNat : Int)) (hb : b = (x.toNat : Int)) (w : World) : Calls Try.prog 27 #[.int .u64 a, .int .u64 b] w fun e w' => e = .returned (uv (mix s x)) ∧ w = w' := by
  subst ha; subst hb; exact rmix_any s x w
theorem hmix_i {a b : Int} {s x : UInt64} (ha : a = (s.toNat : Int)) (hb : b = (x.toNat : Int)) (w : World) : Calls Try.prog 26 #[.int .u64 a, .int .u64 b] w fun e w' => e = .returned (uv (mix s x)) ∧ w = w' := by
  subst ha; subst hb; exact hmix_any s x w
theorem own_form {α : Type} {E : TypeId} {R : Enc α} {l : List α} {f : FuncId} {args : Array Value} {W0 w : World} {L : List HP} (h : Calls Try.prog f args w fun e w' => ∃ r, e = .returned r ∧ St W0 w' (own E R r l :: L)) :
    Calls Try.prog f args w fun e w' => ∃ A c, e = .returned (.slice A l.length c) ∧ St W0 w' (own E R (.slice A l.length c) l :: L) :=
  h.mono fun _ _ ⟨_, he, hS⟩ => by
    obtain ⟨A, c, rfl, _⟩ := (hS.rdo (.head _)).form
    exact ⟨A, c, he, hS⟩
theorem Src.head {α : Type} {t : TypeId} {R : Enc α} {v : Value} {l : List α} {L : List HP} : Src (own t R v l :: L) R v l := .inr ⟨_, .head _⟩
theorem fold_snoc {α β : Type} {f : β → α → β} {z : β} {l : List α} {i : Nat} {x : α} (h : l[i]? = some x) : (l.take (i + 1)).foldl f z = f ((l.take i).foldl f z) x := by
  rw [List.take_add_one, h]; simp
set_option maxRecDepth 8000 in
set_option maxHeartbeats 1000000 in
theorem rSum_any {W0 w : World} {L : List HP} (hS : St W0 w L) {s : ByteArray} (hs : s.size ≤ 100000000000000) {v : Value} {l : List Int} (hv : Src L eI v l) (hl : l.length ≤ 100000000000000) :
    Calls Try.prog 14 #[.string s, v] w fun e w' => e = .returned (uv (sumW s.data.toList l)) ∧ St W0 w' L := by
  obtain ⟨A, cap, rfl, hcap⟩ := (hv.sl hS).form
  obtain ⟨bs, hbs⟩ : ∃ bs, s.data.toList = bs := ⟨_, rfl⟩
  have hsl : bs.length = s.size := by rw [← hbs]; rfl
  rw [hbs]
  go_enter Try.func14, Try.ntmps14
  go_wp2_with ((with_reducible refine g_conv ?_); (with_reducible refine stop_op ?_))
  refine (?_ : wpList _ _ _ _ _ _)
  refine wl_bytes hS rfl (by rfl) (by rfl) ?_
  clear hS
  intro B c w' hS
  rw [hbs] at hS
  clear hbs
  go_wp2_with (go_at_call 23; refine (own_form (Words_any hS (.inl (.head _)) (by omega))).mono ?_; clear hS; rintro e w' ⟨B2, c2, rfl, hS⟩)
  obtain ⟨ws, hws⟩ : ∃ ws, wordsOf bs = ws := ⟨_, rfl⟩
  have hwl : ws.length ≤ 100000000000000 := by rw [← hws]; simp [wordsOf]; omega
  simp only [hws] at hS ⊢
  have hws := Lib.hid hws
  have hwd := Src.head (L := rd eB (.slice B s.size c) bs :: L) (t := 25) (R := eU) (v := .slice B2 ws.length c2) (l := ws)
  go_loop [5, 7] (fun v i => Hid (∃ j : Nat, j ≤ ws.length ∧ i = .int .i64 (j : Int) ∧ v = uv ((ws.take j).foldl mix 0))) (fun _ i => ws.length - (intOf i).toNat)
  case atStart => exact Lib.hid ⟨0, by omega, rfl, rfl⟩
  case round =>
    obtain ⟨j, hj, rfl, rfl⟩ := hrel.out
    by_cases hlt : j < ws.length
    · go_wp2_with ((with_reducible refine g_idx ?_); first | (refine wl_idxB (by rfl) (by rfl) (by rfl) (by rfl) (Src.sl (by first | exact hwd | exact (hwd).c | exact (hwd).c.c | exact (hwd).c.c.c | exact (hwd).c.c.c.c) hS) (by omega) (by omega) ?_; intro b off x hx hb hcell) | (refine wl_idxI (by rfl) (by rfl) (by rfl) (by rfl) (Src.sl (by first | exact hwd | exact (hwd).c | exact (hwd).c.c | exact (hwd).c.c.c | exact (hwd).c.c.c.c) hS) (by omega) (by omega) ?_; intro b off x hx hcell) | (refine wl_idxU (by rfl) (by rfl) (by rfl) (by rfl) (Src.sl (by first | exact hwd | exact (hwd).c | exact (hwd).c.c | exact (hwd).c.c.c | exact (hwd).c.c.c.c) hS) (by omega) (by omega) ?_; intro b off x hx hb hcell))
      go_wp2_with (go_at_call 27; refine (rmix_i rfl rfl _).mono ?_; rintro e w' ⟨rfl, rfl⟩)
      go_round
      case rel => exact Lib.hid ⟨j + 1, by omega, by go_num, (by rw [fold_snoc (i := j) hx]; try rfl)⟩
      case measure => simp [intOf]; omega
    · obtain rfl : j = ws.length := by omega
      rw [List.take_length]
      go_wp2_with (go_at_call 27; refine (rmix_i rfl (by first | exact ofIntI _ | exact u64_ofNat _ (by omega)) _).mono ?_; rintro e w' ⟨rfl, rfl⟩)
      obtain ⟨z, hz⟩ : ∃ z, mix (mix (ws.foldl mix 0) (UInt64.ofNat s.size)) (UInt64.ofNat l.length) = z := ⟨_, rfl⟩
      rw [hz]
      have hz := Lib.hid hz
      go_loop [5, 8] (fun v i => Hid (∃ j : Nat, j ≤ l.length ∧ i = .int .i64 (j : Int) ∧ v = uv ((l.take j).foldl mixI z))) (fun _ i => l.length - (intOf i).toNat)
      case atStart => exact Lib.hid ⟨0, by omega, rfl, rfl⟩
      case round =>
        obtain ⟨j, hj, rfl, rfl⟩ := hrel.out
        by_cases hlt : j < l.length
        · go_wp2_with ((with_reducible refine g_idx ?_); first | (refine wl_idxB (by rfl) (by rfl) (by rfl) (by rfl) (Src.sl (by first | exact hv | exact (hv).c | exact (hv).c.c | exact (hv).c.c.c | exact (hv).c.c.c.c) hS) (by omega) (by omega) ?_; intro b off x hx hb hcell) | (refine wl_idxI (by rfl) (by rfl) (by rfl) (by rfl) (Src.sl (by first | exact hv | exact (hv).c | exact (hv).c.c | exact (hv).c.c.c | exact (hv).c.c.c.c) hS) (by omega) (by omega) ?_; intro b off x hx hcell) | (refine wl_idxU (by rfl) (by rfl) (by rfl) (by rfl) (Src.sl (by first | exact hv | exact (hv).c | exact (hv).c.c | exact (hv).c.c.c | exact (hv).c.c.c.c) hS) (by omega) (by omega) ?_; intro b off x hx hb hcell))
          go_wp2_with (go_at_call 27; refine (rmix_i rfl (ofIntI _) _).mono ?_; rintro e w' ⟨rfl, rfl⟩)
          go_round
          case rel => exact Lib.hid ⟨j + 1, by omega, by go_num, (by rw [fold_snoc (i := j) hx]; try rfl)⟩
          case measure => simp [intOf]; omega
        · obtain rfl : j = l.length := by omega
          rw [List.take_length]
          go_wp2_with (go_at_call 27; refine (rmix_i rfl (show (0 : Int) = ((0 : UInt64).toNat : Int) from rfl) _).mono ?_; rintro e w' ⟨rfl, rfl⟩)
          go_ret
          refine ⟨?_, hS.drop.drop⟩
          have e : sumW bs l = mix (l.foldl mixI z) 0 := by unfold sumW; rw [hws.out, hsl, hz.out]
          refine Eq.trans ?_ (congrArg (fun x => Ending.returned (uv x)) e.symm)
          exact congrArg Ending.returned (by conv => lhs; whnf)
set_option maxRecDepth 8000 in
set_option maxHeartbeats 1000000 in
theorem rBytes_any {W0 w : World} {L : List HP} (hS : St W0 w L) {s : ByteArray} (hs : s.size ≤ 100000000000000) {v : Value} {l : List UInt8} (hv : Src L eB v l) (hl : l.length ≤ 10000000000000) :
    Calls Try.prog 18 #[.string s, v] w fun e w' => e = .returned (uv (bytesW s.data.toList l)) ∧ St W0 w' L := by
  obtain ⟨A, cap, rfl, hcap⟩ := (hv.sl hS).form
  obtain ⟨bs, hbs⟩ : ∃ bs, s.data.toList = bs := ⟨_, rfl⟩
  rw [hbs]
  go_enter Try.func18, Try.ntmps18
  go_wp2_with (go_at_call 23; refine (own_form (Words_any hS hv (by omega))).mono ?_; clear hS; rintro e w' ⟨B2, c2, rfl, hS⟩)
  obtain ⟨ws, hws⟩ : ∃ ws, wordsOf l = ws := ⟨_, rfl⟩
  have hwl : ws.length ≤ 10000000000000 := by rw [← hws]; simp [wordsOf]; omega
  simp only [hws] at hS ⊢
  have hws := Lib.hid hws
  have hwd := (Src.head (L := L) (t := 25) (R := eU) (v := .slice B2 ws.length c2) (l := ws)).c (A := own 3 eI (.slice none 0 0) [])
  replace hS := hS.own_nil 3 eI
  go_loopw [6, 7] (fun v i wr => Hid (∃ j : Nat, j ≤ ws.length ∧ i = .int .i64 (j : Int) ∧ St W0 wr (own 3 eI v ((ws.take j).map toI) :: own 25 eU (.slice B2 ws.length c2) ws :: L))) (fun _ i _ => ws.length - (intOf i).toNat)
  case atStart => exact Lib.hid ⟨0, by omega, rfl, hS⟩
  case round =>
    clear hS
    obtain ⟨j, hj, rfl, hS⟩ := hrel.out
    have hwd := (Src.head (L := L) (t := 25) (R := eU) (v := .slice B2 ws.length c2) (l := ws)).c (A := own 3 eI u6 ((ws.take j).map toI))
    by_cases hlt : j < ws.length
    · go_wp2_with (first | ((with_reducible refine g_idx ?_); first | (refine wl_idxB (by rfl) (by rfl) (by rfl) (by rfl) (Src.sl (by first | exact hwd | exact (hwd).c | exact (hwd).c.c | exact (hwd).c.c.c | exact (hwd).c.c.c.c) hS) (by omega) (by omega) ?_; intro b off x hx hb hcell) | (refine wl_idxI (by rfl) (by rfl) (by rfl) (by rfl) (Src.sl (by first | exact hwd | exact (hwd).c | exact (hwd).c.c | exact (hwd).c.c.c | exact (hwd).c.c.c.c) hS) (by omega) (by omega) ?_; intro b off x hx hcell) | (refine wl_idxU (by rfl) (by rfl) (by rfl) (by rfl) (Src.sl (by first | exact hwd | exact (hwd).c | exact (hwd).c.c | exact (hwd).c.c.c | exact (hwd).c.c.c.c) hS) (by omega) (by omega) ?_; intro b off x hx hb hcell)) | ((with_reducible refine g_lit ?_); refine L_push hS (by rfl) (fun _ => by rfl) (fun _ => (by conv => lhs; whnf)) (of_decide_eq_true (by rfl)) (by with_reducible first | exact at0 | exact at1 | exact at2 | exact at3 | exact at4 | exact at5 | exact at6 | exact at7 | exact at8 | exact at9 | exact at10 | exact at11 | exact at12) (by rfl) (by rfl) (by decide) (by decide) (fun _ _ _ => by rfl) (by (try simp); omega) ?_; clear hS; intro A A1 c w' hS; (try simp only [List.set_cons_zero, List.set_cons_succ] at hS)))
      go_roundw
      case rel =>
        refine Lib.hid ⟨j + 1, by omega, by go_num, ?_⟩
        have e : (ws.take (j + 1)).map toI = (ws.take j).map toI ++ [wrap64 (x.toNat : Int)] := by
          have hx : ws[j]? = some x := hx
          rw [List.take_add_one, hx]; simp [toI]
        rw [e]
        simpa [Nat.min_eq_left hj] using hS
      case measure => simp [intOf]; omega
    · obtain rfl : j = ws.length := by omega
      rw [List.take_length] at hS
      go_wp2_with ((with_reducible refine g_lit ?_); refine L_push hS (by rfl) (fun _ => by rfl) (fun _ => (by conv => lhs; whnf)) (of_decide_eq_true (by rfl)) (by with_reducible first | exact at0 | exact at1 | exact at2 | exact at3 | exact at4 | exact at5 | exact at6 | exact at7 | exact at8 | exact at9 | exact at10 | exact at11 | exact at12) (by rfl) (by rfl) (by decide) (by decide) (fun _ _ _ => by rfl) (by (try simp); omega) ?_; clear hS; intro A A1 c w' hS; (try simp only [List.set_cons_zero, List.set_cons_succ] at hS))
      refine (rSum_any (L := own 3 eI (.slice A (ws.length + 1) c) (ws.map toI ++ [(l.length : Int)]) :: own 25 eU (.slice B2 ws.length c2) ws :: L) (by simpa using hS) hs Src.head (by simp; omega)).mono ?_
      clear hS
      rintro e w' ⟨rfl, hS⟩
      go_wp2
      go_ret
      refine ⟨?_, hS.drop.drop⟩
      have e : bytesW bs l = sumW bs (ws.map toI ++ [(l.length : Int)]) := by unfold bytesW; rw [hws.out]
      refine Eq.trans ?_ (congrArg (fun x => Ending.returned (uv x)) e.symm)
      exact congrArg Ending.returned (by (conv => lhs; whnf); try first | rfl | (rw [hbs]; rfl))
set_option maxRecDepth 8000 in
set_option maxHeartbeats 1000000 in
theorem rPair_any {W0 w : World} {L : List HP} (hS : St W0 w L) (x y : UInt64) :
    Calls Try.prog 20 #[uv x, uv y] w fun e w' => e = .returned (uv (pairW x y)) ∧ St W0 w' L := by
  go_enter Try.func20, Try.ntmps20
  go_wp2_with ((with_reducible refine g_lit ?_); (with_reducible refine stop_op ?_))
  refine (?_ : wpList _ _ _ _ _ _)
  refine wl_lit hS rfl (by rfl) (e := 3) (cells := [.int .i64 (toI x), .int .i64 (toI y)]) (R := eI) (l := [toI x, toI y]) (css := [[.int .i64 (toI x)], [.int .i64 (toI y)]]) (s := 1) (z := .int .i64 0) (by simp [Instr.fill, Act.eval, Value.cells, toI, range_2]) (by decide) (by decide) rfl rfl (fun m h _ => ⟨rfl, rfl, trivial⟩) rfl (by decide) ?_
  clear hS
  intro A w' hS
  go_wp2_with (go_at_call 14; refine (rSum_any hS (by decide) Src.head (by simp)).mono ?_; clear hS; rintro e w' ⟨rfl, hS⟩)
  go_ret
  exact ⟨congrArg Ending.returned (by (conv => lhs; whnf); try rfl), hS.drop⟩
end Go.Proofs.Ytfgipcekegjalaa
