/-
  Walk of the documented examples.
-/
import Derived.Test.YtfgipcekegjalaaHw5
namespace Go.Proofs.Ytfgipcekegjalaa
open Go Go.RowKit
set_option linter.unusedVariables false
set_option linter.unusedSimpArgs false
theorem hSum_x {z : UInt64} {s : ByteArray} {l : List Int} (hz : sumW s.data.toList l = z) {W0 w : World} {L : List HP} (hS : St W0 w L) (hs : s.size ≤ 100000000000000) {v : Value} (hv : Src L eI v l) (hl : l.length ≤ 100000000000000) :
    Calls Try.prog 13 #[.string s, v] w fun e w' => e = .returned (uv z) ∧ St W0 w' L := hz ▸ hSum_any hS hs hv hl
theorem hBytes_x {z : UInt64} {s : ByteArray} {l : List UInt8} (hz : bytesW s.data.toList l = z) {W0 w : World} {L : List HP} (hS : St W0 w L) (hs : s.size ≤ 100000000000000) {v : Value} (hv : Src L eB v l) (hl : l.length ≤ 10000000000000) :
    Calls Try.prog 17 #[.string s, v] w fun e w' => e = .returned (uv z) ∧ St W0 w' L := hz ▸ hBytes_any hS hs hv hl
theorem hPair_i {z x y : UInt64} {a b : Int} (ha : a = (x.toNat : Int)) (hb : b = (y.toNat : Int)) (hz : pairW x y = z) {W0 w : World} {L : List HP} (hS : St W0 w L) :
    Calls Try.prog 19 #[.int .u64 a, .int .u64 b] w fun e w' => e = .returned (uv z) ∧ St W0 w' L := by subst ha; subst hb; exact hz ▸ hPair_any hS x y
theorem rSum_x {z : UInt64} {s : ByteArray} {l : List Int} (hz : sumW s.data.toList l = z) {W0 w : World} {L : List HP} (hS : St W0 w L) (hs : s.size ≤ 100000000000000) {v : Value} (hv : Src L eI v l) (hl : l.length ≤ 100000000000000) :
    Calls Try.prog 14 #[.string s, v] w fun e w' => e = .returned (uv z) ∧ St W0 w' L := hz ▸ rSum_any hS hs hv hl
theorem rBytes_x {z : UInt64} {s : ByteArray} {l : List UInt8} (hz : bytesW s.data.toList l = z) {W0 w : World} {L : List HP} (hS : St W0 w L) (hs : s.size ≤ 100000000000000) {v : Value} (hv : Src L eB v l) (hl : l.length ≤ 10000000000000) :
    Calls Try.prog 18 #[.string s, v] w fun e w' => e = .returned (uv z) ∧ St W0 w' L := hz ▸ rBytes_any hS hs hv hl
theorem rPair_i {z x y : UInt64} {a b : Int} (ha : a = (x.toNat : Int)) (hb : b = (y.toNat : Int)) (hz : pairW x y = z) {W0 w : World} {L : List HP} (hS : St W0 w L) :
    Calls Try.prog 20 #[.int .u64 a, .int .u64 b] w fun e w' => e = .returned (uv z) ∧ St W0 w' L := by subst ha; subst hb; exact hz ▸ rPair_any hS x y
theorem Ints_c {W0 w : World} {L : List HP} (hS : St W0 w L) {v : Value} {l : List Int} (hv : rd eI v l ∈ L) (hl : l.length ≤ 9223372036854775807) (most : Int) (hm : 0 ≤ most) (hm2 : most ≤ 1000000) :
    Calls Try.prog 12 #[v, iv most] w fun e w' => ∃ A c l', Hid (l' = l.take most.toNat) ∧ l'.length ≤ most.toNat ∧ e = .returned (.slice A l'.length c) ∧ St W0 w' (own 3 eI (.slice A l'.length c) l' :: L) :=
  (own_form (Ints_any hS hv hl most hm hm2)).mono fun _ _ ⟨A, c, he, h⟩ => ⟨A, c, _, Lib.hid rfl, by simp; omega, he, h⟩
theorem Few_c {W0 w : World} {L : List HP} (hS : St W0 w L) {v : Value} {l : List UInt8} (hv : rd eB v l ∈ L) (hl : l.length ≤ 9223372036854775807) (most : Int) (hm : 0 ≤ most) (hm2 : most ≤ 1000000) :
    Calls Try.prog 16 #[v, iv most] w fun e w' => ∃ A c l', Hid (l' = l.take most.toNat) ∧ l'.length ≤ most.toNat ∧ e = .returned (.slice A l'.length c) ∧ St W0 w' (own 5 eB (.slice A l'.length c) l' :: L) :=
  (own_form (Few_any hS hv hl most hm hm2)).mono fun _ _ ⟨A, c, he, h⟩ => ⟨A, c, _, Lib.hid rfl, by simp; omega, he, h⟩
theorem short_size (s : ByteArray) (most : Nat) : (shortS s most).size ≤ most := by
  unfold shortS
  split
  · simp; omega
  · omega
theorem Short_c (s : ByteArray) (most : Nat) (w : World) (h : most ≤ 1000000) (hs : s.size ≤ 9223372036854775807) :
    Calls Try.prog 11 #[.string s, iv most] w fun e w' => ∃ s', Hid (s' = shortS s most) ∧ s'.size ≤ most ∧ e = .returned (.string s') ∧ w = w' :=
  (Short_any s most w h hs).mono fun _ _ ⟨he, h⟩ => ⟨_, Lib.hid rfl, short_size s most, he, h⟩
theorem live1 : ((sumW [97] [5]).toNat : Int) ≠ ((sumW [97] [6]).toNat : Int) := by decide +kernel
theorem live2 : bytesW [97] [1, 2] = sumW [97] [513, 2] := by decide +kernel
theorem live3 : ((pairW 1 2).toNat : Int) ≠ ((pairW 1 3).toNat : Int) := by decide +kernel
attribute [local irreducible] sumW bytesW pairW
set_option maxHeartbeats 1000000 in
theorem lives_any {W0 w : World} {L : List HP} (hS : St W0 w L) :
    Calls Try.prog 15 #[] w fun e w' => e = .returned (.bool true) ∧ St W0 w' L := by
  obtain ⟨x1, h1⟩ : ∃ x, sumW [97] [5] = x := ⟨_, rfl⟩
  obtain ⟨x2, h2⟩ : ∃ x, sumW [97] [6] = x := ⟨_, rfl⟩
  obtain ⟨x3, h3⟩ : ∃ x, bytesW [97] [1, 2] = x := ⟨_, rfl⟩
  obtain ⟨x4, h4⟩ : ∃ x, pairW 1 2 = x := ⟨_, rfl⟩
  obtain ⟨x5, h5⟩ : ∃ x, pairW 1 3 = x := ⟨_, rfl⟩
  have l1 : ((x1.toNat : Int) != (x2.toNat : Int)) = true := by rw [← h1, ← h2]; exact bne_iff_ne.2 live1
  have l3 : ((x4.toNat : Int) != (x5.toNat : Int)) = true := by rw [← h4, ← h5]; exact bne_iff_ne.2 live3
  have h6 : sumW [97] [513, 2] = x3 := by rw [← live2, h3]
  replace h1 := Lib.hid h1
  replace h2 := Lib.hid h2
  replace h3 := Lib.hid h3
  replace h4 := Lib.hid h4
  replace h5 := Lib.hid h5
  replace h6 := Lib.hid h6
  go_enter Try.func15, Try.ntmps15
  go_wp2_with ((with_reducible refine g_lit ?_); refine L_lit1 (R := eI) (el := 5) hS (by rfl) (by rfl) (by rfl) (by rfl) (by rfl) (fun _ _ _ => by rfl) ?_; clear hS; intro A w' hS)
  refine (hSum_x (s := ⟨#[97]⟩) (l := [5]) h1.out hS (by decide) Src.head (by decide)).mono ?_; clear hS; rintro e w' ⟨rfl, hS⟩
  go_wp2_with ((with_reducible refine g_lit ?_); refine L_lit1 (R := eI) (el := 6) hS (by rfl) (by rfl) (by rfl) (by rfl) (by rfl) (fun _ _ _ => by rfl) ?_; clear hS; intro A w' hS)
  refine (hSum_x (s := ⟨#[97]⟩) (l := [6]) h2.out hS (by decide) Src.head (by decide)).mono ?_; clear hS; rintro e w' ⟨rfl, hS⟩
  go_wp2_with ((with_reducible refine g_lit ?_); refine L_lit2 (R := eB) (el := 1) (el2 := 2) hS (by rfl) (by rfl) (by rfl) (by rfl) (by rfl) (by rfl) (by rfl) (fun _ _ _ => by rfl) (fun _ _ _ => by rfl) ?_; clear hS; intro A w' hS)
  refine (hBytes_x (s := ⟨#[97]⟩) (l := [1, 2]) h3.out hS (by decide) Src.head (by decide)).mono ?_; clear hS; rintro e w' ⟨rfl, hS⟩
  go_wp2_with ((with_reducible refine g_lit ?_); refine L_lit2 (R := eI) (el := 513) (el2 := 2) hS (by rfl) (by rfl) (by rfl) (by rfl) (by rfl) (by rfl) (by rfl) (fun _ _ _ => by rfl) (fun _ _ _ => by rfl) ?_; clear hS; intro A w' hS)
  refine (hSum_x (s := ⟨#[97]⟩) (l := [513, 2]) h6.out hS (by decide) Src.head (by decide)).mono ?_; clear hS; rintro e w' ⟨rfl, hS⟩
  go_wp2_with (go_at_call 19; (with_reducible refine stop_op ?_))
  refine (hPair_i (x := 1) (y := 2) (by decide) (by decide) h4.out hS).mono ?_; clear hS; rintro e w' ⟨rfl, hS⟩
  go_wp2_with (go_at_call 19; (with_reducible refine stop_op ?_))
  refine (hPair_i (x := 1) (y := 3) (by decide) (by decide) h5.out hS).mono ?_; clear hS; rintro e w' ⟨rfl, hS⟩
  go_wp2
  go_ret
  exact ⟨congrArg Ending.returned (by (conv => lhs; whnf); try rfl), hS.drop.drop.drop.drop⟩
end Go.Proofs.Ytfgipcekegjalaa
