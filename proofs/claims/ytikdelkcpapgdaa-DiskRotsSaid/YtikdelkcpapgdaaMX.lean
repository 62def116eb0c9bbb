/-
  The reference's operations, built from numbers.
-/
import Derived.Test.YtikdelkcpapgdaaMV
namespace Go.Proofs.Ytikdelkcpapgdaa
open Go Go.RowKit
set_option linter.unusedVariables false
set_option linter.unusedSimpArgs false
set_option maxRecDepth 20000
set_option synthInstance.maxSize 100000
set_option synthInstance.maxHeartbeats 400000
theorem u8_anyO (z : Int) : ∃ b : UInt8, IntKind.u8.wrap z = (b.toNat : Int) := by
  have h0 : 0 ≤ IntKind.u8.wrap z ∧ IntKind.u8.wrap z < 256 := by
    rw [show IntKind.u8.wrap z = z % 256 from IntKind.wrap_u8 z]
    omega
  refine ⟨UInt8.ofNat (IntKind.u8.wrap z).toNat, ?_⟩
  rw [UInt8.toNat_ofNat']
  omega
theorem sW_u8 {z : Int} {K : Int → Prop} (k : ∀ b : UInt8, K (b.toNat : Int)) : SW (fun r => IntKind.u8.wrap z = r) K := by
  obtain ⟨b, hb⟩ := u8_anyO z
  exact sW (r := (b.toNat : Int)) (k b) hb
theorem tdiv16 (y : Int) (h1 : -9223372036854775808 ≤ y) (h2 : y ≤ 9223372036854775807) : -9223372036854775808 ≤ y.tdiv 16 ∧ y.tdiv 16 ≤ 9223372036854775807 := by
  rcases Int.eq_nat_or_neg y with ⟨a, rfl | rfl⟩
  · rw [show (a : Int).tdiv 16 = ((a / 16 : Nat) : Int) from rfl]
    omega
  · rw [Int.neg_tdiv, show (a : Int).tdiv 16 = ((a / 16 : Nat) : Int) from rfl]
    omega
section
variable {W0 : World} {L : List HP}
/-- an operation under construction -/
def ovo (p : Nat) (x : OV) : HP := sp [cel p [.int .i64 x.k, .int .i64 x.file, .int .i64 x.n, x.v, x.kv] 48, rd eB x.v x.b, rd eI x.kv x.kp]
theorem ovo_sub {p : Nat} {x : OV} {T : TypeId} (hT : T = 48) (h : ∀ m hp, SepL m L hp → Sl m eB x.v x.b ∧ Sl m eI x.kv x.kp) : Sub (cel p [.int .i64 x.k, .int .i64 x.file, .int .i64 x.n, x.v, x.kv] T :: L) (ovo p x :: L) := by
  subst hT
  refine Sub.trans ?_ (sub_close (Ls := [cel p [.int .i64 x.k, .int .i64 x.file, .int .i64 x.n, x.v, x.kv] 48, rd eB x.v x.b, rd eI x.kv x.kp]))
  refine sub_skip fun m hp s => ?_
  obtain ⟨h1, h2⟩ := h m hp s
  exact ⟨Hp.none, hp, Hp.none_dj _, Hp.none_le _, Hp.le_refl _, h1, Hp.none, hp, Hp.none_dj _, Hp.none_le _, Hp.le_refl _, h2, s⟩
theorem ovo_out {p : Nat} {x : OV} : Sub (ovo p x :: L) (cel p [.int .i64 x.k, .int .i64 x.file, .int .i64 x.n, x.v, x.kv] 48 :: rd eB x.v x.b :: rd eI x.kv x.kp :: L) := sub_open (Ls := [cel p [.int .i64 x.k, .int .i64 x.file, .int .i64 x.n, x.v, x.kv] 48, rd eB x.v x.b, rd eI x.kv x.kp])
set_option maxHeartbeats 4000000 in
theorem Ops_ct {A0 : Option Addr} {c0 : Nat} {l : List Int} (hv : rd eI (.slice A0 l.length c0) l ∈ L) (hr : ∀ x ∈ l, -9223372036854775808 ≤ x ∧ x ≤ 9223372036854775807) :
    CT Try.prog 23 #[.slice A0 l.length c0] W0 L fun r L' => ∃ A c os, os.length ≤ 16 ∧ (∀ x ∈ os, OvOk x) ∧ r = .slice A os.length c ∧ L' = own 48 eOV (.slice A os.length c) os :: L := by
  refine CT_sub3 (sub_dup hv) ?_
  refine CT_enter Try.func23 rfl ?_; (simp only [Try.ntmps23, List.size_toArray, List.length_cons, List.length_nil, Nat.reduceAdd, Nat.reduceSub, Array.replicate_succ, Array.replicate_zero, List.push_toArray, List.append_toArray, List.nil_append, List.cons_append])
  repeat' (first | refine go ?_ | intro _ | (apply cG; first | refine cT ?_ | refine cF ?_ | refine cS (fun _ => ?_) fun _ => ?_) | (apply gW; refine sW ?_) | (apply gI; refine sI ?_) | (apply gE; refine sE ?_) | (apply gP; refine sP ?_) | (apply gC; refine sC ?_) | (apply gD; refine sD ?_) | fail)
  refine C_ownnil 48 eOV ?_
  refine C_loopS (κ := Nat × Option Addr × Nat × List OV) [false, false, false, true, true, true, true, true, true, true, true, true, true, true, true, true, true, true, true, true, true, true, true, true, true, true, true, true, true, true, true, true, true, true, true, true, true, true, true, true, true, true, true, true, true, true, true, true, true, true, true, true, true, true, true, true, true, true, true, true, true, true, true, true, true, true, true, true, true, true, true, true, true, true, true, true, true, true, true, true, true, true, true, true, true, true, true, true, true, true, true, true, true, true, true, true, true, true, true, true, true, true, true, true, true, true, true, true, true, true, true, false] (fun k => [(3, .slice k.2.1 k.2.2.2.length k.2.2.1), (4, .int .i64 (k.1 : Int))]) (fun k => [(0, own 48 eOV (.slice k.2.1 k.2.2.2.length k.2.2.1) k.2.2.2)]) (fun k => k.1 ≤ 16 ∧ k.1 ≤ l.length ∧ k.2.2.2.length = k.1 ∧ ∀ x ∈ k.2.2.2, OvOk x) (fun k => 16 - k.1) (0, none, 0, []) ⟨Nat.zero_le _, Nat.zero_le _, rfl, fun x hx => by cases hx⟩ ⟨rfl, rfl, trivial⟩ ?_
  rintro ⟨i, A, c, os⟩ u ⟨hi, hil, hol, hok⟩
  dsimp only at hi hil hol hok
  dsimp only
  ((try dsimp only); refine C_n ?_; (try simp only [Nat.reduceAdd, Nat.zero_add]))
  by_cases hlt : i < l.length
  rotate_left
  · repeat' (first | refine go ?_ | intro _ | (apply cG; first | refine cT ?_ | refine cF ?_ | refine cS (fun _ => ?_) fun _ => ?_) | (apply gW; refine sW ?_) | (apply gI; refine sI ?_) | (apply gE; refine sE ?_) | (apply gP; refine sP ?_) | (apply gC; refine sC ?_) | (apply gD; refine sD ?_) | fail)
    refine E_res1 (by rfl) (by rfl) ⟨A, c, os, by omega, hok, rfl, rfl⟩ Sb
  by_cases hlt16 : i < 16
  rotate_left
  · repeat' (first | refine go ?_ | intro _ | (apply cG; first | refine cT ?_ | refine cF ?_ | refine cS (fun _ => ?_) fun _ => ?_) | (apply gW; refine sW ?_) | (apply gI; refine sI ?_) | (apply gE; refine sE ?_) | (apply gP; refine sP ?_) | (apply gC; refine sC ?_) | (apply gD; refine sD ?_) | fail)
    refine E_res1 (by rfl) (by rfl) ⟨A, c, os, by omega, hok, rfl, rfl⟩ Sb
  obtain ⟨y, hy⟩ : ∃ y, l[i]? = some y := ⟨_, List.getElem?_eq_getElem (by omega)⟩
  have hay : At l i y := ⟨hy⟩
  have hyr := hr y (List.mem_of_getElem? hy)
  repeat' (first | refine go ?_ | intro _ | (apply cG; first | refine cT ?_ | refine cF ?_ | refine cS (fun _ => ?_) fun _ => ?_) | (apply gI; refine sI ?_) | (apply gE; refine sE ?_) | (apply gP; refine sP ?_) | (apply gC; refine sC ?_) | (apply gD; refine sD ?_) | fail)
  apply gW; refine sW (r := y.tdiv 16) ?_ ⟨by decide, wr_i64 (tdiv16 y hyr.1 hyr.2).1 (tdiv16 y hyr.1 hyr.2).2⟩
  repeat' (first | refine go ?_ | intro _ | (apply cG; first | refine cT ?_ | refine cF ?_ | refine cS (fun _ => ?_) fun _ => ?_) | (apply gW; refine sW ?_) | (apply gI; refine sI ?_) | (apply gE; refine sE ?_) | (apply gP; refine sP ?_) | (apply gC; refine sC ?_) | (apply gD; refine sD ?_) | fail)
  refine O_d (dy_call ArgsI.pf (by first | exact rfl | trivial | (intro a b; rfl)) (Around_ct (most := 4096) (tdiv16 y hyr.1 hyr.2).1 (tdiv16 y hyr.1 hyr.2).2 (by decide) (by decide))) ?_; rintro _ _ ⟨_, ⟨rfl, hLL⟩, rfl⟩; replace hLL := hLL.symm; subst hLL; refine O_n ?_
  have hNr := around_in (n := y.tdiv 16) (most := 4096) (by decide)
  obtain ⟨N, hN⟩ : ∃ N : Nat, around (y.tdiv 16) 4096 = N := ⟨(around (y.tdiv 16) 4096).toNat, by omega⟩
  rw [hN] at hNr ⊢
  repeat' (first | ((fail_if_success apply AtE); refine go ?_) | intro _ | (apply cG; first | refine cT ?_ | refine cF ?_ | refine cS (fun _ => ?_) fun _ => ?_) | (apply gW; refine sW ?_) | (apply gI; refine sI ?_) | (apply gE; refine sE ?_) | (apply gP; refine sP ?_) | (apply gC; refine sC ?_) | (apply gD; refine sD ?_) | fail)
  refine go ?_
  repeat' (first | refine go ?_ | intro _ | (apply cG; first | refine cT ?_ | refine cF ?_ | refine cS (fun _ => ?_) fun _ => ?_) | (apply gI; refine sI ?_) | (apply gE; refine sE ?_) | (apply gP; refine sP ?_) | (apply gC; refine sC ?_) | (apply gD; refine sD ?_) | fail)
  apply gW; refine sW (r := ((N % 3 : Nat) : Int)) ?_ ⟨by decide, rfl⟩
  repeat' (first | ((fail_if_success apply AtE); refine go ?_) | intro _ | (apply cG; first | refine cT ?_ | refine cF ?_ | refine cS (fun _ => ?_) fun _ => ?_) | (apply gW; refine sW ?_) | (apply gI; refine sI ?_) | (apply gE; refine sE ?_) | (apply gP; refine sP ?_) | (apply gC; refine sC ?_) | (apply gD; refine sD ?_) | fail)
  have hs2 := around_in (n := y) (most := 16) (by decide)
  rename_i p
  refine go ?_; refine go ?_; refine C_join (κ := OV) [false, false, false, false, false, false, false, true, false, false, false, false, false, false, false, false, false, false, false, false, false, false, false, false, false, false, false, true, true, true, true, true, true, true, true, true, true, true, true, true, true, true, true, true, true, true, true, true, true, true, true, true, true, true, true, true, true, true, true, true, true, true, true, true, true, true, true, true, true, true, true, true, true, true, true, true, true, true, true, true, true, true, true, true, true, true, true, true, true, true, true, true, true, true, true, true, true, true, true, true, true, true, true, true, true, true, true, false, false, false, false, false] (fun k => []) (fun k => [(0, ovo p k)]) (fun k => OvOk k) ?_ ?_
  · repeat' (first | refine go ?_ | intro _ | (apply cG; first | refine cT ?_ | refine cF ?_ | refine cS (fun _ => ?_) fun _ => ?_) | (apply gW; refine sW ?_) | (apply gI; refine sI ?_) | (apply gE; refine sE ?_) | (apply gP; refine sP ?_) | (apply gC; refine sC ?_) | (apply gD; refine sD ?_) | fail)
    refine O_d (dy_call ArgsI.pf (by first | exact rfl | trivial | (intro a b; rfl)) (Around_ct (most := 16) hyr.1 hyr.2 (by decide) (by decide))) ?_; rintro _ _ ⟨_, ⟨rfl, hLL⟩, rfl⟩; replace hLL := hLL.symm; subst hLL; refine O_n ?_
    obtain ⟨s, hs⟩ : ∃ s, around y 16 = s := ⟨_, rfl⟩
    rw [hs] at hs2 ⊢
    by_cases h0 : s = 0
    · subst h0
      repeat' (first | refine go ?_ | intro _ | (apply cG; first | refine cT ?_ | refine cF ?_ | refine cS (fun _ => ?_) fun _ => ?_) | (apply gW; refine sW ?_) | (apply gI; refine sI ?_) | (apply gE; refine sE ?_) | (apply gP; refine sP ?_) | (apply gC; refine sC ?_) | (apply gD; refine sD ?_) | fail)
      refine E_join (⟨1, ((N % 3 : Nat) : Int), 0, .slice none 0 0, [], .slice none 0 0, []⟩) (⟨by dsimp only; omega, by dsimp only; omega, by dsimp only; omega, by dsimp only; omega, by dsimp only [List.length_nil]; omega, by dsimp only [List.length_nil]; omega, fun y hy => by cases hy⟩) trivial ?_
      refine Sub.trans (ovo_sub (x := ⟨1, ((N % 3 : Nat) : Int), 0, .slice none 0 0, [], .slice none 0 0, []⟩) rfl (fun m hp hs => ⟨Sl.nil _ _ _ _, Sl.nil _ _ _ _⟩)) Sb
    by_cases h1 : s = 1
    · subst h1
      repeat' (first | refine go ?_ | intro _ | (apply cG; first | refine cT ?_ | refine cF ?_ | refine cS (fun _ => ?_) fun _ => ?_) | (apply gW; refine sW ?_) | (apply gI; refine sI ?_) | (apply gE; refine sE ?_) | (apply gP; refine sP ?_) | (apply gC; refine sC ?_) | (apply gD; refine sD ?_) | fail)
      refine E_join (⟨1, ((N % 3 : Nat) : Int), 0, .slice none 0 0, [], .slice none 0 0, []⟩) (⟨by dsimp only; omega, by dsimp only; omega, by dsimp only; omega, by dsimp only; omega, by dsimp only [List.length_nil]; omega, by dsimp only [List.length_nil]; omega, fun y hy => by cases hy⟩) trivial ?_
      refine Sub.trans (ovo_sub (x := ⟨1, ((N % 3 : Nat) : Int), 0, .slice none 0 0, [], .slice none 0 0, []⟩) rfl (fun m hp hs => ⟨Sl.nil _ _ _ _, Sl.nil _ _ _ _⟩)) Sb
    by_cases h2 : s = 2
    · subst h2
      repeat' (first | refine go ?_ | intro _ | (apply cG; first | refine cT ?_ | refine cF ?_ | refine cS (fun _ => ?_) fun _ => ?_) | (apply gI; refine sI ?_) | (apply gE; refine sE ?_) | (apply gP; refine sP ?_) | (apply gC; refine sC ?_) | (apply gD; refine sD ?_) | fail)
      apply gW; refine sW (r := ((N / 3 : Nat) : Int)) ?_ ⟨by decide, by show IntKind.i64.wrap ((N / 3 : Nat) : Int) = ((N / 3 : Nat) : Int); exact wr_i64 (by omega) (by omega)⟩
      repeat' (first | refine go ?_ | intro _ | (apply cG; first | refine cT ?_ | refine cF ?_ | refine cS (fun _ => ?_) fun _ => ?_) | (apply gI; refine sI ?_) | (apply gE; refine sE ?_) | (apply gP; refine sP ?_) | (apply gC; refine sC ?_) | (apply gD; refine sD ?_) | fail)
      apply gW; refine sW (r := (((N / 3) % 9 : Nat) : Int)) ?_ ⟨by decide, rfl⟩
      repeat' (first | refine go ?_ | intro _ | (apply cG; first | refine cT ?_ | refine cF ?_ | refine cS (fun _ => ?_) fun _ => ?_) | (apply gI; refine sI ?_) | (apply gE; refine sE ?_) | (apply gP; refine sP ?_) | (apply gC; refine sC ?_) | (apply gD; refine sD ?_) | fail)
      apply gW; refine sW (r := (((N / 3 % 9) : Nat) : Int) - 1) ?_ (wr_i64 (by omega) (by omega))
      repeat' (first | refine go ?_ | intro _ | (apply cG; first | refine cT ?_ | refine cF ?_ | refine cS (fun _ => ?_) fun _ => ?_) | (apply gW; refine sW ?_) | (apply gI; refine sI ?_) | (apply gE; refine sE ?_) | (apply gP; refine sP ?_) | (apply gC; refine sC ?_) | (apply gD; refine sD ?_) | fail)
      refine E_join (⟨2, ((N % 3 : Nat) : Int), ((N / 3 % 9 : Nat) : Int) - 1, .slice none 0 0, [], .slice none 0 0, []⟩) (⟨by dsimp only; omega, by dsimp only; omega, by dsimp only; omega, by dsimp only; omega, by dsimp only [List.length_nil]; omega, by dsimp only [List.length_nil]; omega, fun y hy => by cases hy⟩) trivial ?_
      refine Sub.trans (ovo_sub (x := ⟨2, ((N % 3 : Nat) : Int), ((N / 3 % 9 : Nat) : Int) - 1, .slice none 0 0, [], .slice none 0 0, []⟩) rfl (fun m hp hs => ⟨Sl.nil _ _ _ _, Sl.nil _ _ _ _⟩)) Sb
    by_cases h3 : s = 3
    · subst h3
      repeat' (first | refine go ?_ | intro _ | (apply cG; first | refine cT ?_ | refine cF ?_ | refine cS (fun _ => ?_) fun _ => ?_) | (apply gI; refine sI ?_) | (apply gE; refine sE ?_) | (apply gP; refine sP ?_) | (apply gC; refine sC ?_) | (apply gD; refine sD ?_) | fail)
      apply gW; refine sW (r := ((N / 3 : Nat) : Int)) ?_ ⟨by decide, by show IntKind.i64.wrap ((N / 3 : Nat) : Int) = ((N / 3 : Nat) : Int); exact wr_i64 (by omega) (by omega)⟩
      repeat' (first | refine go ?_ | intro _ | (apply cG; first | refine cT ?_ | refine cF ?_ | refine cS (fun _ => ?_) fun _ => ?_) | (apply gI; refine sI ?_) | (apply gE; refine sE ?_) | (apply gP; refine sP ?_) | (apply gC; refine sC ?_) | (apply gD; refine sD ?_) | fail)
      apply gW; refine sW (r := (((N / 3) % 7 : Nat) : Int)) ?_ ⟨by decide, rfl⟩
      repeat' (first | refine go ?_ | intro _ | (apply cG; first | refine cT ?_ | refine cF ?_ | refine cS (fun _ => ?_) fun _ => ?_) | (apply gI; refine sI ?_) | (apply gE; refine sE ?_) | (apply gP; refine sP ?_) | (apply gC; refine sC ?_) | (apply gD; refine sD ?_) | fail)
      apply gW; refine sW (r := (((N / 3 % 7) : Nat) : Int) - 1) ?_ (wr_i64 (by omega) (by omega))
      repeat' (first | refine go ?_ | intro _ | (apply cG; first | refine cT ?_ | refine cF ?_ | refine cS (fun _ => ?_) fun _ => ?_) | (apply gW; refine sW ?_) | (apply gI; refine sI ?_) | (apply gE; refine sE ?_) | (apply gP; refine sP ?_) | (apply gC; refine sC ?_) | (apply gD; refine sD ?_) | fail)
      refine E_join (⟨3, ((N % 3 : Nat) : Int), ((N / 3 % 7 : Nat) : Int) - 1, .slice none 0 0, [], .slice none 0 0, []⟩) (⟨by dsimp only; omega, by dsimp only; omega, by dsimp only; omega, by dsimp only; omega, by dsimp only [List.length_nil]; omega, by dsimp only [List.length_nil]; omega, fun y hy => by cases hy⟩) trivial ?_
      refine Sub.trans (ovo_sub (x := ⟨3, ((N % 3 : Nat) : Int), ((N / 3 % 7 : Nat) : Int) - 1, .slice none 0 0, [], .slice none 0 0, []⟩) rfl (fun m hp hs => ⟨Sl.nil _ _ _ _, Sl.nil _ _ _ _⟩)) Sb
    by_cases h45 : s = 4 ∨ s = 5
    · have hkr : ∀ q ∈ ([((N % 5 : Nat) : Int) - 1, ((N / 5 % 5 : Nat) : Int), ((N / 25 % 5 : Nat) : Int)] : List Int).take (N / 125 % 4), -9223372036854775808 ≤ q ∧ q ≤ 9223372036854775807 := fun q hq => by
        have := List.mem_of_mem_take hq
        simp only [List.mem_cons, List.not_mem_nil, or_false] at this
        rcases this with rfl | rfl | rfl <;> omega
      have hm4 : N / 125 % 4 ≤ 3 := by omega
      rcases h45 with h45 | h45
      · subst h45
        repeat' (first | refine go ?_ | intro _ | (apply cG; first | refine cT ?_ | refine cF ?_ | refine cS (fun _ => ?_) fun _ => ?_) | (apply gI; refine sI ?_) | (apply gE; refine sE ?_) | (apply gP; refine sP ?_) | (apply gC; refine sC ?_) | (apply gD; refine sD ?_) | fail)
        apply gW; refine sW (r := ((N / 4 : Nat) : Int)) ?_ ⟨by decide, by show IntKind.i64.wrap ((N / 4 : Nat) : Int) = ((N / 4 : Nat) : Int); exact wr_i64 (by omega) (by omega)⟩
        repeat' (first | refine go ?_ | intro _ | (apply cG; first | refine cT ?_ | refine cF ?_ | refine cS (fun _ => ?_) fun _ => ?_) | (apply gI; refine sI ?_) | (apply gE; refine sE ?_) | (apply gP; refine sP ?_) | (apply gC; refine sC ?_) | (apply gD; refine sD ?_) | fail)
        apply gW; refine sW (r := (((N / 4) % 40 : Nat) : Int)) ?_ ⟨by decide, rfl⟩
        repeat' (first | refine go ?_ | intro _ | (apply cG; first | refine cT ?_ | refine cF ?_ | refine cS (fun _ => ?_) fun _ => ?_) | (apply gI; refine sI ?_) | (apply gE; refine sE ?_) | (apply gP; refine sP ?_) | (apply gC; refine sC ?_) | (apply gD; refine sD ?_) | fail)
        apply gW; refine sW (r := (((N / 4 % 40) : Nat) : Int) - 4) ?_ (wr_i64 (by omega) (by omega))
        repeat' (first | refine go ?_ | intro _ | (apply cG; first | refine cT ?_ | refine cF ?_ | refine cS (fun _ => ?_) fun _ => ?_) | (apply gI; refine sI ?_) | (apply gE; refine sE ?_) | (apply gP; refine sP ?_) | (apply gC; refine sC ?_) | (apply gD; refine sD ?_) | fail)
        apply gW; refine sW (r := ((N % 5 : Nat) : Int)) ?_ ⟨by decide, rfl⟩
        repeat' (first | refine go ?_ | intro _ | (apply cG; first | refine cT ?_ | refine cF ?_ | refine cS (fun _ => ?_) fun _ => ?_) | (apply gI; refine sI ?_) | (apply gE; refine sE ?_) | (apply gP; refine sP ?_) | (apply gC; refine sC ?_) | (apply gD; refine sD ?_) | fail)
        apply gW; refine sW (r := (((N % 5) : Nat) : Int) - 1) ?_ (wr_i64 (by omega) (by omega))
        repeat' (first | refine go ?_ | intro _ | (apply cG; first | refine cT ?_ | refine cF ?_ | refine cS (fun _ => ?_) fun _ => ?_) | (apply gI; refine sI ?_) | (apply gE; refine sE ?_) | (apply gP; refine sP ?_) | (apply gC; refine sC ?_) | (apply gD; refine sD ?_) | fail)
        apply gW; refine sW (r := ((N / 5 : Nat) : Int)) ?_ ⟨by decide, by show IntKind.i64.wrap ((N / 5 : Nat) : Int) = ((N / 5 : Nat) : Int); exact wr_i64 (by omega) (by omega)⟩
        repeat' (first | refine go ?_ | intro _ | (apply cG; first | refine cT ?_ | refine cF ?_ | refine cS (fun _ => ?_) fun _ => ?_) | (apply gI; refine sI ?_) | (apply gE; refine sE ?_) | (apply gP; refine sP ?_) | (apply gC; refine sC ?_) | (apply gD; refine sD ?_) | fail)
        apply gW; refine sW (r := (((N / 5) % 5 : Nat) : Int)) ?_ ⟨by decide, rfl⟩
        repeat' (first | refine go ?_ | intro _ | (apply cG; first | refine cT ?_ | refine cF ?_ | refine cS (fun _ => ?_) fun _ => ?_) | (apply gI; refine sI ?_) | (apply gE; refine sE ?_) | (apply gP; refine sP ?_) | (apply gC; refine sC ?_) | (apply gD; refine sD ?_) | fail)
        apply gW; refine sW (r := ((N / 25 : Nat) : Int)) ?_ ⟨by decide, by show IntKind.i64.wrap ((N / 25 : Nat) : Int) = ((N / 25 : Nat) : Int); exact wr_i64 (by omega) (by omega)⟩
        repeat' (first | refine go ?_ | intro _ | (apply cG; first | refine cT ?_ | refine cF ?_ | refine cS (fun _ => ?_) fun _ => ?_) | (apply gI; refine sI ?_) | (apply gE; refine sE ?_) | (apply gP; refine sP ?_) | (apply gC; refine sC ?_) | (apply gD; refine sD ?_) | fail)
        apply gW; refine sW (r := (((N / 25) % 5 : Nat) : Int)) ?_ ⟨by decide, rfl⟩
        repeat' (first | refine go ?_ | intro _ | (apply cG; first | refine cT ?_ | refine cF ?_ | refine cS (fun _ => ?_) fun _ => ?_) | (apply gW; refine sW ?_) | (apply gI; refine sI ?_) | (apply gE; refine sE ?_) | (apply gP; refine sP ?_) | (apply gC; refine sC ?_) | (apply gD; refine sD ?_) | fail)
        refine O_d (dy_litP (f := iv) (hf := fun _ => rfl) [((N % 5 : Nat) : Int) - 1, ((N / 5 % 5 : Nat) : Int), ((N / 25 % 5 : Nat) : Int)] (by rfl)) ?_; rintro _ _ ⟨_, rfl, rfl⟩; refine O_n ?_
        refine O_frz 0 ?_
        rename_i g
        repeat' (first | refine go ?_ | intro _ | (apply cG; first | refine cT ?_ | refine cF ?_ | refine cS (fun _ => ?_) fun _ => ?_) | (apply gI; refine sI ?_) | (apply gE; refine sE ?_) | (apply gP; refine sP ?_) | (apply gC; refine sC ?_) | (apply gD; refine sD ?_) | fail)
        apply gW; refine sW (r := ((N / 125 : Nat) : Int)) ?_ ⟨by decide, by show IntKind.i64.wrap ((N / 125 : Nat) : Int) = ((N / 125 : Nat) : Int); exact wr_i64 (by omega) (by omega)⟩
        repeat' (first | refine go ?_ | intro _ | (apply cG; first | refine cT ?_ | refine cF ?_ | refine cS (fun _ => ?_) fun _ => ?_) | (apply gI; refine sI ?_) | (apply gE; refine sE ?_) | (apply gP; refine sP ?_) | (apply gC; refine sC ?_) | (apply gD; refine sD ?_) | fail)
        apply gW; refine sW (r := (((N / 125) % 4 : Nat) : Int)) ?_ ⟨by decide, rfl⟩
        repeat' (first | refine go ?_ | intro _ | (apply cG; first | refine cT ?_ | refine cF ?_ | refine cS (fun _ => ?_) fun _ => ?_) | (apply gW; refine sW ?_) | (apply gI; refine sI ?_) | (apply gE; refine sE ?_) | (apply gP; refine sP ?_) | (apply gC; refine sC ?_) | (apply gD; refine sD ?_) | fail)
        refine O_s (sv_slice (l' := 0) (h' := N / 125 % 4) (l := 0) (h := N / 125 % 4)) ?_
        rw [cutA0, Nat.sub_zero]
        repeat' (first | refine go ?_ | intro _ | (apply cG; first | refine cT ?_ | refine cF ?_ | refine cS (fun _ => ?_) fun _ => ?_) | (apply gW; refine sW ?_) | (apply gI; refine sI ?_) | (apply gE; refine sE ?_) | (apply gP; refine sP ?_) | (apply gC; refine sC ?_) | (apply gD; refine sD ?_) | fail)
        refine E_join (⟨4, ((N % 3 : Nat) : Int), ((N / 4 % 40 : Nat) : Int) - 4, .slice none 0 0, [], .slice (some ⟨g, 0, none⟩) (N / 125 % 4) 3, ([((N % 5 : Nat) : Int) - 1, ((N / 5 % 5 : Nat) : Int), ((N / 25 % 5 : Nat) : Int)] : List Int).take (N / 125 % 4)⟩) (⟨by dsimp only; omega, by dsimp only; omega, by dsimp only; omega, by dsimp only; omega, by dsimp only; exact Nat.zero_le _, by dsimp only; rw [List.length_take]; exact Nat.le_trans (Nat.min_le_right _ _) (Nat.le_refl 3), hkr⟩) trivial ?_
        refine Sub.trans (B := cel p [.int .i64 (⟨4, ((N % 3 : Nat) : Int), ((N / 4 % 40 : Nat) : Int) - 4, .slice none 0 0, [], .slice (some ⟨g, 0, none⟩) (N / 125 % 4) 3, ([((N % 5 : Nat) : Int) - 1, ((N / 5 % 5 : Nat) : Int), ((N / 25 % 5 : Nat) : Int)] : List Int).take (N / 125 % 4)⟩ : OV).k, .int .i64 (⟨4, ((N % 3 : Nat) : Int), ((N / 4 % 40 : Nat) : Int) - 4, .slice none 0 0, [], .slice (some ⟨g, 0, none⟩) (N / 125 % 4) 3, ([((N % 5 : Nat) : Int) - 1, ((N / 5 % 5 : Nat) : Int), ((N / 25 % 5 : Nat) : Int)] : List Int).take (N / 125 % 4)⟩ : OV).file, .int .i64 (⟨4, ((N % 3 : Nat) : Int), ((N / 4 % 40 : Nat) : Int) - 4, .slice none 0 0, [], .slice (some ⟨g, 0, none⟩) (N / 125 % 4) 3, ([((N % 5 : Nat) : Int) - 1, ((N / 5 % 5 : Nat) : Int), ((N / 25 % 5 : Nat) : Int)] : List Int).take (N / 125 % 4)⟩ : OV).n, (⟨4, ((N % 3 : Nat) : Int), ((N / 4 % 40 : Nat) : Int) - 4, .slice none 0 0, [], .slice (some ⟨g, 0, none⟩) (N / 125 % 4) 3, ([((N % 5 : Nat) : Int) - 1, ((N / 5 % 5 : Nat) : Int), ((N / 25 % 5 : Nat) : Int)] : List Int).take (N / 125 % 4)⟩ : OV).v, (⟨4, ((N % 3 : Nat) : Int), ((N / 4 % 40 : Nat) : Int) - 4, .slice none 0 0, [], .slice (some ⟨g, 0, none⟩) (N / 125 % 4) 3, ([((N % 5 : Nat) : Int) - 1, ((N / 5 % 5 : Nat) : Int), ((N / 25 % 5 : Nat) : Int)] : List Int).take (N / 125 % 4)⟩ : OV).kv] 48 :: rd eI (.slice (some ⟨g, 0, none⟩) 3 3) ([((N % 5 : Nat) : Int) - 1, ((N / 5 % 5 : Nat) : Int), ((N / 25 % 5 : Nat) : Int)] : List Int) :: own 48 eOV (.slice A os.length c) os :: rd eI (.slice A0 l.length c0) l :: L) Sb (Sub.trans (ovo_sub (x := ⟨4, ((N % 3 : Nat) : Int), ((N / 4 % 40 : Nat) : Int) - 4, .slice none 0 0, [], .slice (some ⟨g, 0, none⟩) (N / 125 % 4) 3, ([((N % 5 : Nat) : Int) - 1, ((N / 5 % 5 : Nat) : Int), ((N / 25 % 5 : Nat) : Int)] : List Int).take (N / 125 % 4)⟩) rfl (fun m hp hs => ⟨Sl.nil _ _ _ _, Sl.cut0 (rd_mem hs (.head _)) hm4⟩)) Sb)
      · subst h45
        repeat' (first | refine go ?_ | intro _ | (apply cG; first | refine cT ?_ | refine cF ?_ | refine cS (fun _ => ?_) fun _ => ?_) | (apply gI; refine sI ?_) | (apply gE; refine sE ?_) | (apply gP; refine sP ?_) | (apply gC; refine sC ?_) | (apply gD; refine sD ?_) | fail)
        apply gW; refine sW (r := ((N / 4 : Nat) : Int)) ?_ ⟨by decide, by show IntKind.i64.wrap ((N / 4 : Nat) : Int) = ((N / 4 : Nat) : Int); exact wr_i64 (by omega) (by omega)⟩
        repeat' (first | refine go ?_ | intro _ | (apply cG; first | refine cT ?_ | refine cF ?_ | refine cS (fun _ => ?_) fun _ => ?_) | (apply gI; refine sI ?_) | (apply gE; refine sE ?_) | (apply gP; refine sP ?_) | (apply gC; refine sC ?_) | (apply gD; refine sD ?_) | fail)
        apply gW; refine sW (r := (((N / 4) % 40 : Nat) : Int)) ?_ ⟨by decide, rfl⟩
        repeat' (first | refine go ?_ | intro _ | (apply cG; first | refine cT ?_ | refine cF ?_ | refine cS (fun _ => ?_) fun _ => ?_) | (apply gI; refine sI ?_) | (apply gE; refine sE ?_) | (apply gP; refine sP ?_) | (apply gC; refine sC ?_) | (apply gD; refine sD ?_) | fail)
        apply gW; refine sW (r := (((N / 4 % 40) : Nat) : Int) - 4) ?_ (wr_i64 (by omega) (by omega))
        repeat' (first | refine go ?_ | intro _ | (apply cG; first | refine cT ?_ | refine cF ?_ | refine cS (fun _ => ?_) fun _ => ?_) | (apply gI; refine sI ?_) | (apply gE; refine sE ?_) | (apply gP; refine sP ?_) | (apply gC; refine sC ?_) | (apply gD; refine sD ?_) | fail)
        apply gW; refine sW (r := ((N % 5 : Nat) : Int)) ?_ ⟨by decide, rfl⟩
        repeat' (first | refine go ?_ | intro _ | (apply cG; first | refine cT ?_ | refine cF ?_ | refine cS (fun _ => ?_) fun _ => ?_) | (apply gI; refine sI ?_) | (apply gE; refine sE ?_) | (apply gP; refine sP ?_) | (apply gC; refine sC ?_) | (apply gD; refine sD ?_) | fail)
        apply gW; refine sW (r := (((N % 5) : Nat) : Int) - 1) ?_ (wr_i64 (by omega) (by omega))
        repeat' (first | refine go ?_ | intro _ | (apply cG; first | refine cT ?_ | refine cF ?_ | refine cS (fun _ => ?_) fun _ => ?_) | (apply gI; refine sI ?_) | (apply gE; refine sE ?_) | (apply gP; refine sP ?_) | (apply gC; refine sC ?_) | (apply gD; refine sD ?_) | fail)
        apply gW; refine sW (r := ((N / 5 : Nat) : Int)) ?_ ⟨by decide, by show IntKind.i64.wrap ((N / 5 : Nat) : Int) = ((N / 5 : Nat) : Int); exact wr_i64 (by omega) (by omega)⟩
        repeat' (first | refine go ?_ | intro _ | (apply cG; first | refine cT ?_ | refine cF ?_ | refine cS (fun _ => ?_) fun _ => ?_) | (apply gI; refine sI ?_) | (apply gE; refine sE ?_) | (apply gP; refine sP ?_) | (apply gC; refine sC ?_) | (apply gD; refine sD ?_) | fail)
        apply gW; refine sW (r := (((N / 5) % 5 : Nat) : Int)) ?_ ⟨by decide, rfl⟩
        repeat' (first | refine go ?_ | intro _ | (apply cG; first | refine cT ?_ | refine cF ?_ | refine cS (fun _ => ?_) fun _ => ?_) | (apply gI; refine sI ?_) | (apply gE; refine sE ?_) | (apply gP; refine sP ?_) | (apply gC; refine sC ?_) | (apply gD; refine sD ?_) | fail)
        apply gW; refine sW (r := ((N / 25 : Nat) : Int)) ?_ ⟨by decide, by show IntKind.i64.wrap ((N / 25 : Nat) : Int) = ((N / 25 : Nat) : Int); exact wr_i64 (by omega) (by omega)⟩
        repeat' (first | refine go ?_ | intro _ | (apply cG; first | refine cT ?_ | refine cF ?_ | refine cS (fun _ => ?_) fun _ => ?_) | (apply gI; refine sI ?_) | (apply gE; refine sE ?_) | (apply gP; refine sP ?_) | (apply gC; refine sC ?_) | (apply gD; refine sD ?_) | fail)
        apply gW; refine sW (r := (((N / 25) % 5 : Nat) : Int)) ?_ ⟨by decide, rfl⟩
        repeat' (first | refine go ?_ | intro _ | (apply cG; first | refine cT ?_ | refine cF ?_ | refine cS (fun _ => ?_) fun _ => ?_) | (apply gW; refine sW ?_) | (apply gI; refine sI ?_) | (apply gE; refine sE ?_) | (apply gP; refine sP ?_) | (apply gC; refine sC ?_) | (apply gD; refine sD ?_) | fail)
        refine O_d (dy_litP (f := iv) (hf := fun _ => rfl) [((N % 5 : Nat) : Int) - 1, ((N / 5 % 5 : Nat) : Int), ((N / 25 % 5 : Nat) : Int)] (by rfl)) ?_; rintro _ _ ⟨_, rfl, rfl⟩; refine O_n ?_
        refine O_frz 0 ?_
        rename_i g
        repeat' (first | refine go ?_ | intro _ | (apply cG; first | refine cT ?_ | refine cF ?_ | refine cS (fun _ => ?_) fun _ => ?_) | (apply gI; refine sI ?_) | (apply gE; refine sE ?_) | (apply gP; refine sP ?_) | (apply gC; refine sC ?_) | (apply gD; refine sD ?_) | fail)
        apply gW; refine sW (r := ((N / 125 : Nat) : Int)) ?_ ⟨by decide, by show IntKind.i64.wrap ((N / 125 : Nat) : Int) = ((N / 125 : Nat) : Int); exact wr_i64 (by omega) (by omega)⟩
        repeat' (first | refine go ?_ | intro _ | (apply cG; first | refine cT ?_ | refine cF ?_ | refine cS (fun _ => ?_) fun _ => ?_) | (apply gI; refine sI ?_) | (apply gE; refine sE ?_) | (apply gP; refine sP ?_) | (apply gC; refine sC ?_) | (apply gD; refine sD ?_) | fail)
        apply gW; refine sW (r := (((N / 125) % 4 : Nat) : Int)) ?_ ⟨by decide, rfl⟩
        repeat' (first | refine go ?_ | intro _ | (apply cG; first | refine cT ?_ | refine cF ?_ | refine cS (fun _ => ?_) fun _ => ?_) | (apply gW; refine sW ?_) | (apply gI; refine sI ?_) | (apply gE; refine sE ?_) | (apply gP; refine sP ?_) | (apply gC; refine sC ?_) | (apply gD; refine sD ?_) | fail)
        refine O_s (sv_slice (l' := 0) (h' := N / 125 % 4) (l := 0) (h := N / 125 % 4)) ?_
        rw [cutA0, Nat.sub_zero]
        repeat' (first | refine go ?_ | intro _ | (apply cG; first | refine cT ?_ | refine cF ?_ | refine cS (fun _ => ?_) fun _ => ?_) | (apply gW; refine sW ?_) | (apply gI; refine sI ?_) | (apply gE; refine sE ?_) | (apply gP; refine sP ?_) | (apply gC; refine sC ?_) | (apply gD; refine sD ?_) | fail)
        refine E_join (⟨4, ((N % 3 : Nat) : Int), ((N / 4 % 40 : Nat) : Int) - 4, .slice none 0 0, [], .slice (some ⟨g, 0, none⟩) (N / 125 % 4) 3, ([((N % 5 : Nat) : Int) - 1, ((N / 5 % 5 : Nat) : Int), ((N / 25 % 5 : Nat) : Int)] : List Int).take (N / 125 % 4)⟩) (⟨by dsimp only; omega, by dsimp only; omega, by dsimp only; omega, by dsimp only; omega, by dsimp only; exact Nat.zero_le _, by dsimp only; rw [List.length_take]; exact Nat.le_trans (Nat.min_le_right _ _) (Nat.le_refl 3), hkr⟩) trivial ?_
        refine Sub.trans (B := cel p [.int .i64 (⟨4, ((N % 3 : Nat) : Int), ((N / 4 % 40 : Nat) : Int) - 4, .slice none 0 0, [], .slice (some ⟨g, 0, none⟩) (N / 125 % 4) 3, ([((N % 5 : Nat) : Int) - 1, ((N / 5 % 5 : Nat) : Int), ((N / 25 % 5 : Nat) : Int)] : List Int).take (N / 125 % 4)⟩ : OV).k, .int .i64 (⟨4, ((N % 3 : Nat) : Int), ((N / 4 % 40 : Nat) : Int) - 4, .slice none 0 0, [], .slice (some ⟨g, 0, none⟩) (N / 125 % 4) 3, ([((N % 5 : Nat) : Int) - 1, ((N / 5 % 5 : Nat) : Int), ((N / 25 % 5 : Nat) : Int)] : List Int).take (N / 125 % 4)⟩ : OV).file, .int .i64 (⟨4, ((N % 3 : Nat) : Int), ((N / 4 % 40 : Nat) : Int) - 4, .slice none 0 0, [], .slice (some ⟨g, 0, none⟩) (N / 125 % 4) 3, ([((N % 5 : Nat) : Int) - 1, ((N / 5 % 5 : Nat) : Int), ((N / 25 % 5 : Nat) : Int)] : List Int).take (N / 125 % 4)⟩ : OV).n, (⟨4, ((N % 3 : Nat) : Int), ((N / 4 % 40 : Nat) : Int) - 4, .slice none 0 0, [], .slice (some ⟨g, 0, none⟩) (N / 125 % 4) 3, ([((N % 5 : Nat) : Int) - 1, ((N / 5 % 5 : Nat) : Int), ((N / 25 % 5 : Nat) : Int)] : List Int).take (N / 125 % 4)⟩ : OV).v, (⟨4, ((N % 3 : Nat) : Int), ((N / 4 % 40 : Nat) : Int) - 4, .slice none 0 0, [], .slice (some ⟨g, 0, none⟩) (N / 125 % 4) 3, ([((N % 5 : Nat) : Int) - 1, ((N / 5 % 5 : Nat) : Int), ((N / 25 % 5 : Nat) : Int)] : List Int).take (N / 125 % 4)⟩ : OV).kv] 48 :: rd eI (.slice (some ⟨g, 0, none⟩) 3 3) ([((N % 5 : Nat) : Int) - 1, ((N / 5 % 5 : Nat) : Int), ((N / 25 % 5 : Nat) : Int)] : List Int) :: own 48 eOV (.slice A os.length c) os :: rd eI (.slice A0 l.length c0) l :: L) Sb (Sub.trans (ovo_sub (x := ⟨4, ((N % 3 : Nat) : Int), ((N / 4 % 40 : Nat) : Int) - 4, .slice none 0 0, [], .slice (some ⟨g, 0, none⟩) (N / 125 % 4) 3, ([((N % 5 : Nat) : Int) - 1, ((N / 5 % 5 : Nat) : Int), ((N / 25 % 5 : Nat) : Int)] : List Int).take (N / 125 % 4)⟩) rfl (fun m hp hs => ⟨Sl.nil _ _ _ _, Sl.cut0 (rd_mem hs (.head _)) hm4⟩)) Sb)
    by_cases h6 : s = 6
    · subst h6
      repeat' (first | refine go ?_ | intro _ | (apply cG; first | refine cT ?_ | refine cF ?_ | refine cS (fun _ => ?_) fun _ => ?_) | (apply gI; refine sI ?_) | (apply gE; refine sE ?_) | (apply gP; refine sP ?_) | (apply gC; refine sC ?_) | (apply gD; refine sD ?_) | fail)
      apply gW; refine sW (r := ((N % 70 : Nat) : Int)) ?_ ⟨by decide, rfl⟩
      repeat' (first | refine go ?_ | intro _ | (apply cG; first | refine cT ?_ | refine cF ?_ | refine cS (fun _ => ?_) fun _ => ?_) | (apply gI; refine sI ?_) | (apply gE; refine sE ?_) | (apply gP; refine sP ?_) | (apply gC; refine sC ?_) | (apply gD; refine sD ?_) | fail)
      apply gW; refine sW (r := (((N % 70) : Nat) : Int) - 3) ?_ (wr_i64 (by omega) (by omega))
      repeat' (first | refine go ?_ | intro _ | (apply cG; first | refine cT ?_ | refine cF ?_ | refine cS (fun _ => ?_) fun _ => ?_) | (apply gW; refine sW ?_) | (apply gI; refine sI ?_) | (apply gE; refine sE ?_) | (apply gP; refine sP ?_) | (apply gC; refine sC ?_) | (apply gD; refine sD ?_) | fail)
      refine O_d (dy_litP (f := bv) (hf := fun _ => rfl) [1] (by rfl)) ?_; rintro _ _ ⟨_, rfl, rfl⟩; refine O_n ?_
      refine O_frz 0 ?_
      rename_i g
      repeat' (first | refine go ?_ | intro _ | (apply cG; first | refine cT ?_ | refine cF ?_ | refine cS (fun _ => ?_) fun _ => ?_) | (apply gW; refine sW ?_) | (apply gI; refine sI ?_) | (apply gE; refine sE ?_) | (apply gP; refine sP ?_) | (apply gC; refine sC ?_) | (apply gD; refine sD ?_) | fail)
      refine E_join (⟨0, ((N % 70 : Nat) : Int) - 3, 0, .slice (some ⟨g, 0, none⟩) 1 1, [1], .slice none 0 0, []⟩) (⟨by dsimp only; omega, by dsimp only; omega, by dsimp only; omega, by dsimp only; omega, by dsimp only; decide, by dsimp only; exact Nat.zero_le _, fun y hy => by cases hy⟩) trivial ?_
      refine Sub.trans (B := cel p [.int .i64 (⟨0, ((N % 70 : Nat) : Int) - 3, 0, .slice (some ⟨g, 0, none⟩) 1 1, [1], .slice none 0 0, []⟩ : OV).k, .int .i64 (⟨0, ((N % 70 : Nat) : Int) - 3, 0, .slice (some ⟨g, 0, none⟩) 1 1, [1], .slice none 0 0, []⟩ : OV).file, .int .i64 (⟨0, ((N % 70 : Nat) : Int) - 3, 0, .slice (some ⟨g, 0, none⟩) 1 1, [1], .slice none 0 0, []⟩ : OV).n, (⟨0, ((N % 70 : Nat) : Int) - 3, 0, .slice (some ⟨g, 0, none⟩) 1 1, [1], .slice none 0 0, []⟩ : OV).v, (⟨0, ((N % 70 : Nat) : Int) - 3, 0, .slice (some ⟨g, 0, none⟩) 1 1, [1], .slice none 0 0, []⟩ : OV).kv] 48 :: rd eB (.slice (some ⟨g, 0, none⟩) 1 1) [1] :: own 48 eOV (.slice A os.length c) os :: rd eI (.slice A0 l.length c0) l :: L) Sb (Sub.trans (ovo_sub (x := ⟨0, ((N % 70 : Nat) : Int) - 3, 0, .slice (some ⟨g, 0, none⟩) 1 1, [1], .slice none 0 0, []⟩) rfl (fun m hp hs => ⟨rd_mem hs (.head _), Sl.nil _ _ _ _⟩)) Sb)
    repeat' (first | refine go ?_ | intro _ | (apply cG; first | refine cT ?_ | refine cF ?_ | refine cS (fun _ => ?_) fun _ => ?_) | (apply gW; refine sW ?_) | (apply gI; refine sI ?_) | (apply gE; refine sE ?_) | (apply gP; refine sP ?_) | (apply gC; refine sC ?_) | (apply gD; refine sD ?_) | fail)
    refine C_ownnil 5 eB ?_
    refine C_loopS (κ := Nat × Option Addr × Nat × List UInt8) [false, false, false, false, false, false, false, true, false, false, false, false, false, false, false, false, false, false, false, false, false, false, false, false, false, false, false, false, false, false, false, false, true, true, true, true, true, true, true, true, true, true, true, true, true, true, true, true, true, true, true, true, false, false, false, false, false, false, false, false, false, false, false, false, false, false, false, false, false, false, false, false, false, false, false, false, false, false, false, false, false, false, false, false, false, false, false, false, false, false, false, false, false, false, false, false, false, false, false, false, false, false, false, false, false, false, false, false, false, false, false, false] (fun k => [(7, .int .i64 (k.1 : Int))]) (fun k => [(0, own 5 eB (.slice k.2.1 k.2.2.2.length k.2.2.1) k.2.2.2), (1, cel p [.int .i64 0, .int .i64 ((N % 3 : Nat) : Int), .int .i64 0, .slice k.2.1 k.2.2.2.length k.2.2.1, .slice none 0 0] 48)]) (fun k => k.1 ≤ N / 3 % 6 ∧ k.2.2.2.length = k.1) (fun k => N / 3 % 6 - k.1) (0, none, 0, []) ⟨Nat.zero_le _, rfl⟩ ⟨rfl, trivial⟩ ?_
    rintro ⟨k, A7, c7, bs⟩ u7 ⟨hk7, hbl7⟩
    dsimp only at hk7 hbl7
    dsimp only
    ((try dsimp only); refine C_n ?_; (try simp only [Nat.reduceAdd, Nat.zero_add]))
    repeat' (first | refine go ?_ | intro _ | (apply cG; first | refine cT ?_ | refine cF ?_ | refine cS (fun _ => ?_) fun _ => ?_) | (apply gI; refine sI ?_) | (apply gE; refine sE ?_) | (apply gP; refine sP ?_) | (apply gC; refine sC ?_) | (apply gD; refine sD ?_) | fail)
    apply gW; refine sW (r := ((N / 3 : Nat) : Int)) ?_ ⟨by decide, by show IntKind.i64.wrap ((N / 3 : Nat) : Int) = ((N / 3 : Nat) : Int); exact wr_i64 (by omega) (by omega)⟩
    repeat' (first | refine go ?_ | intro _ | (apply cG; first | refine cT ?_ | refine cF ?_ | refine cS (fun _ => ?_) fun _ => ?_) | (apply gI; refine sI ?_) | (apply gE; refine sE ?_) | (apply gP; refine sP ?_) | (apply gC; refine sC ?_) | (apply gD; refine sD ?_) | fail)
    apply gW; refine sW (r := (((N / 3) % 6 : Nat) : Int)) ?_ ⟨by decide, rfl⟩
    by_cases hlt7 : k < N / 3 % 6
    · repeat' (first | refine go ?_ | intro _ | (apply cG; first | refine cT ?_ | refine cF ?_ | refine cS (fun _ => ?_) fun _ => ?_) | (apply gW; refine sW ?_) | (apply gI; refine sI ?_) | (apply gE; refine sE ?_) | (apply gP; refine sP ?_) | (apply gC; refine sC ?_) | (apply gD; refine sD ?_) | fail)
      refine C_draw (n := 13) [cel p [.int .i64 0, .int .i64 ((N % 3 : Nat) : Int), .int .i64 0, .slice A7 bs.length c7, .slice none 0 0] 48, rd eI (.slice A0 l.length c0) l] [(0, 1), (1, 1), (2, 1), (3, 1), (4, 1), (5, 1), (6, 1), (7, 1), (8, 1), (9, 1), (10, 0), (11, 0), (12, 1), (13, 0)] (by kernel_rfl) (by kernel_rfl) Sb ?_
      repeat' (first | refine go ?_ | intro _ | (apply cG; first | refine cT ?_ | refine cF ?_ | refine cS (fun _ => ?_) fun _ => ?_) | (apply gI; refine sI ?_) | (apply gE; refine sE ?_) | (apply gP; refine sP ?_) | (apply gC; refine sC ?_) | (apply gD; refine sD ?_) | fail)
      apply gW; refine sW (r := ((k : Nat) : Int)) ?_ (wr_u64 (by omega) (by omega))
      repeat' (first | refine go ?_ | intro _ | (apply cG; first | refine cT ?_ | refine cF ?_ | refine cS (fun _ => ?_) fun _ => ?_) | (apply gI; refine sI ?_) | (apply gE; refine sE ?_) | (apply gP; refine sP ?_) | (apply gC; refine sC ?_) | (apply gD; refine sD ?_) | fail)
      refine D_op rfl ?_; refine X_s (sv_shr (hr := rfl)) ?_
      repeat' (first | refine go ?_ | intro _ | (apply cG; first | refine cT ?_ | refine cF ?_ | refine cS (fun _ => ?_) fun _ => ?_) | (apply gI; refine sI ?_) | (apply gE; refine sE ?_) | (apply gP; refine sP ?_) | (apply gC; refine sC ?_) | (apply gD; refine sD ?_) | fail)
      apply gW; refine sW_u8 fun bb => ?_
      repeat' (first | refine go ?_ | intro _ | (apply cG; first | refine cT ?_ | refine cF ?_ | refine cS (fun _ => ?_) fun _ => ?_) | (apply gI; refine sI ?_) | (apply gE; refine sE ?_) | (apply gP; refine sP ?_) | (apply gC; refine sC ?_) | (apply gD; refine sD ?_) | fail)
      refine D_d rfl (dy_lit1 (R := eB) bb (hcs := by rfl) (hel := fun _ _ _ => by rfl)) ?_; rintro _ _ ⟨_, rfl, rfl⟩; refine ⟨(by first | exact .inl rfl | exact .inr Sb), D_n ?_⟩
      repeat' (first | refine go ?_ | intro _ | (apply cG; first | refine cT ?_ | refine cF ?_ | refine cS (fun _ => ?_) fun _ => ?_) | (apply gW; refine sW ?_) | (apply gI; refine sI ?_) | (apply gE; refine sE ?_) | (apply gP; refine sP ?_) | (apply gC; refine sC ?_) | (apply gD; refine sD ?_) | fail)
      rename_i A8 c8
      refine E_round (k + 1, A8, c8, bs ++ [bb]) ⟨by dsimp only; omega, by dsimp only; rw [List.length_append, hbl7]; rfl⟩ (by dsimp only; omega) ⟨rfl, trivial⟩ (by dsimp only; rw [List.length_append]; exact Sb)
    obtain rfl : k = N / 3 % 6 := by omega
    repeat' (first | ((fail_if_success apply AtE); refine go ?_) | intro _ | (apply cG; first | refine cT ?_ | refine cF ?_ | refine cS (fun _ => ?_) fun _ => ?_) | (apply gW; refine sW ?_) | (apply gI; refine sI ?_) | (apply gE; refine sE ?_) | (apply gP; refine sP ?_) | (apply gC; refine sC ?_) | (apply gD; refine sD ?_) | fail)
    refine E_frz 0 ?_
    repeat' (first | refine go ?_ | intro _ | (apply cG; first | refine cT ?_ | refine cF ?_ | refine cS (fun _ => ?_) fun _ => ?_) | (apply gW; refine sW ?_) | (apply gI; refine sI ?_) | (apply gE; refine sE ?_) | (apply gP; refine sP ?_) | (apply gC; refine sC ?_) | (apply gD; refine sD ?_) | fail)
    refine E_join (⟨0, ((N % 3 : Nat) : Int), 0, .slice A7 bs.length c7, bs, .slice none 0 0, []⟩) (⟨by dsimp only; omega, by dsimp only; omega, by dsimp only; omega, by dsimp only; omega, by dsimp only; omega, by dsimp only; exact Nat.zero_le _, fun y hy => by cases hy⟩) trivial ?_
    refine Sub.trans (B := cel p [.int .i64 (⟨0, ((N % 3 : Nat) : Int), 0, .slice A7 bs.length c7, bs, .slice none 0 0, []⟩ : OV).k, .int .i64 (⟨0, ((N % 3 : Nat) : Int), 0, .slice A7 bs.length c7, bs, .slice none 0 0, []⟩ : OV).file, .int .i64 (⟨0, ((N % 3 : Nat) : Int), 0, .slice A7 bs.length c7, bs, .slice none 0 0, []⟩ : OV).n, (⟨0, ((N % 3 : Nat) : Int), 0, .slice A7 bs.length c7, bs, .slice none 0 0, []⟩ : OV).v, (⟨0, ((N % 3 : Nat) : Int), 0, .slice A7 bs.length c7, bs, .slice none 0 0, []⟩ : OV).kv] 48 :: rd eB (.slice A7 bs.length c7) bs :: own 48 eOV (.slice A os.length c) os :: rd eI (.slice A0 l.length c0) l :: L) Sb (Sub.trans (ovo_sub (x := ⟨0, ((N % 3 : Nat) : Int), 0, .slice A7 bs.length c7, bs, .slice none 0 0, []⟩) rfl (fun m hp hs => ⟨rd_mem hs (.head _), Sl.nil _ _ _ _⟩)) Sb)
  rintro x u2 hx
  ((try dsimp only); refine C_n ?_; (try simp only [Nat.reduceAdd, Nat.zero_add]))
  refine C_sub ovo_out ?_
  repeat' (first | refine go ?_ | intro _ | (apply cG; first | refine cT ?_ | refine cF ?_ | refine cS (fun _ => ?_) fun _ => ?_) | (apply gW; refine sW ?_) | (apply gI; refine sI ?_) | (apply gE; refine sE ?_) | (apply gP; refine sP ?_) | (apply gC; refine sC ?_) | (apply gD; refine sD ?_) | fail)
  refine O_d (dy_lit1 (R := eOV) x (hcs := by rfl) (hel := fun m h hs => ⟨rfl, rd_mem hs (by repeat (first | exact .head _ | refine .tail _ ?_)), rd_mem hs (by repeat (first | exact .head _ | refine .tail _ ?_))⟩)) ?_; rintro _ _ ⟨_, rfl, rfl⟩; refine O_n ?_
  repeat' (first | refine go ?_ | intro _ | (apply cG; first | refine cT ?_ | refine cF ?_ | refine cS (fun _ => ?_) fun _ => ?_) | (apply gW; refine sW ?_) | (apply gI; refine sI ?_) | (apply gE; refine sE ?_) | (apply gP; refine sP ?_) | (apply gC; refine sC ?_) | (apply gD; refine sD ?_) | fail)
  rename_i A9 c9
  refine E_round (i + 1, A9, c9, os ++ [x]) ⟨by dsimp only; omega, by dsimp only; omega, by dsimp only; rw [List.length_append, hol]; rfl, fun q hq => ?_⟩ (by dsimp only; omega) ⟨by dsimp only; rw [List.length_append]; rfl, rfl, trivial⟩ (by dsimp only; rw [List.length_append]; exact Sb)
  rcases List.mem_append.1 hq with hq | hq
  · exact hok q hq
  · rw [List.mem_singleton.1 hq]
    exact hx
end
end Go.Proofs.Ytikdelkcpapgdaa
