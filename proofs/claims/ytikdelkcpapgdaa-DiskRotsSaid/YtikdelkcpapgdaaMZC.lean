/-
  The law DiskRots.
-/
import Derived.Test.YtikdelkcpapgdaaMY
import Derived.Test.YtikdelkcpapgdaaMZA
import Derived.Test.YtikdelkcpapgdaaMZB
import Derived.Test.YtikdelkcpapgdaaMC
namespace Go.Proofs.Ytikdelkcpapgdaa
open Go Go.RowKit
set_option linter.unusedVariables false
set_option linter.unusedSimpArgs false
set_option maxRecDepth 20000
set_option synthInstance.maxSize 100000
set_option synthInstance.maxHeartbeats 400000
theorem fl8_all : ∀ (s : Fin 8) (y : Fin 256), fl8 (fl8 (UInt8.ofNat y.val) s.val) s.val = UInt8.ofNat y.val := by decide +kernel
theorem fl8_fl8 {y : UInt8} {s : Nat} (hs : s < 8) : fl8 (fl8 y s) s = y := by
  have := fl8_all ⟨s, hs⟩ ⟨y.toNat, y.toNat_lt⟩
  simpa using this
theorem rotB_rotB {b : List UInt8} {k : Nat} (h : k / 8 < b.length) : rotB (rotB b k) k = b := by
  unfold rotB
  rw [getD_set_self h, fl8_fl8 (by omega), List.set_set]
  refine set_same ?_
  rw [List.getElem?_eq_getElem h, List.getD_eq_getElem?_getD, List.getElem?_eq_getElem h]
  rfl
theorem rot_hash {t b : List UInt8} {k m : Nat} (h : k / 8 < b.length) (hm : 0 < m) (hm8 : m ≤ 8) (hl : k / 8 + m ≤ b.length) : bytesW t (((rotB b k).drop (k / 8)).take m) ≠ bytesW t ((b.drop (k / 8)).take m) := by
  have hrl := rotB_len b k
  have hl1 : (((rotB b k).drop (k / 8)).take m).length = m := by rw [List.length_take, List.length_drop]; omega
  have hl2 : ((b.drop (k / 8)).take m).length = m := by rw [List.length_take, List.length_drop]; omega
  intro hb
  have := bytes_one (t := t) (x := ((rotB b k).drop (k / 8)).take m) (y := (b.drop (k / 8)).take m) (by rw [hl1, hl2]) 0 (fun i hi => by rw [List.getElem?_eq_none (by omega), List.getElem?_eq_none (by omega)]) (by omega) hb
  have h1 := congrArg (fun q => q[0]?) this
  simp only [List.getElem?_take, if_pos hm, List.getElem?_drop, Nat.add_zero] at h1
  unfold rotB at h1
  rw [List.getElem?_set_self h, List.getElem?_eq_getElem h, List.getD_eq_getElem?_getD, List.getElem?_eq_getElem h] at h1
  exact (fl8_eq (y := b[k / 8]) (s := 7 - k % 8) (by omega)).2 (Option.some.inj h1)
def lblR : ByteArray := ⟨#[114, 111, 116]⟩
theorem rotR_rotR {K : RK} {n : Int} {k : Nat} (hn : 0 ≤ n ∧ n < 64) (hB : K.B.length = 64) (hk : k / 8 < (K.b n).length) : rotR (rotR K n (k : Int)).1 n (k : Int) = (K, 0) := by
  have hrl := rotB_len (K.b n) k
  have e1 : rotR K n (k : Int) = ({ K with B := K.B.set n.toNat (rotB (K.b n) k) }, 0) := by
    unfold rotR
    rw [if_pos ⟨hn, by omega, by omega⟩, Int.toNat_natCast]
  rw [e1]
  obtain ⟨K1, hK1⟩ : ∃ K1 : RK, { K with B := K.B.set n.toNat (rotB (K.b n) k) } = K1 := ⟨_, rfl⟩
  have hb1 : K1.b n = rotB (K.b n) k := by
    rw [← hK1]
    unfold RK.b
    exact getD_set_self (by omega)
  rw [hK1]
  unfold rotR
  rw [if_pos ⟨hn, by omega, by rw [hb1]; omega⟩, Int.toNat_natCast, hb1, rotB_rotB hk, ← hK1]
  dsimp only
  rw [List.set_set, set_same]
  unfold RK.b
  rw [List.getD_eq_getElem?_getD, List.getElem?_eq_getElem (by omega)]
  rfl
section
variable {W0 : World} {L : List HP}
set_option maxHeartbeats 8000000 in
theorem DiskRots_ct {room file bit : Int} {v : Value} {l : List Int} (hr1 : -9223372036854775808 ≤ room) (hr2 : room ≤ 9223372036854775807) (hv : rd eI v l ∈ L) (hr : ∀ n ∈ l, -9223372036854775808 ≤ n ∧ n ≤ 9223372036854775807)
    (hf1 : -9223372036854775808 ≤ file) (hf2 : file ≤ 9223372036854775807) (hb1 : -9223372036854775808 ≤ bit) (hb2 : bit ≤ 9223372036854775807) :
    CT Try.prog 10 #[.int .i64 room, v, .int .i64 file, .int .i64 bit] W0 L fun r L' => r = .bool true ∧ L' = L := by
  refine CT_fact (fun w s => ((Src.sl (.inl hv) s).form)) ?_
  rintro ⟨A, c, rfl, hc⟩
  refine CT_enter Try.func10 rfl ?_; (simp only [Try.ntmps10, List.size_toArray, List.length_cons, List.length_nil, Nat.reduceAdd, Nat.reduceSub, Array.replicate_succ, Array.replicate_zero, List.push_toArray, List.append_toArray, List.nil_append, List.cons_append])
  repeat' (first | refine go ?_ | intro _ | (apply cG; first | refine cT ?_ | refine cF ?_ | refine cS (fun _ => ?_) fun _ => ?_) | (apply gW; refine sW ?_) | (apply gI; refine sI ?_) | (apply gE; refine sE ?_) | (apply gP; refine sP ?_) | (apply gC; refine sC ?_) | (apply gD; refine sD ?_) | fail)
  refine O_d (dy_call ArgsI.pf (by first | exact rfl | trivial | (intro a b; rfl)) (made_ct hv hr hr1 hr2)) ?_; rintro _ _ ⟨_, ⟨p, r, d, K, hR, rfl, rfl⟩, rfl⟩; refine O_n ?_
  have hk := hR.kok
  have hku := hk.u
  have hfa := around_in (n := file) (most := 4) (by decide)
  repeat' (first | refine go ?_ | intro _ | (apply cG; first | refine cT ?_ | refine cF ?_ | refine cS (fun _ => ?_) fun _ => ?_) | (apply gW; refine sW ?_) | (apply gI; refine sI ?_) | (apply gE; refine sE ?_) | (apply gP; refine sP ?_) | (apply gC; refine sC ?_) | (apply gD; refine sD ?_) | fail)
  refine O_d (dy_call ArgsI.pf (by first | exact rfl | trivial | (intro a b; rfl)) (Around_ct (most := 4) hf1 hf2 (by decide) (by decide))) ?_; rintro _ _ ⟨_, ⟨rfl, hLL⟩, rfl⟩; replace hLL := hLL.symm; subst hLL; refine O_n ?_
  obtain ⟨j, hj⟩ : ∃ j : Nat, around file 4 = j := ⟨(around file 4).toNat, by omega⟩
  rw [hj] at hfa ⊢
  have hn : (0 : Int) ≤ (j : Int) ∧ (j : Int) < 64 := ⟨by omega, by omega⟩
  refine rdk_Ox 1 rfl fun ab af Bs h1 h2 h3 => ?_
  simp only [List.eraseIdx_cons_succ, List.eraseIdx_cons_zero]
  obtain ⟨x, hx⟩ : ∃ x, Bs[j]? = some x := ⟨_, List.getElem?_eq_getElem (by omega)⟩
  have hax : At Bs j x := ⟨hx⟩
  have hxl := usedB_at (map_at h1 hx)
  have hm1 : (1 : Int) ≤ 8 * (x.b.length : Int) + 2 := by omega
  have hwb := around_in (n := bit) hm1
  repeat' (first | refine go ?_ | intro _ | (apply cG; first | refine cT ?_ | refine cF ?_ | refine cS (fun _ => ?_) fun _ => ?_) | (apply gW; refine sW ?_) | (apply gI; refine sI ?_) | (apply gE; refine sE ?_) | (apply gP; refine sP ?_) | (apply gC; refine sC ?_) | (apply gD; refine sD ?_) | fail)
  refine O_d (dy_call ArgsI.pf (by first | exact rfl | trivial | (intro a b; rfl)) (Around_ct hb1 hb2 hm1 (by omega))) ?_; rintro _ _ ⟨_, ⟨rfl, hLL⟩, rfl⟩; replace hLL := hLL.symm; subst hLL; refine O_n ?_
  obtain ⟨wn, hwn⟩ : ∃ wn, around bit (8 * (x.b.length : Int) + 2) = wn := ⟨_, rfl⟩
  rw [hwn] at hwb ⊢
  repeat' (first | refine go ?_ | intro _ | (apply cG; first | refine cT ?_ | refine cF ?_ | refine cS (fun _ => ?_) fun _ => ?_) | (apply gW; refine sW ?_) | (apply gI; refine sI ?_) | (apply gE; refine sE ?_) | (apply gP; refine sP ?_) | (apply gC; refine sC ?_) | (apply gD; refine sD ?_) | fail)
  refine O_d (dy_litP (f := iv) (hf := fun _ => rfl) [bit, wn] (by rfl)) ?_; rintro _ _ ⟨_, rfl, rfl⟩; refine O_n ?_
  refine O_frz 0 ?_
  rename_i g
  have hnr : ∀ y ∈ [bit, wn], -9223372036854775808 ≤ y ∧ y ≤ 9223372036854775807 := fun y hy => by
    simp only [List.mem_cons, List.not_mem_nil, or_false] at hy
    rcases hy with rfl | rfl <;> omega
  refine O_sub (S := rd eI (.slice (some ⟨g, 0, none⟩) 2 2) [bit, wn] :: dsk p d :: rdk r K :: L) (Sub.trans (B := cel r [.int .i64 K.room, .slice (some ab) 64 64, .slice (some af) 64 64, .bool K.off, .int .i64 K.plan] 58 :: own 27 eRBy (.slice (some ab) 64 64) Bs :: own 3 eI (.slice (some af) 64 64) K.F :: imR Bs :: rd eI (.slice (some ⟨g, 0, none⟩) 2 2) [bit, wn] :: dsk p d :: L) Sb (Sub.trans (rdk_sub h1 h2 h3) Sb)) ?_
  clear hax hx h1 h2 h3
  repeat' (first | refine go ?_ | intro _ | (apply cG; first | refine cT ?_ | refine cF ?_ | refine cS (fun _ => ?_) fun _ => ?_) | (apply gW; refine sW ?_) | (apply gI; refine sI ?_) | (apply gE; refine sE ?_) | (apply gP; refine sP ?_) | (apply gC; refine sC ?_) | (apply gD; refine sD ?_) | fail)
  refine C_loopS (κ := Nat × DK) [false, false, false, false, false, false, false, false, true, false, false, false, false, true, true, true, true, true, true, true, false, false, false, false, false, false, false, false, false, false, false, false, false, false, false, false, false, false, false, false, false, false, false, false, false, false, false, false, true, true, true, true, true, true, true, true, true, true, true, true, true, true, true, true, true, true, true, true, true, true, true, true, true, true, true, true, true, true, true, true, true, true, true, true, true, true, true, true, true, true, true, true, true, true, true, true, true, true, true, true, true, true, true, true, true, true, true, true, true, true, true, true, true, true, true, true, true, true, true, true, true, true, true, true, true, true, true, true, true, true, true, true, true, true, true, true, true, true, true, true, true, true, true, true, true, true, true, true, false, false, false, false, false, false] (fun k => [(13, .int .i64 (k.1 : Int))]) (fun k => [(1, dsk p k.2)]) (fun k => k.1 ≤ 2 ∧ Rel k.2 K) (fun k => 2 - k.1) (0, d) ⟨Nat.zero_le _, hR⟩ ⟨rfl, trivial⟩ ?_
  rintro ⟨i, d⟩ u ⟨hi, hR⟩
  dsimp only at hi hR
  dsimp only
  ((try dsimp only); refine C_n ?_; (try simp only [Nat.reduceAdd, Nat.zero_add]))
  by_cases hlt : i < 2
  rotate_left
  · have hd64 : ¬ ((0 ≤ (64 : Int) ∧ (64 : Int) < 64) ∧ 0 ≤ (0 : Int) ∧ (0 : Int) / 8 < ((fileF 64 d.files).b.length : Int)) := fun h => absurd h.1.2 (by decide)
    have hfl := file_le_used (n := 64) d.files
    have hu := hR.ok.u
    have hr1 := hR.ok.r1
    obtain ⟨files, room0, off, armed, left⟩ := d
    dsimp only at hd64 hfl hu hr1
    repeat' (first | refine go ?_ | intro _ | (apply cG; first | refine cT ?_ | refine cF ?_ | refine cS (fun _ => ?_) fun _ => ?_) | (apply gW; refine sW ?_) | (apply gI; refine sI ?_) | (apply gE; refine sE ?_) | (apply gP; refine sP ?_) | (apply gC; refine sC ?_) | (apply gD; refine sD ?_) | fail)
    refine O_d (dy_call ArgsI.pf (by first | exact rfl | trivial | (intro a b; rfl)) (CT.pull (i := 1) (by rfl) (dRot_no (n := 64) (bit := 0) (by decide) (by decide) (by omega) hd64))) ?_; rintro _ _ ⟨_, ⟨rfl, rfl⟩, rfl⟩; refine O_n ?_
    repeat' (first | refine go ?_ | intro _ | (apply cG; first | refine cT ?_ | refine cF ?_ | refine cS (fun _ => ?_) fun _ => ?_) | (apply gW; refine sW ?_) | (apply gI; refine sI ?_) | (apply gE; refine sE ?_) | (apply gP; refine sP ?_) | (apply gC; refine sC ?_) | (apply gD; refine sD ?_) | fail)
    refine O_d (dy_call ArgsI.pf (by first | exact rfl | trivial | (intro a b; rfl)) (lives_ct)) ?_; rintro _ _ ⟨_, ⟨rfl, hLL⟩, rfl⟩; replace hLL := hLL.symm; subst hLL; refine O_n ?_
    repeat' (first | refine go ?_ | intro _ | (apply cG; first | refine cT ?_ | refine cF ?_ | refine cS (fun _ => ?_) fun _ => ?_) | (apply gW; refine sW ?_) | (apply gI; refine sI ?_) | (apply gE; refine sE ?_) | (apply gP; refine sP ?_) | (apply gC; refine sC ?_) | (apply gD; refine sD ?_) | fail)
    refine E_res1 (by rfl) (by rfl) ⟨rfl, rfl⟩ Sb
  obtain ⟨y, hy⟩ : ∃ y, [bit, wn][i]? = some y := ⟨_, List.getElem?_eq_getElem hlt⟩
  have hay : At [bit, wn] i y := ⟨hy⟩
  have hyr := hnr y (List.mem_of_getElem? hy)
  have hfl := file_le_used (n := (j : Int)) d.files
  have hu := hR.ok.u
  have hrm1 := hR.ok.r1
  have hKb := hR.b hn
  have hoff := hR.off
  have hkeys := hR.ok.k
  obtain ⟨files, room0, off, armed, left⟩ := d
  dsimp only at hfl hu hrm1 hKb hoff hkeys
  repeat' (first | refine go ?_ | intro _ | (apply cG; first | refine cT ?_ | refine cF ?_ | refine cS (fun _ => ?_) fun _ => ?_) | (apply gW; refine sW ?_) | (apply gI; refine sI ?_) | (apply gE; refine sE ?_) | (apply gP; refine sP ?_) | (apply gC; refine sC ?_) | (apply gD; refine sD ?_) | fail)
  refine O_d (dy_call ArgsI.pf (by first | exact rfl | trivial | (intro a b; rfl)) (CT.pull (i := 2) (by rfl) (rCopy_ct hk))) ?_; rintro _ _ ⟨_, ⟨q, rfl, rfl⟩, rfl⟩; refine O_n ?_
  repeat' (first | refine go ?_ | intro _ | (apply cG; first | refine cT ?_ | refine cF ?_ | refine cS (fun _ => ?_) fun _ => ?_) | (apply gW; refine sW ?_) | (apply gI; refine sI ?_) | (apply gE; refine sE ?_) | (apply gP; refine sP ?_) | (apply gC; refine sC ?_) | (apply gD; refine sD ?_) | fail)
  by_cases hyes : ((0 : Int) ≤ (j : Int) ∧ (j : Int) < 64) ∧ 0 ≤ y ∧ y / 8 < ((fileF (j : Int) files).b.length : Int)
  rotate_left
  · refine O_d (dy_call ArgsI.pf (by first | exact rfl | trivial | (intro a b; rfl)) (CT.pull (i := 3) (by rfl) (dRot_no hyr.1 hyr.2 (by omega) hyes))) ?_; rintro _ _ ⟨_, ⟨rfl, rfl⟩, rfl⟩; refine O_n ?_
    repeat' (first | refine go ?_ | intro _ | (apply cG; first | refine cT ?_ | refine cF ?_ | refine cS (fun _ => ?_) fun _ => ?_) | (apply gW; refine sW ?_) | (apply gI; refine sI ?_) | (apply gE; refine sE ?_) | (apply gP; refine sP ?_) | (apply gC; refine sC ?_) | (apply gD; refine sD ?_) | fail)
    refine O_d (dy_call ArgsI.pf (by first | exact rfl | trivial | (intro a b; rfl)) (CT.pull (i := 1) (by rfl) (rRot_ct hk hyr.1 hyr.2))) ?_; rintro _ _ ⟨_, ⟨rfl, rfl⟩, rfl⟩; refine O_n ?_
    rw [hR.rotno hyes]
    dsimp only
    repeat' (first | refine go ?_ | intro _ | (apply cG; first | refine cT ?_ | refine cF ?_ | refine cS (fun _ => ?_) fun _ => ?_) | (apply gW; refine sW ?_) | (apply gI; refine sI ?_) | (apply gE; refine sE ?_) | (apply gP; refine sP ?_) | (apply gC; refine sC ?_) | (apply gD; refine sD ?_) | fail)
    refine O_sub (S := dsk p ⟨files, room0, off, armed, left⟩ :: rdk q K :: rdk r K :: rd eI (.slice (some ⟨g, 0, none⟩) 2 2) [bit, wn] :: L) Sb ?_
    refine O_d (dy_call ArgsI.pf (by first | exact rfl | trivial | (intro a b; rfl)) (same_ct hR)) ?_; rintro _ _ ⟨_, ⟨rfl, rfl⟩, rfl⟩; refine O_n ?_
    repeat' (first | refine go ?_ | intro _ | (apply cG; first | refine cT ?_ | refine cF ?_ | refine cS (fun _ => ?_) fun _ => ?_) | (apply gW; refine sW ?_) | (apply gI; refine sI ?_) | (apply gE; refine sE ?_) | (apply gP; refine sP ?_) | (apply gC; refine sC ?_) | (apply gD; refine sD ?_) | fail)
    refine O_d (dy_call ArgsI.pf (by first | exact rfl | trivial | (intro a b; rfl)) (CT.pull (i := 0) (by rfl) (dRot_no hyr.1 hyr.2 (by omega) hyes))) ?_; rintro _ _ ⟨_, ⟨rfl, rfl⟩, rfl⟩; refine O_n ?_
    repeat' (first | refine go ?_ | intro _ | (apply cG; first | refine cT ?_ | refine cF ?_ | refine cS (fun _ => ?_) fun _ => ?_) | (apply gW; refine sW ?_) | (apply gI; refine sI ?_) | (apply gE; refine sE ?_) | (apply gP; refine sP ?_) | (apply gC; refine sC ?_) | (apply gD; refine sD ?_) | fail)
    refine O_sub (S := dsk p ⟨files, room0, off, armed, left⟩ :: rdk r K :: rd eI (.slice (some ⟨g, 0, none⟩) 2 2) [bit, wn] :: L) Sb ?_
    refine O_d (dy_call ArgsI.pf (by first | exact rfl | trivial | (intro a b; rfl)) (same_ct hR)) ?_; rintro _ _ ⟨_, ⟨rfl, rfl⟩, rfl⟩; refine O_n ?_
    repeat' (first | refine go ?_ | intro _ | (apply cG; first | refine cT ?_ | refine cF ?_ | refine cS (fun _ => ?_) fun _ => ?_) | (apply gW; refine sW ?_) | (apply gI; refine sI ?_) | (apply gE; refine sE ?_) | (apply gP; refine sP ?_) | (apply gC; refine sC ?_) | (apply gD; refine sD ?_) | fail)
    exact E_round (i + 1, _) ⟨hlt, hR⟩ (by dsimp only; omega) ⟨rfl, trivial⟩ Sb
  obtain ⟨k, rfl⟩ : ∃ k : Nat, y = k := ⟨y.toNat, by omega⟩
  have hkl : k / 8 < (fileF (j : Int) files).b.length := by omega
  refine O_d (dy_call ArgsI.pf (by first | exact rfl | trivial | (intro a b; rfl)) (CT.pull (i := 3) (by rfl) (dRot_ct hyr.2 hn (by omega) hkl))) ?_; rintro _ _ ⟨_, ⟨y1, rfl, rfl⟩, rfl⟩; refine O_n ?_
  obtain ⟨hR1, hc1⟩ := hR.rot (n := (j : Int)) (k := k) hn hkl y1
  have hrr := rotR_rotR (K := K) (n := (j : Int)) (k := k) hn hk.Bl (by rw [hKb]; exact hkl)
  have hrl := rotB_len (fileF (j : Int) files).b k
  have hF1 := fileF_set (n := (j : Int)) (x := ⟨y1, rotB (fileF (j : Int) files).b k, (fileF (j : Int) files).d⟩) hkeys
  have hF1b := congrArg List.length hF1.1
  dsimp only at hF1b
  rw [hrl] at hF1b
  obtain ⟨F1, hF1e⟩ : ∃ F1, setF (j : Int) ⟨y1, rotB (fileF (j : Int) files).b k, (fileF (j : Int) files).d⟩ files = F1 := ⟨_, rfl⟩
  dsimp only at hR1
  rw [hF1e] at hR1 hF1 hF1b ⊢
  repeat' (first | refine go ?_ | intro _ | (apply cG; first | refine cT ?_ | refine cF ?_ | refine cS (fun _ => ?_) fun _ => ?_) | (apply gW; refine sW ?_) | (apply gI; refine sI ?_) | (apply gE; refine sE ?_) | (apply gP; refine sP ?_) | (apply gC; refine sC ?_) | (apply gD; refine sD ?_) | fail)
  refine O_d (dy_call ArgsI.pf (by first | exact rfl | trivial | (intro a b; rfl)) (CT.pull (i := 1) (by rfl) (rRot_ct hk hyr.1 hyr.2))) ?_; rintro _ _ ⟨_, ⟨rfl, rfl⟩, rfl⟩; refine O_n ?_
  rw [hc1]
  repeat' (first | refine go ?_ | intro _ | (apply cG; first | refine cT ?_ | refine cF ?_ | refine cS (fun _ => ?_) fun _ => ?_) | (apply gW; refine sW ?_) | (apply gI; refine sI ?_) | (apply gE; refine sE ?_) | (apply gP; refine sP ?_) | (apply gC; refine sC ?_) | (apply gD; refine sD ?_) | fail)
  refine O_sub (S := dsk p ⟨F1, room0, off, armed, left⟩ :: rdk q (rotR K (j : Int) (k : Int)).1 :: rdk r K :: rd eI (.slice (some ⟨g, 0, none⟩) 2 2) [bit, wn] :: L) Sb ?_
  refine O_d (dy_call ArgsI.pf (by first | exact rfl | trivial | (intro a b; rfl)) (same_ct hR1)) ?_; rintro _ _ ⟨_, ⟨rfl, rfl⟩, rfl⟩; refine O_n ?_
  refine O_sub (S := rdk r K :: dsk p ⟨F1, room0, off, armed, left⟩ :: rd eI (.slice (some ⟨g, 0, none⟩) 2 2) [bit, wn] :: L) Sb ?_
  refine rdk_Ox 0 rfl fun ab af Bs h1 h2 h3 => ?_
  simp only [List.eraseIdx_cons_zero]
  obtain ⟨x, hx⟩ : ∃ x, Bs[j]? = some x := ⟨_, List.getElem?_eq_getElem (by omega)⟩
  have hax : At Bs j x := ⟨hx⟩
  have hxb := rbn h1 hx
  rw [hKb] at hxb
  obtain ⟨fb, hfb⟩ : ∃ fb, (fileF (j : Int) files).b = fb := ⟨_, rfl⟩
  rw [hfb] at hxb hkl hrl hF1b hfl
  cases off
  rotate_left
  · rw [hoff]
    repeat' (first | refine go ?_ | intro _ | (apply cG; first | refine cT ?_ | refine cF ?_ | refine cS (fun _ => ?_) fun _ => ?_) | (apply gW; refine sW ?_) | (apply gI; refine sI ?_) | (apply gE; refine sE ?_) | (apply gP; refine sP ?_) | (apply gC; refine sC ?_) | (apply gD; refine sD ?_) | fail)
    refine O_d (dy_call ArgsI.pf (by first | exact rfl | trivial | (intro a b; rfl)) (CT.pull (i := 4) (by rfl) (dRot_ct hyr.2 hn (by rw [hF1b]; omega) (by rw [hF1b]; omega)))) ?_; rintro _ _ ⟨_, ⟨y2, rfl, rfl⟩, rfl⟩; refine O_n ?_
    obtain ⟨hR2, hc2⟩ := hR1.rot (n := (j : Int)) (k := k) hn (by dsimp only; rw [hF1b]; omega) y2
    rw [hrr] at hR2
    dsimp only at hR2
    refine O_sub (S := cel r [.int .i64 K.room, .slice (some ab) 64 64, .slice (some af) 64 64, .bool true, .int .i64 K.plan] 58 :: own 27 eRBy (.slice (some ab) 64 64) Bs :: own 3 eI (.slice (some af) 64 64) K.F :: imR Bs :: rd eI (.slice (some ⟨g, 0, none⟩) 2 2) [bit, wn] :: dsk p ⟨setF (j : Int) ⟨y2, rotB (fileF (j : Int) F1).b k, (fileF (j : Int) F1).d⟩ F1, room0, true, armed, left⟩ :: L) Sb ?_
    refine O_sub (S := dsk p ⟨setF (j : Int) ⟨y2, rotB (fileF (j : Int) F1).b k, (fileF (j : Int) F1).d⟩ F1, room0, true, armed, left⟩ :: rdk r K :: rd eI (.slice (some ⟨g, 0, none⟩) 2 2) [bit, wn] :: L) (by have h := rdk_sub (L := rd eI (.slice (some ⟨g, 0, none⟩) 2 2) [bit, wn] :: dsk p ⟨setF (j : Int) ⟨y2, rotB (fileF (j : Int) F1).b k, (fileF (j : Int) F1).d⟩ F1, room0, true, armed, left⟩ :: L) (r := r) (ab := ab) (af := af) (K := K) h1 h2 h3; rw [hoff] at h; exact Sub.trans h Sb) ?_
    repeat' (first | refine go ?_ | intro _ | (apply cG; first | refine cT ?_ | refine cF ?_ | refine cS (fun _ => ?_) fun _ => ?_) | (apply gW; refine sW ?_) | (apply gI; refine sI ?_) | (apply gE; refine sE ?_) | (apply gP; refine sP ?_) | (apply gC; refine sC ?_) | (apply gD; refine sD ?_) | fail)
    refine O_d (dy_call ArgsI.pf (by first | exact rfl | trivial | (intro a b; rfl)) (same_ct hR2)) ?_; rintro _ _ ⟨_, ⟨rfl, rfl⟩, rfl⟩; refine O_n ?_
    repeat' (first | refine go ?_ | intro _ | (apply cG; first | refine cT ?_ | refine cF ?_ | refine cS (fun _ => ?_) fun _ => ?_) | (apply gW; refine sW ?_) | (apply gI; refine sI ?_) | (apply gE; refine sE ?_) | (apply gP; refine sP ?_) | (apply gC; refine sC ?_) | (apply gD; refine sD ?_) | fail)
    exact E_round (i + 1, _) ⟨hlt, hR2⟩ (by dsimp only; omega) ⟨rfl, trivial⟩ Sb
  · rw [hoff]
    repeat' (first | refine go ?_ | intro _ | (apply cG; first | refine cT ?_ | refine cF ?_ | refine cS (fun _ => ?_) fun _ => ?_) | (apply gW; refine sW ?_) | (apply gI; refine sI ?_) | (apply gE; refine sE ?_) | (apply gP; refine sP ?_) | (apply gC; refine sC ?_) | (apply gD; refine sD ?_) | fail)
    rw [show ((k : Int) / 8) = ((k / 8 : Nat) : Int) from rfl]
    repeat' (first | refine go ?_ | intro _ | (apply cG; first | refine cT ?_ | refine cF ?_ | refine cS (fun _ => ?_) fun _ => ?_) | (apply gW; refine sW ?_) | (apply gI; refine sI ?_) | (apply gE; refine sE ?_) | (apply gP; refine sP ?_) | (apply gC; refine sC ?_) | (apply gD; refine sD ?_) | fail)
    refine O_d (dy_call ArgsI.pf (by first | exact rfl | trivial | (intro a b; rfl)) (CT.pull (i := 4) (by rfl) (dRead_ct (files := F1) (n := (j : Int)) (by rw [hF1b]; omega) hn))) ?_; rintro _ _ ⟨_, ⟨A5, c5, rfl, rfl⟩, rfl⟩; refine O_n ?_
    have hF1c : (fileF (j : Int) F1).b = rotB fb k := by rw [hF1.1]; dsimp only; rw [hfb]
    rw [hF1c]
    obtain ⟨m, hm⟩ : ∃ m, min (fb.length - k / 8) 8 = m := ⟨_, rfl⟩
    have hmh := rot_hash (t := lblR.data.toList) (b := fb) (k := k) (m := m) hkl (by omega) (by omega) (by omega)
    obtain ⟨rb, hrb⟩ : ∃ rb, rotB fb k = rb := ⟨_, rfl⟩
    rw [hrb] at hrl hmh ⊢
    refine O_frz 0 ?_
    have hxl2 : x.b.length = fb.length := by rw [hxb]
    refine O_fact (φ := rb.length ≤ c5) (fun w s => by obtain ⟨A', c', e, h⟩ := (Src.sl (.inl (.head _)) s : Sl _ eB _ rb).form; injection e with _ _ e3; rw [e3]; exact h) fun hc5 => ?_
    refine O_sub (sub_imR (j := j) (x := x) (by repeat (first | exact .head _ | refine .tail _ ?_)) hx) ?_
    refine O_fact (φ := x.b.length ≤ x.c) (fun w s => by obtain ⟨A', c', e, h⟩ := (Src.sl (.inl (.head _)) s : Sl _ eB _ x.b).form; injection e with _ _ e3; rw [e3]; exact h) fun hxc => ?_
    refine O_sub (S := cel r [.int .i64 K.room, .slice (some ab) 64 64, .slice (some af) 64 64, .bool false, .int .i64 K.plan] 58 :: own 27 eRBy (.slice (some ab) 64 64) Bs :: own 3 eI (.slice (some af) 64 64) K.F :: imR Bs :: dsk p ⟨F1, room0, false, armed, left⟩ :: rd eI (.slice (some ⟨g, 0, none⟩) 2 2) [bit, wn] :: rd eB (.slice (cutA A5 c5 (k / 8) 1) m (c5 - k / 8)) ((rb.drop (k / 8)).take m) :: rd eB (.slice (cutA x.A x.c (k / 8) 1) m (x.c - k / 8)) ((x.b.drop (k / 8)).take m) :: L) (Sub.trans (sub_rdcut (lo := k / 8) (k := m) (s := 1) (.head _) (by omega) rfl) (Sub.trans (sub_rdcut (A := A5) (c := c5) (n := rb.length) (l := rb) (lo := k / 8) (k := m) (s := 1) (.tail _ (.tail _ (.head _))) (by omega) rfl) Sb)) ?_
    have hmin : (if ((k / 8 : Nat) : Int) + 8 < (rb.length : Int) then ((k / 8 : Nat) : Int) + 8 else (rb.length : Int)) = ((k / 8 + m : Nat) : Int) := by split <;> omega
    repeat' (first | refine go ?_ | intro _ | (apply cG; first | refine cT ?_ | refine cF ?_ | refine cS (fun _ => ?_) fun _ => ?_) | (apply gI; refine sI ?_) | (apply gE; refine sE ?_) | (apply gP; refine sP ?_) | (apply gC; refine sC ?_) | (apply gD; refine sD ?_) | fail)
    apply gW; refine sW (r := ((k / 8 : Nat) : Int) + 8) ?_ (wr_i64 (by omega) (by omega))
    repeat' (first | refine go ?_ | intro _ | (apply cG; first | refine cT ?_ | refine cF ?_ | refine cS (fun _ => ?_) fun _ => ?_) | (apply gI; refine sI ?_) | (apply gE; refine sE ?_) | (apply gP; refine sP ?_) | (apply gC; refine sC ?_) | (apply gD; refine sD ?_) | fail)
    apply gW; refine sW (r := ((k / 8 + m : Nat) : Int)) ?_ hmin
    repeat' (first | refine go ?_ | intro _ | (apply cG; first | refine cT ?_ | refine cF ?_ | refine cS (fun _ => ?_) fun _ => ?_) | (apply gW; refine sW ?_) | (apply gI; refine sI ?_) | (apply gE; refine sE ?_) | (apply gP; refine sP ?_) | (apply gC; refine sC ?_) | (apply gD; refine sD ?_) | fail)
    have hc2 : 0 ≤ k / 8 + m := Nat.zero_le _
    refine C_draw (n := 99) [cel r [.int .i64 K.room, .slice (some ab) 64 64, .slice (some af) 64 64, .bool false, .int .i64 K.plan] 58, own 27 eRBy (.slice (some ab) 64 64) Bs] [(0, 1), (1, 1), (2, 1), (3, 1), (5, 1), (6, 1), (7, 1), (8, 1), (9, 1), (10, 1), (11, 1), (12, 1), (13, 1), (14, 1), (4, 0), (15, 0), (16, 1)] (by kernel_rfl) (by kernel_rfl) Sb ?_
    repeat' (first | refine go ?_ | intro _ | (apply cG; first | refine cT ?_ | refine cF ?_ | refine cS (fun _ => ?_) fun _ => ?_) | (apply gW; refine sW ?_) | (apply gI; refine sI ?_) | (apply gE; refine sE ?_) | (apply gP; refine sP ?_) | (apply gC; refine sC ?_) | (apply gD; refine sD ?_) | fail)
    refine D_op rfl ?_; refine X_s (sv_slice (l' := k / 8) (h' := m) (l := k / 8) (h := k / 8 + m) (e2 := by omega)) ?_
    repeat' (first | refine go ?_ | intro _ | (apply cG; first | refine cT ?_ | refine cF ?_ | refine cS (fun _ => ?_) fun _ => ?_) | (apply gW; refine sW ?_) | (apply gI; refine sI ?_) | (apply gE; refine sE ?_) | (apply gP; refine sP ?_) | (apply gC; refine sC ?_) | (apply gD; refine sD ?_) | fail)
    refine D_op rfl ?_; refine X_s (sv_slice (l' := k / 8) (h' := m) (l := k / 8) (h := k / 8 + m) (e2 := by omega)) ?_
    repeat' (first | refine go ?_ | intro _ | (apply cG; first | refine cT ?_ | refine cF ?_ | refine cS (fun _ => ?_) fun _ => ?_) | (apply gW; refine sW ?_) | (apply gI; refine sI ?_) | (apply gE; refine sE ?_) | (apply gP; refine sP ?_) | (apply gC; refine sC ?_) | (apply gD; refine sD ?_) | fail)
    rw [← hxb] at hxl2 ⊢
    obtain ⟨z1, hz1⟩ : ∃ z1, bytesW lblR.data.toList ((rb.drop (k / 8)).take m) = z1 := ⟨_, rfl⟩
    obtain ⟨z2, hz2⟩ : ∃ z2, bytesW lblR.data.toList ((fb.drop (k / 8)).take m) = z2 := ⟨_, rfl⟩
    rw [hz1, hz2] at hmh
    have hne : ¬ ((z1.toNat : Int) = (z2.toNat : Int)) := fun h => hmh (UInt64.toNat_inj.1 (by omega))
    refine D_op rfl ?_; refine X_d (dy_call ArgsI.pf (by first | exact rfl | trivial | (intro a b; rfl)) (hBytes_ct (s := lblR) (l := (rb.drop (k / 8)).take m) (.inl (.tail _ (.tail _ (.tail _ (.tail _ (.tail _ (.tail _ (.head _)))))))) (by decide) (by rw [List.length_take]; omega) hz1)) ?_; rintro _ _ ⟨_, ⟨rfl, hLL⟩, rfl⟩; replace hLL := hLL.symm; subst hLL; refine ⟨(by first | exact .inl rfl | exact .inr Sb), D_n ?_⟩
    repeat' (first | refine go ?_ | intro _ | (apply cG; first | refine cT ?_ | refine cF ?_ | refine cS (fun _ => ?_) fun _ => ?_) | (apply gW; refine sW ?_) | (apply gI; refine sI ?_) | (apply gE; refine sE ?_) | (apply gP; refine sP ?_) | (apply gC; refine sC ?_) | (apply gD; refine sD ?_) | fail)
    refine D_op rfl ?_; refine X_d (dy_call ArgsI.pf (by first | exact rfl | trivial | (intro a b; rfl)) (hBytes_ct (s := lblR) (l := (fb.drop (k / 8)).take m) (.inl (.tail _ (.tail _ (.tail _ (.tail _ (.tail _ (.tail _ (.tail _ (.head _))))))))) (by decide) (by rw [List.length_take]; omega) hz2)) ?_; rintro _ _ ⟨_, ⟨rfl, hLL⟩, rfl⟩; replace hLL := hLL.symm; subst hLL; refine ⟨(by first | exact .inl rfl | exact .inr Sb), D_n ?_⟩
    repeat' (first | refine go ?_ | intro _ | (apply cG; first | refine cT ?_ | refine cF ?_ | refine cS (fun _ => ?_) fun _ => ?_) | (apply gW; refine sW ?_) | (apply gI; refine sI ?_) | (apply gE; refine sE ?_) | (apply gP; refine sP ?_) | (apply gC; refine sC ?_) | (apply gD; refine sD ?_) | fail)
    refine O_d (dy_call ArgsI.pf (by first | exact rfl | trivial | (intro a b; rfl)) (CT.pull (i := 4) (by rfl) (dRot_ct hyr.2 hn (by rw [hF1b]; omega) (by rw [hF1b]; omega)))) ?_; rintro _ _ ⟨_, ⟨y2, rfl, rfl⟩, rfl⟩; refine O_n ?_
    obtain ⟨hR2, hc2⟩ := hR1.rot (n := (j : Int)) (k := k) hn (by dsimp only; rw [hF1b]; omega) y2
    rw [hrr] at hR2
    dsimp only at hR2
    refine O_sub (S := cel r [.int .i64 K.room, .slice (some ab) 64 64, .slice (some af) 64 64, .bool false, .int .i64 K.plan] 58 :: own 27 eRBy (.slice (some ab) 64 64) Bs :: own 3 eI (.slice (some af) 64 64) K.F :: imR Bs :: rd eI (.slice (some ⟨g, 0, none⟩) 2 2) [bit, wn] :: dsk p ⟨setF (j : Int) ⟨y2, rotB (fileF (j : Int) F1).b k, (fileF (j : Int) F1).d⟩ F1, room0, false, armed, left⟩ :: L) Sb ?_
    refine O_sub (S := dsk p ⟨setF (j : Int) ⟨y2, rotB (fileF (j : Int) F1).b k, (fileF (j : Int) F1).d⟩ F1, room0, false, armed, left⟩ :: rdk r K :: rd eI (.slice (some ⟨g, 0, none⟩) 2 2) [bit, wn] :: L) (by have h := rdk_sub (L := rd eI (.slice (some ⟨g, 0, none⟩) 2 2) [bit, wn] :: dsk p ⟨setF (j : Int) ⟨y2, rotB (fileF (j : Int) F1).b k, (fileF (j : Int) F1).d⟩ F1, room0, false, armed, left⟩ :: L) (r := r) (ab := ab) (af := af) (K := K) h1 h2 h3; rw [hoff] at h; exact Sub.trans h Sb) ?_
    repeat' (first | refine go ?_ | intro _ | (apply cG; first | refine cT ?_ | refine cF ?_ | refine cS (fun _ => ?_) fun _ => ?_) | (apply gW; refine sW ?_) | (apply gI; refine sI ?_) | (apply gE; refine sE ?_) | (apply gP; refine sP ?_) | (apply gC; refine sC ?_) | (apply gD; refine sD ?_) | fail)
    refine O_d (dy_call ArgsI.pf (by first | exact rfl | trivial | (intro a b; rfl)) (same_ct hR2)) ?_; rintro _ _ ⟨_, ⟨rfl, rfl⟩, rfl⟩; refine O_n ?_
    repeat' (first | refine go ?_ | intro _ | (apply cG; first | refine cT ?_ | refine cF ?_ | refine cS (fun _ => ?_) fun _ => ?_) | (apply gW; refine sW ?_) | (apply gI; refine sI ?_) | (apply gE; refine sE ?_) | (apply gP; refine sP ?_) | (apply gC; refine sC ?_) | (apply gD; refine sD ?_) | fail)
    exact E_round (i + 1, _) ⟨hlt, hR2⟩ (by dsimp only; omega) ⟨rfl, trivial⟩ Sb
theorem DiskRots_any {n file bit : Int} {v : Value} {l : List Int} {w : World} (s : St w w [rd eI v l]) (hn1 : -9223372036854775808 ≤ n) (hn2 : n ≤ 9223372036854775807) (hr : ∀ n ∈ l, -9223372036854775808 ≤ n ∧ n ≤ 9223372036854775807) (hf1 : -9223372036854775808 ≤ file) (hf2 : file ≤ 9223372036854775807) (hb1 : -9223372036854775808 ≤ bit) (hb2 : bit ≤ 9223372036854775807) :
    Calls Try.prog 10 #[.int .i64 n, v, .int .i64 file, .int .i64 bit] w fun e w' => e = .returned (.bool true) ∧ Below w.heap.size w w' :=
  ((DiskRots_ct (W0 := w) hn1 hn2 (.head _) hr hf1 hf2 hb1 hb2).run w s).mono fun e w' h => by
    obtain ⟨v, L', rfl, ⟨rfl, rfl⟩, s⟩ := h
    exact ⟨rfl, s.below⟩
end
end Go.Proofs.Ytikdelkcpapgdaa
namespace Go.Proofs.Ytikdelkcpapgdaa
open Go Go.RowKit
set_option linter.unusedVariables false
set_option linter.unusedSimpArgs false
def toB (n : Int) : UInt8 := UInt8.ofNat n.toNat
theorem toB_wf {n : Int} (h : (Lit.int .u8 n).wf = true) : ((toB n).toNat : Int) = n := by
  simp [Lit.wf, IntKind.min, IntKind.max, IntKind.signed, IntKind.bits] at h
  unfold toB
  simp
  omega
/-- a row of numbers of one kind, said as the rows' proofs say it -/
theorem row_sl {α : Type} {f : α → Value} {hf : ∀ a, (f a).oneCell' = true} {k : IntKind} {w : World} {a : Option Addr} {len cap : Nat} {zs : List Int} {l : List α} (hl : l.map f = (zs.take len).map (Value.int k)) (hz : zs.length = cap) (hlc : len ≤ cap)
    {x : Addr} (ha : a = some x) (hcell : ∀ i, i < zs.length → w.cell? (x.add i) = some (.int k (zs.getD i 0))) : Sl (Hp.of w) (e1 f hf) (.slice a len cap) l := by
  have hlen : l.length = len := by
    have := congrArg List.length hl
    simp at this
    omega
  subst hlen
  refine ⟨a, cap, l.map fun b => [f b], rfl, hlc, all2_e1.2 rfl, ?_⟩
  by_cases h0 : l = []
  · exact .inl h0
  · right
    have hpos : 0 < l.length := List.length_pos_iff.2 h0
    obtain ⟨b, off, spot⟩ := x
    have h1 := hcell 0 (by omega)
    have hspot : spot = none := by simpa [Addr.add] using World.cell?_spot h1
    subst hspot
    rw [flat_one]
    have hb : ∃ cs t fr, w.heap[b]? = some (.cells cs t fr) := by
      unfold World.cell? at h1
      simp only [Addr.add] at h1
      split at h1
      · rename_i cs t fr he; exact ⟨cs, t, fr, he⟩
      · cases h1
    obtain ⟨cs, t, fr, hb⟩ := hb
    refine ⟨b, off, cs, t, fr, ha, hb, ?_⟩
    intro j u hj
    rw [hl] at hj
    have hjl : j < l.length := by
      have := (List.getElem?_eq_some_iff.1 hj).1
      simp at this
      omega
    have h2 := hcell j (by omega)
    have h3 : w.cell? ⟨b, off + j, none⟩ = some (.int k (zs.getD j 0)) := by
      have e : (Addr.add ⟨b, off, none⟩ j) = ⟨b, off + j, none⟩ := by
        by_cases hj0 : j = 0
        · subst hj0; rfl
        · simp [Addr.add, hj0]
      rw [e] at h2
      exact h2
    have h4 : cs[off + j]? = some (.int k (zs.getD j 0)) := by simpa [World.cell?, hb] using h3
    rw [h4]
    rw [List.getElem?_map, List.getElem?_take, if_pos hjl] at hj
    rw [List.getD_eq_getElem?_getD]
    cases hzz : zs[j]? with
    | none => rw [hzz] at hj; cases hj
    | some z => rw [hzz] at hj; simpa using hj
theorem row_i64 {w : World} {a : Option Addr} {len cap : Nat} {zs : List Int} (h : (a = none ∧ len = 0 ∧ cap = 0 ∧ zs = []) ∨
    ∃ x, a = some x ∧ len ≤ cap ∧ cap ≤ maxLen ∧ zs.length = cap ∧ (∀ i, i < zs.length → w.cell? (x.add i) = some (.int .i64 (zs.getD i 0))) ∧ ∀ n ∈ zs, (Lit.int .i64 n).wf = true) :
    ∃ l : List Int, Sl (Hp.of w) eI (.slice a len cap) l ∧ l.length = len ∧ len ≤ 9223372036854775807 ∧ ∀ n ∈ l, -9223372036854775808 ≤ n ∧ n ≤ 9223372036854775807 := by
  rcases h with ⟨rfl, rfl, rfl, rfl⟩ | ⟨x, ha, hl, hm, hz, hc, hw⟩
  · exact ⟨[], ⟨none, 0, [], rfl, Nat.le_refl _, trivial, .inl rfl⟩, rfl, by omega, by simp⟩
  · unfold maxLen at hm
    refine ⟨zs.take len, row_sl rfl hz hl ha hc, by simp; omega, by omega, fun n hn => ?_⟩
    have := hw n (List.mem_of_mem_take hn)
    simpa [Lit.wf, IntKind.min, IntKind.max, IntKind.signed, IntKind.bits] using this
theorem row_u8 {w : World} {a : Option Addr} {len cap : Nat} {zs : List Int} (h : (a = none ∧ len = 0 ∧ cap = 0 ∧ zs = []) ∨
    ∃ x, a = some x ∧ len ≤ cap ∧ cap ≤ maxLen ∧ zs.length = cap ∧ (∀ i, i < zs.length → w.cell? (x.add i) = some (.int .u8 (zs.getD i 0))) ∧ ∀ n ∈ zs, (Lit.int .u8 n).wf = true) :
    ∃ l : List UInt8, Sl (Hp.of w) eB (.slice a len cap) l ∧ l.length = len ∧ len ≤ 9223372036854775807 := by
  rcases h with ⟨rfl, rfl, rfl, rfl⟩ | ⟨x, ha, hl, hm, hz, hc, hw⟩
  · exact ⟨[], ⟨none, 0, [], rfl, Nat.le_refl _, trivial, .inl rfl⟩, rfl, by omega⟩
  · unfold maxLen at hm
    refine ⟨(zs.take len).map toB, row_sl ?_ hz hl ha hc, by simp; omega, by omega⟩
    rw [List.map_map]
    refine List.map_congr_left fun n hn => ?_
    show bv (toB n) = _
    rw [bv, toB_wf (hw n (List.mem_of_mem_take hn))]
theorem St.mem_ {W : World} {α : Type} {R : Enc α} {v : Value} {l : List α} {L : List HP} (h : Sl (Hp.of W) R v l) (hS : St W W L) : St W W (Go.Proofs.Ytikdelkcpapgdaa.rd R v l :: L) := hS.old h
end Go.Proofs.Ytikdelkcpapgdaa
