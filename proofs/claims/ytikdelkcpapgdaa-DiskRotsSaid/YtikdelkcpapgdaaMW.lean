/-
  Walks: what a disk refuses; contracts that speak of plain states of a disk with one file.
-/
import Derived.Test.YtikdelkcpapgdaaMV
namespace Go.Proofs.Ytikdelkcpapgdaa
open Go Go.RowKit
set_option linter.unusedVariables false
set_option linter.unusedSimpArgs false
set_option maxRecDepth 20000
set_option synthInstance.maxSize 100000
set_option synthInstance.maxHeartbeats 400000
def sOff (armed : Bool) (left : Int) : Bool := armed && decide (left - 1 < 0)
def sArm (armed : Bool) (left : Int) : Bool := armed && !decide (left - 1 < 0)
def sLeft (armed : Bool) (left : Int) : Int := if armed then left - 1 else left
theorem stepF_s {files : List (Int × DF)} {room left : Int} {armed : Bool} : stepF ⟨files, room, false, armed, left⟩ = (⟨files, room, sOff armed left, sArm armed left, sLeft armed left⟩, !sOff armed left) := by
  unfold stepF sOff sArm sLeft
  cases armed
  · rfl
  · by_cases h : left - 1 < 0
    · simp only [if_true, if_pos h, decide_eq_true h, Bool.true_and, Bool.not_true]
    · simp only [if_true, if_neg h, decide_eq_false h, Bool.true_and, Bool.not_false]
theorem J1.app {files : List (Int × DF)} {room left file k : Int} {armed : Bool} {B b : List UInt8} {D : Nat} (h : J1 ⟨files, room, false, armed, left⟩ file k B D) (hf : 0 ≤ file ∧ file < 64) (hb : ((b.length : Nat) : Int) ≤ k - (B.length : Int)) (y : Value) :
    ∃ f', appF ⟨files, room, false, armed, left⟩ file b y = (⟨f', room, sOff armed left, sArm armed left, sLeft armed left⟩, if sOff armed left then 21 else 0) ∧ ∀ o a l, J1 ⟨f', room, o, a, l⟩ file k (B ++ b) D := by
  have hu := h.u
  have hr := h.room
  have hd := h.ok.d0 file
  have hdl := h.dl
  dsimp only at hu hr hd
  have hbl : (fileF file files).b.length = B.length := by have := h.b; dsimp only at this; rw [this]
  obtain ⟨x, hx⟩ : ∃ x : DF, (⟨y, (fileF file files).b ++ b, (fileF file files).d⟩ : DF) = x := ⟨_, rfl⟩
  have hxb : x.b = B ++ b := by rw [← hx, ← h.b]
  have hxd : x.d = D := by rw [← hx]; exact h.dd
  have hxl : x.b.length = B.length + b.length := by rw [hxb, List.length_append]
  have ha : appF ⟨files, room, false, armed, left⟩ file b y = (⟨setF file x files, room, sOff armed left, sArm armed left, sLeft armed left⟩, if sOff armed left then 21 else 0) := by
    unfold appF
    rw [if_pos hf, if_neg (by simp)]
    dsimp only
    rw [if_neg (by omega), hx, stepF_s]
    dsimp only
    cases sOff armed left <;> rfl
  have hs := h.ok.set (n := file) (x := x) (by dsimp only; omega) (by omega)
  refine ⟨_, ha, fun o a l => ⟨⟨hs.k, hs.r0, hs.r1, hs.u, hs.d0⟩, h.one.set x, hr, (fileF_set h.ok.k).1.trans hxb, ?_⟩⟩
  rw [(fileF_set h.ok.k).2, hxd]
  split
  · rename_i h0
    omega
  · rfl
theorem J1.sync {files : List (Int × DF)} {room left file k : Int} {armed : Bool} {B : List UInt8} {D : Nat} (h : J1 ⟨files, room, false, armed, left⟩ file k B D) :
    ∃ f', syncF ⟨files, room, false, armed, left⟩ = (⟨f', room, sOff armed left, sArm armed left, sLeft armed left⟩, if sOff armed left then 21 else 0) ∧ ∀ o a l, J1 ⟨f', room, o, a, l⟩ file k B (if sOff armed left then D else B.length) := by
  unfold syncF
  rw [if_neg (by simp), stepF_s]
  dsimp only
  cases hc : sOff armed left
  · refine ⟨_, rfl, fun o a l => ?_⟩
    have h2 := h.hard
    exact ⟨⟨h2.ok.k, h2.ok.r0, h2.ok.r1, h2.ok.u, h2.ok.d0⟩, h2.one, h2.room, h2.b, h2.dd⟩
  · exact ⟨_, rfl, fun o a l => h.any⟩
theorem J1.trunc {files : List (Int × DF)} {room left file k : Int} {armed : Bool} {B : List UInt8} {D N : Nat} (h : J1 ⟨files, room, false, armed, left⟩ file k B D) (hN : N ≤ B.length) (y : Value) :
    ∃ f', truncF ⟨files, room, false, armed, left⟩ file N y = (⟨f', room, sOff armed left, sArm armed left, sLeft armed left⟩, if sOff armed left then 21 else 0) ∧ ∀ o a l, J1 ⟨f', room, o, a, l⟩ file k (if sOff armed left then B else B.take N) (if sOff armed left then D else min D N) := by
  have hu := h.u
  have hr := h.room
  have hd := h.ok.d0 file
  have hdl := h.dl
  dsimp only at hu hr hd
  have hb := h.b
  have hdd := h.dd
  dsimp only at hb hdd
  obtain ⟨x, hx⟩ : ∃ x : DF, (⟨y, (fileF file files).b.take N, min (fileF file files).d (N : Int)⟩ : DF) = x := ⟨_, rfl⟩
  have hxb : x.b = B.take N := by rw [← hx, ← hb]
  have hxd : x.d = ((min D N : Nat) : Int) := by rw [← hx]; dsimp only; rw [hdd]; omega
  have hxl : x.b.length = N := by rw [hxb, List.length_take]; omega
  have hbl : (fileF file files).b.length = B.length := by rw [hb]
  have hou := h.ok.u
  dsimp only at hou
  unfold truncF
  rw [if_neg (by simp), stepF_s]
  dsimp only
  rw [hx]
  cases hc : sOff armed left
  · refine ⟨_, rfl, fun o a l => ?_⟩
    have hs := h.ok.set (n := file) (x := x) (by dsimp only; omega) (by omega)
    refine ⟨⟨hs.k, hs.r0, hs.r1, hs.u, hs.d0⟩, h.one.set x, hr, (fileF_set h.ok.k).1.trans hxb, ?_⟩
    show (fileF file (setF file x files)).d = _
    rw [(fileF_set h.ok.k).2, hxd]
    split
    · rename_i h0
      show (0 : Int) = ((min D N : Nat) : Int)
      omega
    · rfl
  · exact ⟨_, rfl, fun o a l => h.any⟩
section
variable {W0 : World} {L : List HP}
theorem dNew_no {room : Int} (h : ¬ (0 ≤ room ∧ room ≤ 16777216)) : CT Try.prog 11 #[.int .i64 room] W0 L fun r L' => r = .tuple #[.pointer none, .int .i64 1] ∧ L' = L := by
  by_cases h0 : room < 0
  · refine CT_enter Try.func11 rfl ?_; (simp only [Try.ntmps11, List.size_toArray, List.length_cons, List.length_nil, Nat.reduceAdd, Nat.reduceSub, Array.replicate_succ, Array.replicate_zero, List.push_toArray, List.append_toArray, List.nil_append, List.cons_append])
    repeat' (first | refine go ?_ | intro _ | (apply cG; first | refine cT ?_ | refine cF ?_ | refine cS (fun _ => ?_) fun _ => ?_) | (apply gW; refine sW ?_) | (apply gI; refine sI ?_) | (apply gE; refine sE ?_) | (apply gP; refine sP ?_) | (apply gC; refine sC ?_) | (apply gD; refine sD ?_) | fail)
    refine E_res2 (by rfl) (by rfl) ⟨rfl, rfl⟩ Sb
  · have h2 : 16777216 < room := by omega
    refine CT_enter Try.func11 rfl ?_; (simp only [Try.ntmps11, List.size_toArray, List.length_cons, List.length_nil, Nat.reduceAdd, Nat.reduceSub, Array.replicate_succ, Array.replicate_zero, List.push_toArray, List.append_toArray, List.nil_append, List.cons_append])
    repeat' (first | refine go ?_ | intro _ | (apply cG; first | refine cT ?_ | refine cF ?_ | refine cS (fun _ => ?_) fun _ => ?_) | (apply gW; refine sW ?_) | (apply gI; refine sI ?_) | (apply gE; refine sE ?_) | (apply gP; refine sP ?_) | (apply gC; refine sC ?_) | (apply gD; refine sD ?_) | fail)
    refine E_res2 (by rfl) (by rfl) ⟨rfl, rfl⟩ Sb
theorem dOn_ct {p : Nat} {files : List (Int × DF)} {room left : Int} {off armed : Bool} : CT Try.prog 29 #[.pointer (some ⟨p, 0, none⟩)] W0 (dsk p ⟨files, room, off, armed, left⟩ :: L) fun r L' => r = .bool (!off) ∧ L' = dsk p ⟨files, room, off, armed, left⟩ :: L := by
  refine dsk_ct fun mb => ?_
  dsimp only
  refine CT_enter Try.func29 rfl ?_; (simp only [Try.ntmps29, List.size_toArray, List.length_cons, List.length_nil, Nat.reduceAdd, Nat.reduceSub, Array.replicate_succ, Array.replicate_zero, List.push_toArray, List.append_toArray, List.nil_append, List.cons_append])
  repeat' (first | refine go ?_ | intro _ | (apply cG; first | refine cT ?_ | refine cF ?_ | refine cS (fun _ => ?_) fun _ => ?_) | (apply gW; refine sW ?_) | (apply gI; refine sI ?_) | (apply gE; refine sE ?_) | (apply gP; refine sP ?_) | (apply gC; refine sC ?_) | (apply gD; refine sD ?_) | fail)
  refine O_s (sv_not (q := !off) Ev.pf rfl) ?_
  repeat' (first | refine go ?_ | intro _ | (apply cG; first | refine cT ?_ | refine cF ?_ | refine cS (fun _ => ?_) fun _ => ?_) | (apply gW; refine sW ?_) | (apply gI; refine sI ?_) | (apply gE; refine sE ?_) | (apply gP; refine sP ?_) | (apply gC; refine sC ?_) | (apply gD; refine sD ?_) | fail)
  refine E_res1 (by rfl) (by rfl) ⟨rfl, rfl⟩ (Sub.trans (B := cel p [.map (some mb), .int .i64 room, .bool off, .bool armed, .int .i64 left] 68 :: mapo mDF mb files :: L) Sb (dsk_sub (R := mDF) (d := ⟨files, room, off, armed, left⟩)))
theorem dTrunc_no {p : Nat} {files : List (Int × DF)} {room left : Int} {off armed : Bool} {n N e : Int} (hn1 : -9223372036854775808 ≤ n) (hn2 : n ≤ 9223372036854775807) (hN1 : -9223372036854775808 ≤ N) (hN2 : N ≤ 9223372036854775807) (hfl : (fileF n files).b.length ≤ 1000000000) (he : (¬ ((0 ≤ n ∧ n < 64) ∧ 0 ≤ N ∧ N ≤ ((fileF n files).b.length : Int)) ∧ e = 1) ∨ (((0 ≤ n ∧ n < 64) ∧ 0 ≤ N ∧ N ≤ ((fileF n files).b.length : Int)) ∧ off = true ∧ e = 21)) :
    CT Try.prog 20 #[.pointer (some ⟨p, 0, none⟩), .int .i64 n, .int .i64 N] W0 (dsk p ⟨files, room, off, armed, left⟩ :: L) fun r L' => r = .int .i64 e ∧ L' = dsk p ⟨files, room, off, armed, left⟩ :: L := by
  refine dsk_ct fun mb => ?_
  dsimp only
  obtain ⟨f, hf⟩ : ∃ f, fileF n files = f := ⟨_, rfl⟩
  refine CT_sub2 (file_sub (b := mb) (k := n) (l := files) (.tail _ (.head _))) ?_
  rw [hf]
  rw [hf] at he hfl
  obtain ⟨fv, fb, fd⟩ := f
  dsimp only at he hfl ⊢
  refine CT_fact (fun w s => (Src.sl (.inl (.head _)) s : Sl _ eB fv fb).form) ?_
  rintro ⟨A1, c1, rfl, hc1⟩
  refine CT_sub2 (S := cel p [.map (some mb), .int .i64 room, .bool off, .bool armed, .int .i64 left] 68 :: mapo mDF mb files :: L) Sb ?_
  obtain ⟨q, hq⟩ : ∃ q, decide (0 ≤ n ∧ n < 64) = q := ⟨_, rfl⟩
  refine CT_enter Try.func20 rfl ?_; (simp only [Try.ntmps20, List.size_toArray, List.length_cons, List.length_nil, Nat.reduceAdd, Nat.reduceSub, Array.replicate_succ, Array.replicate_zero, List.push_toArray, List.append_toArray, List.nil_append, List.cons_append])
  repeat' (first | refine go ?_ | intro _ | (apply cG; first | refine cT ?_ | refine cF ?_ | refine cS (fun _ => ?_) fun _ => ?_) | (apply gW; refine sW ?_) | (apply gI; refine sI ?_) | (apply gE; refine sE ?_) | (apply gP; refine sP ?_) | (apply gC; refine sC ?_) | (apply gD; refine sD ?_) | fail)
  refine O_s (sv_lookp (R := mDF) (b := mb) (by repeat (first | exact .head _ | refine .tail _ ?_)) Ev.pf Ev.pf (fileF_val n files)) ?_
  rw [hf]
  simp only [mDF_val]
  repeat' (first | refine go ?_ | intro _ | (apply cG; first | refine cT ?_ | refine cF ?_ | refine cS (fun _ => ?_) fun _ => ?_) | (apply gW; refine sW ?_) | (apply gI; refine sI ?_) | (apply gE; refine sE ?_) | (apply gP; refine sP ?_) | (apply gC; refine sC ?_) | (apply gD; refine sD ?_) | fail)
  rename_i bx
  refine O_d (dy_call ArgsI.pf (by first | exact rfl | trivial | (intro a b; rfl)) (dExists_ct hq)) ?_; rintro _ _ ⟨_, ⟨rfl, hLL⟩, rfl⟩; replace hLL := hLL.symm; subst hLL; refine O_n ?_
  cases q
  · rcases he with ⟨_, rfl⟩ | ⟨h, _⟩
    rotate_left
    · exact absurd h.1 (of_decide_eq_false hq)
    repeat' (first | refine go ?_ | intro _ | (apply cG; first | refine cT ?_ | refine cF ?_ | refine cS (fun _ => ?_) fun _ => ?_) | (apply gW; refine sW ?_) | (apply gI; refine sI ?_) | (apply gE; refine sE ?_) | (apply gP; refine sP ?_) | (apply gC; refine sC ?_) | (apply gD; refine sD ?_) | fail)
    refine E_res1 (by rfl) (by rfl) ⟨rfl, rfl⟩ (Sub.trans (B := cel p [.map (some mb), .int .i64 room, .bool off, .bool armed, .int .i64 left] 68 :: mapo mDF mb files :: L) Sb (dsk_sub (R := mDF) (d := ⟨files, room, off, armed, left⟩)))
  have hq2 := of_decide_eq_true hq
  by_cases hN0 : N < 0
  · rcases he with ⟨_, rfl⟩ | ⟨h, _⟩
    rotate_left
    · omega
    repeat' (first | refine go ?_ | intro _ | (apply cG; first | refine cT ?_ | refine cF ?_ | refine cS (fun _ => ?_) fun _ => ?_) | (apply gW; refine sW ?_) | (apply gI; refine sI ?_) | (apply gE; refine sE ?_) | (apply gP; refine sP ?_) | (apply gC; refine sC ?_) | (apply gD; refine sD ?_) | fail)
    refine E_res1 (by rfl) (by rfl) ⟨rfl, rfl⟩ (Sub.trans (B := cel p [.map (some mb), .int .i64 room, .bool off, .bool armed, .int .i64 left] 68 :: mapo mDF mb files :: L) Sb (dsk_sub (R := mDF) (d := ⟨files, room, off, armed, left⟩)))
  by_cases hNl : (fb.length : Int) < N
  · rcases he with ⟨_, rfl⟩ | ⟨h, _⟩
    rotate_left
    · omega
    repeat' (first | refine go ?_ | intro _ | (apply cG; first | refine cT ?_ | refine cF ?_ | refine cS (fun _ => ?_) fun _ => ?_) | (apply gW; refine sW ?_) | (apply gI; refine sI ?_) | (apply gE; refine sE ?_) | (apply gP; refine sP ?_) | (apply gC; refine sC ?_) | (apply gD; refine sD ?_) | fail)
    refine E_res1 (by rfl) (by rfl) ⟨rfl, rfl⟩ (Sub.trans (B := cel p [.map (some mb), .int .i64 room, .bool off, .bool armed, .int .i64 left] 68 :: mapo mDF mb files :: L) Sb (dsk_sub (R := mDF) (d := ⟨files, room, off, armed, left⟩)))
  · rcases he with ⟨h, _⟩ | ⟨_, rfl, rfl⟩
    · exact absurd ⟨hq2, by omega, by omega⟩ h
    repeat' (first | refine go ?_ | intro _ | (apply cG; first | refine cT ?_ | refine cF ?_ | refine cS (fun _ => ?_) fun _ => ?_) | (apply gW; refine sW ?_) | (apply gI; refine sI ?_) | (apply gE; refine sE ?_) | (apply gP; refine sP ?_) | (apply gC; refine sC ?_) | (apply gD; refine sD ?_) | fail)
    refine E_res1 (by rfl) (by rfl) ⟨rfl, rfl⟩ (Sub.trans (B := cel p [.map (some mb), .int .i64 room, .bool true, .bool armed, .int .i64 left] 68 :: mapo mDF mb files :: L) Sb (dsk_sub (R := mDF) (d := ⟨files, room, true, armed, left⟩)))
theorem Append_j {p : Nat} {files : List (Int × DF)} {room left file k : Int} {armed : Bool} {B b : List UInt8} {D : Nat} {v : Value} (h : J1 ⟨files, room, false, armed, left⟩ file k B D) (hf : 0 ≤ file ∧ file < 64) (hv : Src L eB v b) (hb : ((b.length : Nat) : Int) ≤ k - (B.length : Int)) (hb2 : b.length ≤ 1000000) (h0 : -1000000 ≤ left) (h1 : left ≤ 1000000) :
    CT Try.prog 14 #[.pointer (some ⟨p, 0, none⟩), .int .i64 file, v] W0 (dsk p ⟨files, room, false, armed, left⟩ :: L) fun r L' => ∃ f', (∀ o a l, J1 ⟨f', room, o, a, l⟩ file k (B ++ b) D) ∧ r = .int .i64 (if sOff armed left then 21 else 0) ∧ L' = dsk p ⟨f', room, sOff armed left, sArm armed left, sLeft armed left⟩ :: L := by
  have hu := h.ok.u
  have hr0 := h.ok.r0
  have hr1 := h.ok.r1
  have hr := h.room
  have hfu := file_le_used (n := file) files
  dsimp only at hu hr0 hr1 hr
  refine (dAppend_ct (n := file) hv (by omega) (by omega) hr0 hr1 (by omega) (by omega) (by omega)).mono fun r L' h2 => ?_
  obtain ⟨A, c, rfl, rfl⟩ := h2
  obtain ⟨f', e, hj⟩ := h.app hf hb (.slice A ((fileF file files).b ++ b).length c)
  rw [e]
  exact ⟨f', hj, rfl, rfl⟩
theorem Sync_j {p : Nat} {files : List (Int × DF)} {room left file k : Int} {armed : Bool} {B : List UInt8} {D : Nat} (h : J1 ⟨files, room, false, armed, left⟩ file k B D) (h0 : -1000000 ≤ left) (h1 : left ≤ 1000000) :
    CT Try.prog 15 #[.pointer (some ⟨p, 0, none⟩)] W0 (dsk p ⟨files, room, false, armed, left⟩ :: L) fun r L' => ∃ f', (∀ o a l, J1 ⟨f', room, o, a, l⟩ file k B (if sOff armed left then D else B.length)) ∧ r = .int .i64 (if sOff armed left then 21 else 0) ∧ L' = dsk p ⟨f', room, sOff armed left, sArm armed left, sLeft armed left⟩ :: L := by
  have hu := h.ok.u
  have hr1 := h.ok.r1
  dsimp only at hu hr1
  refine (dSync_ct (files := files) (room := room) (off := false) (armed := armed) (left := left) h.ok.k (by omega) (by omega) (by omega)).mono fun r L' h2 => ?_
  obtain ⟨rfl, rfl⟩ := h2
  obtain ⟨f', e, hj⟩ := h.sync
  rw [e]
  exact ⟨f', hj, rfl, rfl⟩
theorem Trunc_j {p : Nat} {files : List (Int × DF)} {room left file k : Int} {armed : Bool} {B : List UInt8} {D N : Nat} (h : J1 ⟨files, room, false, armed, left⟩ file k B D) (hf : 0 ≤ file ∧ file < 64) (hN : N ≤ B.length) (h0 : -1000000 ≤ left) (h1 : left ≤ 1000000) :
    CT Try.prog 20 #[.pointer (some ⟨p, 0, none⟩), .int .i64 file, .int .i64 (N : Int)] W0 (dsk p ⟨files, room, false, armed, left⟩ :: L) fun r L' => ∃ f', (∀ o a l, J1 ⟨f', room, o, a, l⟩ file k (if sOff armed left then B else B.take N) (if sOff armed left then D else min D N)) ∧ r = .int .i64 (if sOff armed left then 21 else 0) ∧ L' = dsk p ⟨f', room, sOff armed left, sArm armed left, sLeft armed left⟩ :: L := by
  have hu := h.ok.u
  have hr1 := h.ok.r1
  have hd := h.ok.d0 file
  have hb := h.b
  have hfu := file_le_used (n := file) files
  dsimp only at hu hr1 hd hb
  refine (dTrunc_ct (n := file) (N := N) hf (by rw [hb]; exact hN) (by omega) hd.1 (by omega) (by omega) (by omega)).mono fun r L' h2 => ?_
  obtain ⟨A, c, rfl, rfl⟩ := h2
  obtain ⟨f', e, hj⟩ := h.trunc hN (.slice A N c)
  rw [e]
  exact ⟨f', hj, rfl, rfl⟩
theorem Read_j {p : Nat} {files : List (Int × DF)} {room left file k : Int} {armed : Bool} {B : List UInt8} {D : Nat} (h : J1 ⟨files, room, false, armed, left⟩ file k B D) (hf : 0 ≤ file ∧ file < 64) :
    CT Try.prog 17 #[.pointer (some ⟨p, 0, none⟩), .int .i64 file] W0 (dsk p ⟨files, room, false, armed, left⟩ :: L) fun r L' => ∃ A c, r = .tuple #[.slice A B.length c, .int .i64 0] ∧ L' = own 5 eB (.slice A B.length c) B :: dsk p ⟨files, room, false, armed, left⟩ :: L := by
  have hu := h.ok.u
  have hr1 := h.ok.r1
  have hb := h.b
  have hfu := file_le_used (n := file) files
  dsimp only at hu hr1 hb
  have := dRead_ct (W0 := W0) (L := L) (p := p) (files := files) (room := room) (armed := armed) (left := left) (n := file) (by omega) hf
  rw [hb] at this
  exact this
theorem Used_j {p : Nat} {d : DK} {file k : Int} {B : List UInt8} {D : Nat} (h : J1 d file k B D) :
    CT Try.prog 21 #[.pointer (some ⟨p, 0, none⟩)] W0 (dsk p d :: L) fun r L' => r = .int .i64 (B.length : Int) ∧ L' = dsk p d :: L := by
  have hu := h.ok.u
  have hr1 := h.ok.r1
  have := dUsed_ct (W0 := W0) (L := L) (p := p) (d := d) (by omega)
  rw [h.u] at this
  exact this
theorem Append_na {p : Nat} {files : List (Int × DF)} {room left file k : Int} {B b : List UInt8} {D : Nat} {v : Value} (h : J1 ⟨files, room, false, false, left⟩ file k B D) (hf : 0 ≤ file ∧ file < 64) (hv : Src L eB v b) (hb : ((b.length : Nat) : Int) ≤ k - (B.length : Int)) (hb2 : b.length ≤ 1000000) (h0 : -1000000 ≤ left) (h1 : left ≤ 1000000) :
    CT Try.prog 14 #[.pointer (some ⟨p, 0, none⟩), .int .i64 file, v] W0 (dsk p ⟨files, room, false, false, left⟩ :: L) fun r L' => ∃ f', J1 ⟨f', room, false, false, left⟩ file k (B ++ b) D ∧ r = .int .i64 0 ∧ L' = dsk p ⟨f', room, false, false, left⟩ :: L :=
  (Append_j h hf hv hb hb2 h0 h1).mono fun r L' ⟨f', hj, e1, e2⟩ => ⟨f', hj _ _ _, e1, e2⟩
theorem Sync_na {p : Nat} {files : List (Int × DF)} {room left file k : Int} {B : List UInt8} {D : Nat} (h : J1 ⟨files, room, false, false, left⟩ file k B D) (h0 : -1000000 ≤ left) (h1 : left ≤ 1000000) :
    CT Try.prog 15 #[.pointer (some ⟨p, 0, none⟩)] W0 (dsk p ⟨files, room, false, false, left⟩ :: L) fun r L' => ∃ f', J1 ⟨f', room, false, false, left⟩ file k B B.length ∧ r = .int .i64 0 ∧ L' = dsk p ⟨f', room, false, false, left⟩ :: L :=
  (Sync_j h h0 h1).mono fun r L' ⟨f', hj, e1, e2⟩ => ⟨f', hj _ _ _, e1, e2⟩
theorem Trunc_na {p : Nat} {files : List (Int × DF)} {room left file k : Int} {B : List UInt8} {D N : Nat} (h : J1 ⟨files, room, false, false, left⟩ file k B D) (hf : 0 ≤ file ∧ file < 64) (hN : N ≤ B.length) (h0 : -1000000 ≤ left) (h1 : left ≤ 1000000) :
    CT Try.prog 20 #[.pointer (some ⟨p, 0, none⟩), .int .i64 file, .int .i64 (N : Int)] W0 (dsk p ⟨files, room, false, false, left⟩ :: L) fun r L' => ∃ f', J1 ⟨f', room, false, false, left⟩ file k (B.take N) (min D N) ∧ r = .int .i64 0 ∧ L' = dsk p ⟨f', room, false, false, left⟩ :: L :=
  (Trunc_j h hf hN h0 h1).mono fun r L' ⟨f', hj, e1, e2⟩ => ⟨f', hj _ _ _, e1, e2⟩
theorem Crash_na {p : Nat} {files : List (Int × DF)} {room left file k z : Int} {off armed : Bool} {B : List UInt8} {D : Nat} {kv : Value} {kp : List Int} (h : J1 ⟨files, room, off, armed, left⟩ file k B D) (hkv : rd eI kv kp ∈ L) (hkl : kp.length ≤ 1000000000) (hkr : ∀ x ∈ kp, -9223372036854775808 ≤ x ∧ x ≤ 9223372036854775807) (hz1 : -9223372036854775808 ≤ z) (hz2 : z ≤ 9223372036854775807) :
    CT Try.prog 16 #[.pointer (some ⟨p, 0, none⟩), kv, .int .i64 z] W0 (dsk p ⟨files, room, off, armed, left⟩ :: L) fun r L' => ∃ f', J1 ⟨f', room, false, false, left⟩ file k (crB kp z D B) (crB kp z D B).length ∧ r = .tuple #[] ∧ L' = dsk p ⟨f', room, false, false, left⟩ :: L :=
  (Crash_j1 h hkv hkl hkr hz1 hz2).mono fun r L' ⟨d', hj, e1, e2, e3, e4, e5⟩ => by
    obtain ⟨f', room', off', armed', left'⟩ := d'
    have hr : room' = k := hj.room
    have hr2 : room = k := h.room
    replace e1 : off' = false := e1
    replace e2 : armed' = false := e2
    replace e3 : left' = left := e3
    subst e1 e2 e3 hr hr2
    exact ⟨f', hj, e4, e5⟩
end
end Go.Proofs.Ytikdelkcpapgdaa
namespace Go.Proofs.Ytikdelkcpapgdaa
open Go Go.RowKit
set_option linter.unusedVariables false
set_option linter.unusedSimpArgs false
set_option maxRecDepth 20000
set_option synthInstance.maxSize 100000
set_option synthInstance.maxHeartbeats 400000
theorem Rel.len {d : DK} {K : RK} (h : Rel d K) : d.files.length ≤ 64 := by
  have hn : (filesB K.B 64).Nodup := (filesB_sorted K.B 64).imp fun h => by omega
  have hp := (List.perm_ext_iff_of_nodup h.ok.k hn).2 fun n => h.f.mem h.ok.k n
  have := hp.length_eq
  rw [List.length_map] at this
  rw [this]
  exact filesB_len _ _
section
variable {W0 : World} {L : List HP}
theorem dArm_off {p : Nat} {files : List (Int × DF)} {room left : Int} {armed : Bool} {n : Int} : CT Try.prog 28 #[.pointer (some ⟨p, 0, none⟩), .int .i64 n] W0 (dsk p ⟨files, room, true, armed, left⟩ :: L) fun r L' => r = .tuple #[] ∧ L' = dsk p ⟨files, room, true, armed, left⟩ :: L := by
  refine dsk_ct fun mb => ?_
  dsimp only
  refine CT_enter Try.func28 rfl ?_; (simp only [Try.ntmps28, List.size_toArray, List.length_cons, List.length_nil, Nat.reduceAdd, Nat.reduceSub, Array.replicate_succ, Array.replicate_zero, List.push_toArray, List.append_toArray, List.nil_append, List.cons_append])
  repeat' (first | refine go ?_ | intro _ | (apply cG; first | refine cT ?_ | refine cF ?_ | refine cS (fun _ => ?_) fun _ => ?_) | (apply gW; refine sW ?_) | (apply gI; refine sI ?_) | (apply gE; refine sE ?_) | (apply gP; refine sP ?_) | (apply gC; refine sC ?_) | (apply gD; refine sD ?_) | fail)
  refine E_sub (S := dsk p ⟨files, room, true, armed, left⟩ :: L) (Sub.trans (B := cel p [.map (some mb), .int .i64 room, .bool true, .bool armed, .int .i64 left] 68 :: mapo mDF mb files :: L) Sb (dsk_sub (R := mDF) (d := ⟨files, room, true, armed, left⟩))) ?_
  refine E_end0 (by first | exact .inl rfl | exact .inr rfl) (by rfl) (by rfl) ⟨rfl, rfl⟩
theorem do_ct {p : Nat} {d : DK} {K : RK} {x : OV} (h : Rel d K) (ho : OvOk x) (hb : rd eB x.v x.b ∈ L) (hkp : rd eI x.kv x.kp ∈ L) :
    CT Try.prog 24 #[.pointer (some ⟨p, 0, none⟩), .agg #[.int .i64 x.k, .int .i64 x.file, .int .i64 x.n, x.v, x.kv]] W0 (dsk p d :: L) fun q L' => ∃ d', Rel d' (doR K x).1 ∧ q = .int .i64 (doR K x).2 ∧ L' = dsk p d' :: L := by
  have hf0 := ho.f0
  have hf1 := ho.f1
  have hn0 := ho.n0
  have hn1 := ho.n1
  have hbl := ho.bl
  have hkl := ho.kl
  have hl0 := h.l0
  have hl1 := h.l1
  have hr0 := h.ok.r0
  have hr1 := h.ok.r1
  have hu := h.ok.u
  have hd0 := h.ok.d0 x.file
  have hfu := file_le_used (n := x.file) d.files
  have hlen := h.len
  have hok := h.ok
  obtain ⟨files, room, off, armed, left⟩ := d
  dsimp only at hl0 hl1 hr0 hr1 hu hd0 hfu hlen
  unfold doR
  by_cases h0 : x.k = 0
  · rw [if_pos h0]
    refine CT_enter Try.func24 rfl ?_; (simp only [Try.ntmps24, List.size_toArray, List.length_cons, List.length_nil, Nat.reduceAdd, Nat.reduceSub, Array.replicate_succ, Array.replicate_zero, List.push_toArray, List.append_toArray, List.nil_append, List.cons_append])
    repeat' (first | refine go ?_ | intro _ | (apply cG; first | refine cT ?_ | refine cF ?_ | refine cS (fun _ => ?_) fun _ => ?_) | (apply gW; refine sW ?_) | (apply gI; refine sI ?_) | (apply gE; refine sE ?_) | (apply gP; refine sP ?_) | (apply gC; refine sC ?_) | (apply gD; refine sD ?_) | fail)
    refine O_d (dy_call ArgsI.pf (by first | exact rfl | trivial | (intro a b; rfl)) (CT.pull (i := 1) (by rfl) (dAppend_ct (n := x.file) (b := x.b) (.inl (.tail _ hb)) (by omega) (by omega) hr0 hr1 (by omega) (by omega) (by omega)))) ?_; rintro _ _ ⟨_, ⟨A, c, rfl, rfl⟩, rfl⟩; refine O_n ?_
    have hr := h.app x.file x.b (.slice A ((fileF x.file files).b ++ x.b).length c)
    repeat' (first | refine go ?_ | intro _ | (apply cG; first | refine cT ?_ | refine cF ?_ | refine cS (fun _ => ?_) fun _ => ?_) | (apply gW; refine sW ?_) | (apply gI; refine sI ?_) | (apply gE; refine sE ?_) | (apply gP; refine sP ?_) | (apply gC; refine sC ?_) | (apply gD; refine sD ?_) | fail)
    refine E_res1 (by rfl) (by rfl) ⟨_, hr.1, congrArg (Value.int .i64) hr.2, rfl⟩ Sb
  rw [if_neg h0]
  by_cases h1 : x.k = 1
  · rw [if_pos h1]
    have hr := h.sync
    refine CT_enter Try.func24 rfl ?_; (simp only [Try.ntmps24, List.size_toArray, List.length_cons, List.length_nil, Nat.reduceAdd, Nat.reduceSub, Array.replicate_succ, Array.replicate_zero, List.push_toArray, List.append_toArray, List.nil_append, List.cons_append])
    repeat' (first | refine go ?_ | intro _ | (apply cG; first | refine cT ?_ | refine cF ?_ | refine cS (fun _ => ?_) fun _ => ?_) | (apply gW; refine sW ?_) | (apply gI; refine sI ?_) | (apply gE; refine sE ?_) | (apply gP; refine sP ?_) | (apply gC; refine sC ?_) | (apply gD; refine sD ?_) | fail)
    refine O_d (dy_call ArgsI.pf (by first | exact rfl | trivial | (intro a b; rfl)) (CT.pull (i := 1) (by rfl) (dSync_ct (files := files) hok.k (by omega) (by omega) (by omega)))) ?_; rintro _ _ ⟨_, ⟨rfl, rfl⟩, rfl⟩; refine O_n ?_
    repeat' (first | refine go ?_ | intro _ | (apply cG; first | refine cT ?_ | refine cF ?_ | refine cS (fun _ => ?_) fun _ => ?_) | (apply gW; refine sW ?_) | (apply gI; refine sI ?_) | (apply gE; refine sE ?_) | (apply gP; refine sP ?_) | (apply gC; refine sC ?_) | (apply gD; refine sD ?_) | fail)
    refine E_res1 (by rfl) (by rfl) ⟨_, hr.1, congrArg (Value.int .i64) hr.2, rfl⟩ Sb
  rw [if_neg h1]
  by_cases h2 : x.k = 2
  · rw [if_pos h2]
    by_cases hin : (0 ≤ x.file ∧ x.file < 64) ∧ 0 ≤ x.n ∧ x.n ≤ ((fileF x.file files).b.length : Int)
    rotate_left
    · have e : truncR K x.file x.n = (K, 1) := by
        unfold truncR
        rw [if_neg]
        intro hh
        rw [h.b hh.1] at hh
        exact hin hh
      rw [e]
      refine CT_enter Try.func24 rfl ?_; (simp only [Try.ntmps24, List.size_toArray, List.length_cons, List.length_nil, Nat.reduceAdd, Nat.reduceSub, Array.replicate_succ, Array.replicate_zero, List.push_toArray, List.append_toArray, List.nil_append, List.cons_append])
      repeat' (first | refine go ?_ | intro _ | (apply cG; first | refine cT ?_ | refine cF ?_ | refine cS (fun _ => ?_) fun _ => ?_) | (apply gW; refine sW ?_) | (apply gI; refine sI ?_) | (apply gE; refine sE ?_) | (apply gP; refine sP ?_) | (apply gC; refine sC ?_) | (apply gD; refine sD ?_) | fail)
      refine O_d (dy_call ArgsI.pf (by first | exact rfl | trivial | (intro a b; rfl)) (CT.pull (i := 1) (by rfl) (dTrunc_no (n := x.file) (N := x.n) (e := 1) (by omega) (by omega) (by omega) (by omega) (by omega) (.inl ⟨hin, rfl⟩)))) ?_; rintro _ _ ⟨_, ⟨rfl, rfl⟩, rfl⟩; refine O_n ?_
      repeat' (first | refine go ?_ | intro _ | (apply cG; first | refine cT ?_ | refine cF ?_ | refine cS (fun _ => ?_) fun _ => ?_) | (apply gW; refine sW ?_) | (apply gI; refine sI ?_) | (apply gE; refine sE ?_) | (apply gP; refine sP ?_) | (apply gC; refine sC ?_) | (apply gD; refine sD ?_) | fail)
      refine E_res1 (by rfl) (by rfl) ⟨_, h, rfl, rfl⟩ Sb
    obtain ⟨M, hM⟩ : ∃ M : Nat, x.n = M := ⟨x.n.toNat, by omega⟩
    cases off
    · rw [hM]
      refine CT_enter Try.func24 rfl ?_; (simp only [Try.ntmps24, List.size_toArray, List.length_cons, List.length_nil, Nat.reduceAdd, Nat.reduceSub, Array.replicate_succ, Array.replicate_zero, List.push_toArray, List.append_toArray, List.nil_append, List.cons_append])
      repeat' (first | refine go ?_ | intro _ | (apply cG; first | refine cT ?_ | refine cF ?_ | refine cS (fun _ => ?_) fun _ => ?_) | (apply gW; refine sW ?_) | (apply gI; refine sI ?_) | (apply gE; refine sE ?_) | (apply gP; refine sP ?_) | (apply gC; refine sC ?_) | (apply gD; refine sD ?_) | fail)
      refine O_d (dy_call ArgsI.pf (by first | exact rfl | trivial | (intro a b; rfl)) (CT.pull (i := 1) (by rfl) (dTrunc_ct (n := x.file) (N := M) hin.1 (by omega) (by omega) hd0.1 (by omega) (by omega) (by omega)))) ?_; rintro _ _ ⟨_, ⟨A, c, rfl, rfl⟩, rfl⟩; refine O_n ?_
      have hr := h.trunc (n := x.file) (N := M) hin.1 (by dsimp only; omega) (.slice A M c)
      repeat' (first | refine go ?_ | intro _ | (apply cG; first | refine cT ?_ | refine cF ?_ | refine cS (fun _ => ?_) fun _ => ?_) | (apply gW; refine sW ?_) | (apply gI; refine sI ?_) | (apply gE; refine sE ?_) | (apply gP; refine sP ?_) | (apply gC; refine sC ?_) | (apply gD; refine sD ?_) | fail)
      refine E_res1 (by rfl) (by rfl) ⟨_, hr.1, congrArg (Value.int .i64) hr.2, rfl⟩ Sb
    · have e : truncR K x.file x.n = (K, 21) := by
        unfold truncR
        rw [if_pos (by rw [h.b hin.1]; exact hin), if_pos h.off]
      rw [e]
      refine CT_enter Try.func24 rfl ?_; (simp only [Try.ntmps24, List.size_toArray, List.length_cons, List.length_nil, Nat.reduceAdd, Nat.reduceSub, Array.replicate_succ, Array.replicate_zero, List.push_toArray, List.append_toArray, List.nil_append, List.cons_append])
      repeat' (first | refine go ?_ | intro _ | (apply cG; first | refine cT ?_ | refine cF ?_ | refine cS (fun _ => ?_) fun _ => ?_) | (apply gW; refine sW ?_) | (apply gI; refine sI ?_) | (apply gE; refine sE ?_) | (apply gP; refine sP ?_) | (apply gC; refine sC ?_) | (apply gD; refine sD ?_) | fail)
      refine O_d (dy_call ArgsI.pf (by first | exact rfl | trivial | (intro a b; rfl)) (CT.pull (i := 1) (by rfl) (dTrunc_no (n := x.file) (N := x.n) (e := 21) (by omega) (by omega) (by omega) (by omega) (by omega) (.inr ⟨hin, rfl, rfl⟩)))) ?_; rintro _ _ ⟨_, ⟨rfl, rfl⟩, rfl⟩; refine O_n ?_
      repeat' (first | refine go ?_ | intro _ | (apply cG; first | refine cT ?_ | refine cF ?_ | refine cS (fun _ => ?_) fun _ => ?_) | (apply gW; refine sW ?_) | (apply gI; refine sI ?_) | (apply gE; refine sE ?_) | (apply gP; refine sP ?_) | (apply gC; refine sC ?_) | (apply gD; refine sD ?_) | fail)
      refine E_res1 (by rfl) (by rfl) ⟨_, h, rfl, rfl⟩ Sb
  rw [if_neg h2]
  by_cases h3 : x.k = 3
  · rw [if_pos h3]
    cases off
    · have hr := h.armd rfl (n := x.n) (by omega) (by omega)
      refine CT_enter Try.func24 rfl ?_; (simp only [Try.ntmps24, List.size_toArray, List.length_cons, List.length_nil, Nat.reduceAdd, Nat.reduceSub, Array.replicate_succ, Array.replicate_zero, List.push_toArray, List.append_toArray, List.nil_append, List.cons_append])
      repeat' (first | refine go ?_ | intro _ | (apply cG; first | refine cT ?_ | refine cF ?_ | refine cS (fun _ => ?_) fun _ => ?_) | (apply gW; refine sW ?_) | (apply gI; refine sI ?_) | (apply gE; refine sE ?_) | (apply gP; refine sP ?_) | (apply gC; refine sC ?_) | (apply gD; refine sD ?_) | fail)
      refine O_d (dy_call ArgsI.pf (by first | exact rfl | trivial | (intro a b; rfl)) (CT.pull (i := 1) (by rfl) (dArm_ct (n := x.n)))) ?_; rintro _ _ ⟨_, ⟨rfl, rfl⟩, rfl⟩; refine O_n ?_
      repeat' (first | refine go ?_ | intro _ | (apply cG; first | refine cT ?_ | refine cF ?_ | refine cS (fun _ => ?_) fun _ => ?_) | (apply gW; refine sW ?_) | (apply gI; refine sI ?_) | (apply gE; refine sE ?_) | (apply gP; refine sP ?_) | (apply gC; refine sC ?_) | (apply gD; refine sD ?_) | fail)
      refine E_res1 (by rfl) (by rfl) ⟨_, hr, rfl, rfl⟩ Sb
    · have e : armR K x.n = K := by unfold armR; rw [if_pos h.off]
      rw [e]
      refine CT_enter Try.func24 rfl ?_; (simp only [Try.ntmps24, List.size_toArray, List.length_cons, List.length_nil, Nat.reduceAdd, Nat.reduceSub, Array.replicate_succ, Array.replicate_zero, List.push_toArray, List.append_toArray, List.nil_append, List.cons_append])
      repeat' (first | refine go ?_ | intro _ | (apply cG; first | refine cT ?_ | refine cF ?_ | refine cS (fun _ => ?_) fun _ => ?_) | (apply gW; refine sW ?_) | (apply gI; refine sI ?_) | (apply gE; refine sE ?_) | (apply gP; refine sP ?_) | (apply gC; refine sC ?_) | (apply gD; refine sD ?_) | fail)
      refine O_d (dy_call ArgsI.pf (by first | exact rfl | trivial | (intro a b; rfl)) (CT.pull (i := 1) (by rfl) (dArm_off (n := x.n)))) ?_; rintro _ _ ⟨_, ⟨rfl, rfl⟩, rfl⟩; refine O_n ?_
      repeat' (first | refine go ?_ | intro _ | (apply cG; first | refine cT ?_ | refine cF ?_ | refine cS (fun _ => ?_) fun _ => ?_) | (apply gW; refine sW ?_) | (apply gI; refine sI ?_) | (apply gE; refine sE ?_) | (apply gP; refine sP ?_) | (apply gC; refine sC ?_) | (apply gD; refine sD ?_) | fail)
      refine E_res1 (by rfl) (by rfl) ⟨_, h, rfl, rfl⟩ Sb
  rw [if_neg h3]
  refine CT_enter Try.func24 rfl ?_; (simp only [Try.ntmps24, List.size_toArray, List.length_cons, List.length_nil, Nat.reduceAdd, Nat.reduceSub, Array.replicate_succ, Array.replicate_zero, List.push_toArray, List.append_toArray, List.nil_append, List.cons_append])
  repeat' (first | refine go ?_ | intro _ | (apply cG; first | refine cT ?_ | refine cF ?_ | refine cS (fun _ => ?_) fun _ => ?_) | (apply gW; refine sW ?_) | (apply gI; refine sI ?_) | (apply gE; refine sE ?_) | (apply gP; refine sP ?_) | (apply gC; refine sC ?_) | (apply gD; refine sD ?_) | fail)
  refine O_d (dy_call ArgsI.pf (by first | exact rfl | trivial | (intro a b; rfl)) (CT.pull (i := 1) (by rfl) (Crash_ct (z := x.n) hok hlen (.tail _ hkp) (by omega) ho.kr (by omega) (by omega)))) ?_; rintro _ _ ⟨_, ⟨ys, F, hp, hs, hc, hok2, rfl, rfl⟩, rfl⟩; refine O_n ?_
  have hr := h.crash hp hs hc hok2
  repeat' (first | refine go ?_ | intro _ | (apply cG; first | refine cT ?_ | refine cF ?_ | refine cS (fun _ => ?_) fun _ => ?_) | (apply gW; refine sW ?_) | (apply gI; refine sI ?_) | (apply gE; refine sE ?_) | (apply gP; refine sP ?_) | (apply gC; refine sC ?_) | (apply gD; refine sD ?_) | fail)
  refine E_res1 (by rfl) (by rfl) ⟨_, hr, rfl, rfl⟩ Sb
end
end Go.Proofs.Ytikdelkcpapgdaa
