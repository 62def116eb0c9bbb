/-
  The program's Rot, beside the reference's.
-/
import Derived.Deep.Cut
import Derived.Test.YtikdelkcpapgdaaMZ
import Derived.Test.YtikdelkcpapgdaaMJ
namespace Go.Proofs.Ytikdelkcpapgdaa
open Go Go.RowKit
set_option linter.unusedVariables false
set_option linter.unusedSimpArgs false
set_option maxRecDepth 20000
set_option synthInstance.maxSize 100000
set_option synthInstance.maxHeartbeats 400000
theorem Rel.rot {d : DK} {K : RK} (h : Rel d K) {n : Int} {k : Nat} (hn : 0 ≤ n ∧ n < 64) (hk : k / 8 < (fileF n d.files).b.length) (y : Value) :
    Rel { d with files := setF n ⟨y, rotB (fileF n d.files).b k, (fileF n d.files).d⟩ d.files } (rotR K n (k : Int)).1 ∧ (rotR K n (k : Int)).2 = 0 := by
  have hd0 := h.ok.d0 n
  have hrl := rotB_len (fileF n d.files).b k
  have hu := h.ok.u
  have e : rotR K n (k : Int) = ({ K with B := K.B.set n.toNat (rotB (K.b n) k) }, 0) := by
    unfold rotR
    rw [if_pos ⟨hn, by omega, by rw [h.b hn]; omega⟩, Int.toNat_natCast]
  rw [e]
  refine ⟨?_, rfl⟩
  have hp := h.put hn (x := ⟨y, rotB (fileF n d.files).b k, (fileF n d.files).d⟩) (b := rotB (K.b n) k) (f := K.f n) (by rw [h.b hn]) (by
    rw [h.fd hn]
    dsimp only
    rw [if_neg (by omega)]) (by dsimp only; rw [hrl]; omega) (by dsimp only; rw [hrl]; exact hd0)
  rw [setF_same (F := K.F) (i := n.toNat) (f := K.f n) rfl (by rw [h.f.Fl]; omega)] at hp
  exact hp
theorem Rel.rotno {d : DK} {K : RK} (h : Rel d K) {n bit : Int} (hno : ¬ ((0 ≤ n ∧ n < 64) ∧ 0 ≤ bit ∧ bit / 8 < ((fileF n d.files).b.length : Int))) : rotR K n bit = (K, 1) := by
  unfold rotR
  rw [if_neg]
  intro hh
  rw [h.b hh.1] at hh
  exact hno hh
section
variable {W0 : World} {L : List HP}
theorem dRot_no {p : Nat} {files : List (Int × DF)} {room left : Int} {off armed : Bool} {n bit : Int} (hb1 : -9223372036854775808 ≤ bit) (hb2 : bit ≤ 9223372036854775807) (hfl : (fileF n files).b.length ≤ 1000000000) (hno : ¬ ((0 ≤ n ∧ n < 64) ∧ 0 ≤ bit ∧ bit / 8 < ((fileF n files).b.length : Int))) :
    CT Try.prog 34 #[.pointer (some ⟨p, 0, none⟩), .int .i64 n, .int .i64 bit] W0 (dsk p ⟨files, room, off, armed, left⟩ :: L) fun r L' => r = .int .i64 1 ∧ L' = dsk p ⟨files, room, off, armed, left⟩ :: L := by
  refine dsk_ct fun mb => ?_
  dsimp only
  obtain ⟨f, hf⟩ : ∃ f, fileF n files = f := ⟨_, rfl⟩
  refine CT_sub2 (file_sub (b := mb) (k := n) (l := files) (.tail _ (.head _))) ?_
  rw [hf] at hfl hno ⊢
  obtain ⟨fv, fb, fd⟩ := f
  dsimp only at hfl hno ⊢
  refine CT_fact (fun w s => (Src.sl (.inl (.head _)) s : Sl _ eB fv fb).form) ?_
  rintro ⟨A1, c1, rfl, hc1⟩
  refine CT_sub2 (S := cel p [.map (some mb), .int .i64 room, .bool off, .bool armed, .int .i64 left] 68 :: mapo mDF mb files :: rd eB (.slice A1 fb.length c1) fb :: L) Sb ?_
  by_cases hn : 0 ≤ n ∧ n < 64
  rotate_left
  · refine CT_enter Try.func34 rfl ?_; (simp only [Try.ntmps34, List.size_toArray, List.length_cons, List.length_nil, Nat.reduceAdd, Nat.reduceSub, Array.replicate_succ, Array.replicate_zero, List.push_toArray, List.append_toArray, List.nil_append, List.cons_append])
    repeat' (first | refine go ?_ | intro _ | (apply cG; first | refine cT ?_ | refine cF ?_ | refine cS (fun _ => ?_) fun _ => ?_) | (apply gW; refine sW ?_) | (apply gI; refine sI ?_) | (apply gE; refine sE ?_) | (apply gP; refine sP ?_) | (apply gC; refine sC ?_) | (apply gD; refine sD ?_) | fail)
    refine O_s (sv_lookp (R := mDF) (b := mb) (by repeat (first | exact .head _ | refine .tail _ ?_)) Ev.pf Ev.pf (fileF_val n files)) ?_
    rw [hf]
    simp only [mDF_val]
    repeat' (first | refine go ?_ | intro _ | (apply cG; first | refine cT ?_ | refine cF ?_ | refine cS (fun _ => ?_) fun _ => ?_) | (apply gW; refine sW ?_) | (apply gI; refine sI ?_) | (apply gE; refine sE ?_) | (apply gP; refine sP ?_) | (apply gC; refine sC ?_) | (apply gD; refine sD ?_) | fail)
    rename_i bx
    refine O_d (dy_call ArgsI.pf (by first | exact rfl | trivial | (intro a b; rfl)) (dExists_ct (q := false) (decide_eq_false hn))) ?_; rintro _ _ ⟨_, ⟨rfl, hLL⟩, rfl⟩; replace hLL := hLL.symm; subst hLL; refine O_n ?_
    repeat' (first | refine go ?_ | intro _ | (apply cG; first | refine cT ?_ | refine cF ?_ | refine cS (fun _ => ?_) fun _ => ?_) | (apply gW; refine sW ?_) | (apply gI; refine sI ?_) | (apply gE; refine sE ?_) | (apply gP; refine sP ?_) | (apply gC; refine sC ?_) | (apply gD; refine sD ?_) | fail)
    refine E_res1 (by rfl) (by rfl) ⟨rfl, rfl⟩ (Sub.trans (B := cel p [.map (some mb), .int .i64 room, .bool off, .bool armed, .int .i64 left] 68 :: mapo mDF mb files :: L) Sb (dsk_sub (R := mDF) (d := ⟨files, room, off, armed, left⟩)))
  by_cases hb0 : bit < 0
  · refine CT_enter Try.func34 rfl ?_; (simp only [Try.ntmps34, List.size_toArray, List.length_cons, List.length_nil, Nat.reduceAdd, Nat.reduceSub, Array.replicate_succ, Array.replicate_zero, List.push_toArray, List.append_toArray, List.nil_append, List.cons_append])
    repeat' (first | refine go ?_ | intro _ | (apply cG; first | refine cT ?_ | refine cF ?_ | refine cS (fun _ => ?_) fun _ => ?_) | (apply gW; refine sW ?_) | (apply gI; refine sI ?_) | (apply gE; refine sE ?_) | (apply gP; refine sP ?_) | (apply gC; refine sC ?_) | (apply gD; refine sD ?_) | fail)
    refine O_s (sv_lookp (R := mDF) (b := mb) (by repeat (first | exact .head _ | refine .tail _ ?_)) Ev.pf Ev.pf (fileF_val n files)) ?_
    rw [hf]
    simp only [mDF_val]
    repeat' (first | refine go ?_ | intro _ | (apply cG; first | refine cT ?_ | refine cF ?_ | refine cS (fun _ => ?_) fun _ => ?_) | (apply gW; refine sW ?_) | (apply gI; refine sI ?_) | (apply gE; refine sE ?_) | (apply gP; refine sP ?_) | (apply gC; refine sC ?_) | (apply gD; refine sD ?_) | fail)
    rename_i bx
    refine O_d (dy_call ArgsI.pf (by first | exact rfl | trivial | (intro a b; rfl)) (dExists_ct (q := true) (decide_eq_true hn))) ?_; rintro _ _ ⟨_, ⟨rfl, hLL⟩, rfl⟩; replace hLL := hLL.symm; subst hLL; refine O_n ?_
    repeat' (first | refine go ?_ | intro _ | (apply cG; first | refine cT ?_ | refine cF ?_ | refine cS (fun _ => ?_) fun _ => ?_) | (apply gW; refine sW ?_) | (apply gI; refine sI ?_) | (apply gE; refine sE ?_) | (apply gP; refine sP ?_) | (apply gC; refine sC ?_) | (apply gD; refine sD ?_) | fail)
    refine E_res1 (by rfl) (by rfl) ⟨rfl, rfl⟩ (Sub.trans (B := cel p [.map (some mb), .int .i64 room, .bool off, .bool armed, .int .i64 left] 68 :: mapo mDF mb files :: L) Sb (dsk_sub (R := mDF) (d := ⟨files, room, off, armed, left⟩)))
  obtain ⟨k, rfl⟩ : ∃ k : Nat, bit = k := ⟨bit.toNat, by omega⟩
  have hkl : ¬ k / 8 < fb.length := fun h => hno ⟨hn, by omega, by omega⟩
  refine CT_enter Try.func34 rfl ?_; (simp only [Try.ntmps34, List.size_toArray, List.length_cons, List.length_nil, Nat.reduceAdd, Nat.reduceSub, Array.replicate_succ, Array.replicate_zero, List.push_toArray, List.append_toArray, List.nil_append, List.cons_append])
  repeat' (first | refine go ?_ | intro _ | (apply cG; first | refine cT ?_ | refine cF ?_ | refine cS (fun _ => ?_) fun _ => ?_) | (apply gW; refine sW ?_) | (apply gI; refine sI ?_) | (apply gE; refine sE ?_) | (apply gP; refine sP ?_) | (apply gC; refine sC ?_) | (apply gD; refine sD ?_) | fail)
  refine O_s (sv_lookp (R := mDF) (b := mb) (by repeat (first | exact .head _ | refine .tail _ ?_)) Ev.pf Ev.pf (fileF_val n files)) ?_
  rw [hf]
  simp only [mDF_val]
  repeat' (first | refine go ?_ | intro _ | (apply cG; first | refine cT ?_ | refine cF ?_ | refine cS (fun _ => ?_) fun _ => ?_) | (apply gW; refine sW ?_) | (apply gI; refine sI ?_) | (apply gE; refine sE ?_) | (apply gP; refine sP ?_) | (apply gC; refine sC ?_) | (apply gD; refine sD ?_) | fail)
  rename_i bx
  refine O_d (dy_call ArgsI.pf (by first | exact rfl | trivial | (intro a b; rfl)) (dExists_ct (q := true) (decide_eq_true hn))) ?_; rintro _ _ ⟨_, ⟨rfl, hLL⟩, rfl⟩; replace hLL := hLL.symm; subst hLL; refine O_n ?_
  repeat' (first | refine go ?_ | intro _ | (apply cG; first | refine cT ?_ | refine cF ?_ | refine cS (fun _ => ?_) fun _ => ?_) | (apply gI; refine sI ?_) | (apply gE; refine sE ?_) | (apply gP; refine sP ?_) | (apply gC; refine sC ?_) | (apply gD; refine sD ?_) | fail)
  apply gW; refine sW (r := ((k / 8 : Nat) : Int)) ?_ ⟨by decide, by show IntKind.i64.wrap ((k / 8 : Nat) : Int) = ((k / 8 : Nat) : Int); exact wr_i64 (by omega) (by omega)⟩
  repeat' (first | refine go ?_ | intro _ | (apply cG; first | refine cT ?_ | refine cF ?_ | refine cS (fun _ => ?_) fun _ => ?_) | (apply gW; refine sW ?_) | (apply gI; refine sI ?_) | (apply gE; refine sE ?_) | (apply gP; refine sP ?_) | (apply gC; refine sC ?_) | (apply gD; refine sD ?_) | fail)
  refine E_res1 (by rfl) (by rfl) ⟨rfl, rfl⟩ (Sub.trans (B := cel p [.map (some mb), .int .i64 room, .bool off, .bool armed, .int .i64 left] 68 :: mapo mDF mb files :: L) Sb (dsk_sub (R := mDF) (d := ⟨files, room, off, armed, left⟩)))
theorem dRot_ct {p : Nat} {files : List (Int × DF)} {room left : Int} {off armed : Bool} {n : Int} {k : Nat} (hb2 : (k : Int) ≤ 9223372036854775807) (hn : 0 ≤ n ∧ n < 64) (hfl : (fileF n files).b.length ≤ 1000000000) (hkl : k / 8 < (fileF n files).b.length) :
    CT Try.prog 34 #[.pointer (some ⟨p, 0, none⟩), .int .i64 n, .int .i64 (k : Int)] W0 (dsk p ⟨files, room, off, armed, left⟩ :: L) fun r L' => ∃ y, r = .int .i64 0 ∧ L' = dsk p ⟨setF n ⟨y, rotB (fileF n files).b k, (fileF n files).d⟩ files, room, off, armed, left⟩ :: L := by
  refine dsk_ct fun mb => ?_
  dsimp only
  obtain ⟨f, hf⟩ : ∃ f, fileF n files = f := ⟨_, rfl⟩
  refine CT_sub2 (file_sub (b := mb) (k := n) (l := files) (.tail _ (.head _))) ?_
  rw [hf] at hfl hkl ⊢
  obtain ⟨fv, fb, fd⟩ := f
  dsimp only at hfl hkl ⊢
  refine CT_fact (fun w s => (Src.sl (.inl (.head _)) s : Sl _ eB fv fb).form) ?_
  rintro ⟨A1, c1, rfl, hc1⟩
  refine CT_sub2 (S := cel p [.map (some mb), .int .i64 room, .bool off, .bool armed, .int .i64 left] 68 :: mapo mDF mb files :: rd eB (.slice A1 fb.length c1) fb :: L) Sb ?_
  obtain ⟨yb, hyb⟩ : ∃ yb, fb[k / 8]? = some yb := ⟨_, List.getElem?_eq_getElem hkl⟩
  have hgd : fb.getD (k / 8) 0 = yb := by rw [List.getD_eq_getElem?_getD, hyb]; rfl
  have hrot : fb.set (k / 8) (fl8 yb (7 - k % 8)) = rotB fb k := by unfold rotB; rw [hgd]
  have hrl := rotB_len fb k
  have hayb : At fb (k / 8) yb := ⟨hyb⟩
  obtain ⟨hz8, _⟩ := fl8_eq (y := yb) (s := 7 - k % 8) (by omega)
  refine CT_enter Try.func34 rfl ?_; (simp only [Try.ntmps34, List.size_toArray, List.length_cons, List.length_nil, Nat.reduceAdd, Nat.reduceSub, Array.replicate_succ, Array.replicate_zero, List.push_toArray, List.append_toArray, List.nil_append, List.cons_append])
  repeat' (first | refine go ?_ | intro _ | (apply cG; first | refine cT ?_ | refine cF ?_ | refine cS (fun _ => ?_) fun _ => ?_) | (apply gW; refine sW ?_) | (apply gI; refine sI ?_) | (apply gE; refine sE ?_) | (apply gP; refine sP ?_) | (apply gC; refine sC ?_) | (apply gD; refine sD ?_) | fail)
  refine O_s (sv_lookp (R := mDF) (b := mb) (by repeat (first | exact .head _ | refine .tail _ ?_)) Ev.pf Ev.pf (fileF_val n files)) ?_
  rw [hf]
  simp only [mDF_val]
  repeat' (first | refine go ?_ | intro _ | (apply cG; first | refine cT ?_ | refine cF ?_ | refine cS (fun _ => ?_) fun _ => ?_) | (apply gW; refine sW ?_) | (apply gI; refine sI ?_) | (apply gE; refine sE ?_) | (apply gP; refine sP ?_) | (apply gC; refine sC ?_) | (apply gD; refine sD ?_) | fail)
  rename_i bx
  refine O_d (dy_call ArgsI.pf (by first | exact rfl | trivial | (intro a b; rfl)) (dExists_ct (q := true) (decide_eq_true hn))) ?_; rintro _ _ ⟨_, ⟨rfl, hLL⟩, rfl⟩; replace hLL := hLL.symm; subst hLL; refine O_n ?_
  repeat' (first | refine go ?_ | intro _ | (apply cG; first | refine cT ?_ | refine cF ?_ | refine cS (fun _ => ?_) fun _ => ?_) | (apply gI; refine sI ?_) | (apply gE; refine sE ?_) | (apply gP; refine sP ?_) | (apply gC; refine sC ?_) | (apply gD; refine sD ?_) | fail)
  apply gW; refine sW (r := ((k / 8 : Nat) : Int)) ?_ ⟨by decide, by show IntKind.i64.wrap ((k / 8 : Nat) : Int) = ((k / 8 : Nat) : Int); exact wr_i64 (by omega) (by omega)⟩
  repeat' (first | refine go ?_ | intro _ | (apply cG; first | refine cT ?_ | refine cF ?_ | refine cS (fun _ => ?_) fun _ => ?_) | (apply gW; refine sW ?_) | (apply gI; refine sI ?_) | (apply gE; refine sE ?_) | (apply gP; refine sP ?_) | (apply gC; refine sC ?_) | (apply gD; refine sD ?_) | fail)
  refine O_d (dy_call ArgsI.pf (by first | exact rfl | trivial | (intro a b; rfl)) (Clone_ct (l := fb) Sc.pf (by omega))) ?_; rintro _ _ ⟨_, ⟨A2, c2, rfl, rfl⟩, rfl⟩; refine O_n ?_
  repeat' (first | refine go ?_ | intro _ | (apply cG; first | refine cT ?_ | refine cF ?_ | refine cS (fun _ => ?_) fun _ => ?_) | (apply gW; refine sW ?_) | (apply gI; refine sI ?_) | (apply gE; refine sE ?_) | (apply gP; refine sP ?_) | (apply gC; refine sC ?_) | (apply gD; refine sD ?_) | fail)
  refine C_draw (n := 12) [cel bx [.slice A2 fb.length c2, .int .i64 fd] 71, own 5 eB (.slice A2 fb.length c2) fb] [(0, 1), (1, 1), (2, 1), (3, 1), (4, 1), (5, 1), (6, 1), (7, 1), (8, 1), (9, 1), (10, 1), (11, 1), (12, 0)] (by kernel_rfl) (by kernel_rfl) Sb ?_
  repeat' (first | refine go ?_ | intro _ | (apply cG; first | refine cT ?_ | refine cF ?_ | refine cS (fun _ => ?_) fun _ => ?_) | (apply gI; refine sI ?_) | (apply gE; refine sE ?_) | (apply gP; refine sP ?_) | (apply gC; refine sC ?_) | (apply gD; refine sD ?_) | fail)
  apply gW; refine sW (r := ((k / 8 : Nat) : Int)) ?_ ⟨by decide, by show IntKind.i64.wrap ((k / 8 : Nat) : Int) = ((k / 8 : Nat) : Int); exact wr_i64 (by omega) (by omega)⟩
  repeat' (first | refine go ?_ | intro _ | (apply cG; first | refine cT ?_ | refine cF ?_ | refine cS (fun _ => ?_) fun _ => ?_) | (apply gI; refine sI ?_) | (apply gE; refine sE ?_) | (apply gP; refine sP ?_) | (apply gC; refine sC ?_) | (apply gD; refine sD ?_) | fail)
  apply gW; refine sW (r := ((k % 8 : Nat) : Int)) ?_ ⟨by decide, rfl⟩
  repeat' (first | refine go ?_ | intro _ | (apply cG; first | refine cT ?_ | refine cF ?_ | refine cS (fun _ => ?_) fun _ => ?_) | (apply gI; refine sI ?_) | (apply gE; refine sE ?_) | (apply gP; refine sP ?_) | (apply gC; refine sC ?_) | (apply gD; refine sD ?_) | fail)
  apply gW; refine sW (r := ((7 - k % 8 : Nat) : Int)) ?_ (by rw [wr_i64 (by omega) (by omega)]; omega)
  repeat' (first | refine go ?_ | intro _ | (apply cG; first | refine cT ?_ | refine cF ?_ | refine cS (fun _ => ?_) fun _ => ?_) | (apply gI; refine sI ?_) | (apply gE; refine sE ?_) | (apply gP; refine sP ?_) | (apply gC; refine sC ?_) | (apply gD; refine sD ?_) | fail)
  refine D_op rfl ?_; refine X_s (sv_shl (hr := (show IntKind.u8.wrap (1 * 2 ^ (((7 - k % 8 : Nat) : Int)).toNat) = IntKind.u8.wrap (1 * 2 ^ (7 - k % 8)) from rfl))) ?_
  refine D_op rfl ?_; refine X_s (sv_xor (hr := hz8)) ?_
  repeat' (first | refine go ?_ | intro _ | (apply cG; first | refine cT ?_ | refine cF ?_ | refine cS (fun _ => ?_) fun _ => ?_) | (apply gI; refine sI ?_) | (apply gE; refine sE ?_) | (apply gP; refine sP ?_) | (apply gC; refine sC ?_) | (apply gD; refine sD ?_) | fail)
  refine D_op rfl ?_; refine X_d (dy_storeE (f := bv) (hf := fun _ => rfl) (j := k / 8) (n := fb.length) (c := c2) (fl8 yb (7 - k % 8)) (hy := by rfl) (hj := by omega)) ?_; rintro _ _ ⟨rfl, hLL⟩; replace hLL := hLL.trans SAt.pf; subst hLL; refine ⟨(by first | exact .inl rfl | exact .inr Sb), D_n ?_⟩
  rw [hrot]
  repeat' (first | refine go ?_ | intro _ | (apply cG; first | refine cT ?_ | refine cF ?_ | refine cS (fun _ => ?_) fun _ => ?_) | (apply gW; refine sW ?_) | (apply gI; refine sI ?_) | (apply gE; refine sE ?_) | (apply gP; refine sP ?_) | (apply gC; refine sC ?_) | (apply gD; refine sD ?_) | fail)
  refine O_frz 0 ?_
  refine O_sub (S := dsk p ⟨files, room, off, armed, left⟩ :: rd eB (.slice A2 fb.length c2) (rotB fb k) :: L) (Sub.trans (B := cel p [.map (some mb), .int .i64 room, .bool off, .bool armed, .int .i64 left] 68 :: mapo mDF mb files :: rd eB (.slice A2 fb.length c2) (rotB fb k) :: L) Sb (dsk_sub (R := mDF) (d := ⟨files, room, off, armed, left⟩))) ?_
  refine O_d (dy_call ArgsI.pf (by first | exact rfl | trivial | (intro a b; rfl)) (CT.pull (i := 0) (by rfl) (dSet_ct (R := mDF) (d := ⟨files, room, off, armed, left⟩) (x := ⟨.slice A2 fb.length c2, rotB fb k, fd⟩) rfl mDF_val (fun m h hs => rd_mem hs (.head _)) hrl))) ?_; rintro _ _ ⟨_, ⟨rfl, rfl⟩, rfl⟩; refine O_n ?_
  repeat' (first | refine go ?_ | intro _ | (apply cG; first | refine cT ?_ | refine cF ?_ | refine cS (fun _ => ?_) fun _ => ?_) | (apply gW; refine sW ?_) | (apply gI; refine sI ?_) | (apply gE; refine sE ?_) | (apply gP; refine sP ?_) | (apply gC; refine sC ?_) | (apply gD; refine sD ?_) | fail)
  refine E_res1 (by rfl) (by rfl) ⟨_, rfl, rfl⟩ Sb
end
end Go.Proofs.Ytikdelkcpapgdaa
namespace Go.Proofs.Ytikdelkcpapgdaa
open Go Go.RowKit
set_option linter.unusedVariables false
set_option linter.unusedSimpArgs false
theorem hmix_any (s x : UInt64) (w : World) : Calls Try.prog 59 #[uv s, uv x] w fun e w' => e = .returned (uv (mix s x)) ∧ w = w' := by
  go_enter Try.func59, Try.ntmps59
  go_wp2
  go_ret
  exact ⟨congrArg _ (mix_walk s x), rfl⟩
theorem hmix_i {a b : Int} {s x : UInt64} (ha : a = (s.toNat : Int)) (hb : b = (x.toNat : Int)) (w : World) : Calls Try.prog 59 #[.int .u64 a, .int .u64 b] w fun e w' => e = .returned (uv (mix s x)) ∧ w = w' := by
  subst ha; subst hb; exact hmix_any s x w
theorem own_form {α : Type} {E : TypeId} {R : Enc α} {l : List α} {f : FuncId} {args : Array Value} {W0 w : World} {L : List HP} (h : Calls Try.prog f args w fun e w' => ∃ r, e = .returned r ∧ St W0 w' (own E R r l :: L)) :
    Calls Try.prog f args w fun e w' => ∃ A c, e = .returned (.slice A l.length c) ∧ St W0 w' (own E R (.slice A l.length c) l :: L) :=
  h.mono fun _ _ ⟨_, he, hS⟩ => by
    obtain ⟨A, c, rfl, _⟩ := (hS.rdo (.head _)).form
    exact ⟨A, c, he, hS⟩
theorem Src.head {α : Type} {t : TypeId} {R : Enc α} {v : Value} {l : List α} {L : List HP} : Src (own t R v l :: L) R v l := .inr ⟨_, .head _⟩
theorem fold_snoc {α β : Type} {f : β → α → β} {z : β} {l : List α} {i : Nat} {x : α} (h : l[i]? = some x) : (l.take (i + 1)).foldl f z = f ((l.take i).foldl f z) x := by
  rw [List.take_add_one, h]; simp
theorem Src.mono {α : Type} {R : Enc α} {v : Value} {l : List α} {L L' : List HP} (h : Src L R v l) (f : ∀ x ∈ L, x ∈ L') : Src L' R v l := by
  rcases h with h | ⟨t, h⟩
  · exact .inl (f _ h)
  · exact .inr ⟨t, f _ h⟩
theorem Src.one {α : Type} {R : Enc α} {v : Value} {l : List α} {L : List HP} (h : Src L R v l) : ∃ A ∈ L, Src [A] R v l := by
  rcases h with h | ⟨t, h⟩
  · exact ⟨_, h, .inl List.mem_cons_self⟩
  · exact ⟨_, h, .inr ⟨t, List.mem_cons_self⟩⟩
theorem results_none {fn : Func} (h : fn.results = #[]) (tmps : Array Value) (P : Program) (w : World) : (results fn tmps).run P w = .ok (.tuple #[]) w := by
  simp [results, h]
set_option maxRecDepth 8000 in
set_option maxHeartbeats 1000000 in
theorem wordsS_gives {s : ByteArray} {bs : List UInt8} (hbs : s.data.toList = bs) (hs : bs.length ≤ 100000000000000) (b : Nat) :
    Gives Try.prog 64 #[.pointer (some ⟨b, 0, none⟩)] (fun x => #[uv x]) (wordsOf bs) [cel b [.string s] 9] := by
  intro y W0 w J hround hS
  have hsl : bs.length = s.size := by rw [← hbs]; rfl
  go_enter Try.func64, Try.ntmps64
  go_wp2
  go_loopw [3] (fun i wr => Hid (∃ j : Nat, 8 * j ≤ bs.length + 7 ∧ i = .int .i64 ((8 * j : Nat) : Int) ∧ St W0 wr (J ((wordsOf bs).take j) ++ [cel b [.string s] 9]))) (fun i _ => bs.length + 8 - (intOf i).toNat)
  case atStart => exact Lib.hid ⟨0, by omega, rfl, hS⟩
  case round =>
    clear hS w
    obtain ⟨j, hj, rfl, hS⟩ := hrel.out
    have hm := List.mem_append_right (J ((wordsOf bs).take j)) (List.Mem.head (a := cel b [.string s] 9) [])
    by_cases hlt : 8 * j < s.size
    · obtain ⟨m, hm1⟩ : ∃ m, m = min 8 (s.size - 8 * j) := ⟨_, rfl⟩
      have hm2 : 1 ≤ m ∧ m ≤ 8 ∧ 8 * j + m ≤ s.size ∧ (m = 8 ∨ 8 * j + m = s.size) := by omega
      clear hm1
      obtain ⟨hm1, hm2, hm3, hm4⟩ := hm2
      have hltb : decide (8 * (j : Int) < (s.size : Int)) = true := by simp; omega
      by_cases h8 : 8 * j + 8 ≤ s.size
      all_goals
        go_wp2_with ((with_reducible refine g_load ?_); refine wl_load hS (by rfl) (by rfl) (by rfl) hm (by rfl) ?_)
        go_loop [4, 5] (fun x k => Hid (∃ q : Nat, q ≤ m ∧ k = .int .i64 ((8 * j + q : Nat) : Int) ∧ x = uv (leW ((bs.drop (8 * j)).take q)))) (fun _ k => (8 * j + m - intOf k).toNat)
        case atStart => exact Lib.hid ⟨0, by omega, by go_num, rfl⟩
        case round =>
          obtain ⟨q, hq, rfl, rfl⟩ := hrel.out
          by_cases hq0 : q < m
          · go_wp2_with ((with_reducible refine g_load ?_); refine wl_load hS (by rfl) (by rfl) (by rfl) hm (by rfl) ?_)
            go_round
            case rel =>
              refine Lib.hid ⟨q + 1, by omega, by go_num, ?_⟩
              have hx : (bs.drop (8 * j))[q]? = some (s[8 * j + q]'(by omega)) := by
                rw [List.getElem?_drop, ← hbs, Array.getElem?_toList]
                exact Array.getElem?_eq_getElem (xs := s.data) (i := 8 * j + q) (by show 8 * j + q < s.size; omega)
              first | with_reducible exact leW_or hx (by omega) | with_reducible exact leW_or2 hx (by omega)
            case measure => simp [intOf]; omega
          · obtain rfl : q = m := by omega
            go_upto_region 8 with ((with_reducible refine g_load ?_); refine wl_load hS (by rfl) (by rfl) (by rfl) hm (by rfl) ?_)
            have hpart := words_part (bs := bs) (j := j) (by omega)
            refine wp_yield1 (l := y) (v := uv (wordAt bs j)) rfl (congrArg uv (word_whole (by omega) (by omega))) (of_decide_eq_true (by rfl)) (hround _ _ _ _ hpart.1 hS) (fun _ _ h => h.1) ?_
            clear hS
            intro w' ⟨_, hS⟩
            rw [← hpart.2] at hS
            clear hpart hm
            go_wp2
            go_roundw
            case rel =>
              refine Lib.hid ⟨j + 1, by omega, by go_num, hS⟩
            case measure => simp [intOf]; omega
    · go_wp2_with ((with_reducible refine g_load ?_); refine wl_load hS (by rfl) (by rfl) (by rfl) hm (by rfl) ?_)
      rw [words_all (by omega)] at hS
      exact bodyPost_end (results_none rfl _ _ _) rfl ⟨⟨_, rfl⟩, hS⟩
set_option maxRecDepth 8000 in
set_option maxHeartbeats 1000000 in
theorem wordsB_gives {v : Value} {bs : List UInt8} {A0 : HP} (hA : Src [A0] eB v bs) (hs : bs.length ≤ 100000000000000) (b : Nat) :
    Gives Try.prog 57 #[.pointer (some ⟨b, 0, none⟩)] (fun x => #[uv x]) (wordsOf bs) [cel b [v] 27, A0] := by
  intro y W0 w J hround hS
  obtain ⟨A, cap, rfl, hcap⟩ := ((hA.mono fun x hx => List.mem_append_right (J []) (List.mem_cons_of_mem _ hx) : Src (J [] ++ [cel b [v] 27, A0]) eB v bs).sl hS).form
  go_enter Try.func57, Try.ntmps57
  go_wp2
  go_loopw [3] (fun i wr => Hid (∃ j : Nat, 8 * j ≤ bs.length + 7 ∧ i = .int .i64 ((8 * j : Nat) : Int) ∧ St W0 wr (J ((wordsOf bs).take j) ++ [cel b [.slice A bs.length cap] 27, A0]))) (fun i _ => bs.length + 8 - (intOf i).toNat)
  case atStart => exact Lib.hid ⟨0, by omega, rfl, hS⟩
  case round =>
    clear hS w
    obtain ⟨j, hj, rfl, hS⟩ := hrel.out
    have hm := List.mem_append_right (J ((wordsOf bs).take j)) (List.Mem.head (a := cel b [.slice A bs.length cap] 27) [A0])
    have hv : Src (J ((wordsOf bs).take j) ++ [cel b [.slice A bs.length cap] 27, A0]) eB (.slice A bs.length cap) bs := hA.mono fun x hx => List.mem_append_right (J ((wordsOf bs).take j)) (List.mem_cons_of_mem _ hx)
    by_cases hlt : 8 * j < bs.length
    · obtain ⟨m, hm1⟩ : ∃ m, m = min 8 (bs.length - 8 * j) := ⟨_, rfl⟩
      have hm2 : 1 ≤ m ∧ m ≤ 8 ∧ 8 * j + m ≤ bs.length ∧ (m = 8 ∨ 8 * j + m = bs.length) := by omega
      clear hm1
      obtain ⟨hm1, hm2, hm3, hm4⟩ := hm2
      have hltb : decide (8 * (j : Int) < (bs.length : Int)) = true := by simp; omega
      by_cases h8 : 8 * j + 8 ≤ bs.length
      all_goals
        go_wp2_with ((with_reducible refine g_load ?_); refine wl_load hS (by rfl) (by rfl) (by rfl) hm (by rfl) ?_)
        go_loop [4, 5] (fun x k => Hid (∃ q : Nat, q ≤ m ∧ k = .int .i64 ((8 * j + q : Nat) : Int) ∧ x = uv (leW ((bs.drop (8 * j)).take q)))) (fun _ k => (8 * j + m - intOf k).toNat)
        case atStart => exact Lib.hid ⟨0, by omega, by go_num, rfl⟩
        case round =>
          obtain ⟨q, hq, rfl, rfl⟩ := hrel.out
          by_cases hq0 : q < m
          · go_wp2_with (first | ((with_reducible refine g_load ?_); refine wl_load hS (by rfl) (by rfl) (by rfl) hm (by rfl) ?_) | ((with_reducible refine g_idx ?_); first | (refine wl_idxB (by rfl) (by rfl) (by rfl) (by rfl) (Src.sl (by first | exact hv | exact (hv).c | exact (hv).c.c | exact (hv).c.c.c | exact (hv).c.c.c.c) hS) (by omega) (by omega) ?_; intro b off x hx hb hcell) | (refine wl_idxI (by rfl) (by rfl) (by rfl) (by rfl) (Src.sl (by first | exact hv | exact (hv).c | exact (hv).c.c | exact (hv).c.c.c | exact (hv).c.c.c.c) hS) (by omega) (by omega) ?_; intro b off x hx hcell) | (refine wl_idxU (by rfl) (by rfl) (by rfl) (by rfl) (Src.sl (by first | exact hv | exact (hv).c | exact (hv).c.c | exact (hv).c.c.c | exact (hv).c.c.c.c) hS) (by omega) (by omega) ?_; intro b off x hx hb hcell)))
            go_round
            case rel =>
              refine Lib.hid ⟨q + 1, by omega, by go_num, ?_⟩
              have hx : (bs.drop (8 * j))[q]? = some x := by
                rw [List.getElem?_drop]
                first | exact hx | (have e : (8 * (j : Int) + (q : Int)).toNat = 8 * j + q := by omega
                                    rw [e] at hx; exact hx)
              first | with_reducible exact leW_or hx (by omega) | with_reducible exact leW_or2 hx (by omega)
            case measure => simp [intOf]; omega
          · obtain rfl : q = m := by omega
            go_upto_region 8 with ((with_reducible refine g_load ?_); refine wl_load hS (by rfl) (by rfl) (by rfl) hm (by rfl) ?_)
            have hpart := words_part (bs := bs) (j := j) (by omega)
            refine wp_yield1 (l := y) (v := uv (wordAt bs j)) rfl (congrArg uv (word_whole (by omega) (by omega))) (of_decide_eq_true (by rfl)) (hround _ _ _ _ hpart.1 hS) (fun _ _ h => h.1) ?_
            clear hS
            intro w' ⟨_, hS⟩
            rw [← hpart.2] at hS
            clear hpart hm
            go_wp2
            go_roundw
            case rel =>
              refine Lib.hid ⟨j + 1, by omega, by go_num, hS⟩
            case measure => simp [intOf]; omega
    · go_wp2_with ((with_reducible refine g_load ?_); refine wl_load hS (by rfl) (by rfl) (by rfl) hm (by rfl) ?_)
      rw [words_all (by omega)] at hS
      exact bodyPost_end (results_none rfl _ _ _) rfl ⟨⟨_, rfl⟩, hS⟩
theorem St.rot {A : HP} {W0 w : World} {L : List HP} (hS : St W0 w (A :: L)) : St W0 w (L ++ [A]) := hS.perm (List.perm_append_singleton A L).symm
theorem St.unrot {A : HP} {W0 w : World} {L : List HP} (hS : St W0 w (L ++ [A])) : St W0 w (A :: L) := hS.perm (List.perm_append_singleton A L)
theorem St.unrot2 {A B C : HP} {W0 w : World} {L : List HP} (hS : St W0 w (A :: B :: (L ++ [C]))) : St W0 w (A :: B :: L) := (hS.perm (by simpa using List.perm_append_singleton C (A :: B :: L))).drop
theorem wordsS_any {W0 w : World} {L : List HP} (hS : St W0 w L) (s : ByteArray) :
    Calls Try.prog 58 #[.string s] w fun e w' => ∃ b, e = .returned (.func (.func 64) #[] #[.pointer (some ⟨b, 0, none⟩)]) ∧ St W0 w' (cel b [.string s] 9 :: L) := by
  go_enter Try.func58, Try.ntmps58
  go_wp2_with ((with_reducible refine g_box ?_); refine wl_box hS (by rfl) (by rfl) ?_; clear hS; intro b w' hS)
  go_ret
  exact ⟨_, rfl, hS⟩
theorem wordsB_any {W0 w : World} {L : List HP} (hS : St W0 w L) {A : Option Addr} {n c : Nat} :
    Calls Try.prog 51 #[.slice A n c] w fun e w' => ∃ b, e = .returned (.func (.func 57) #[] #[.pointer (some ⟨b, 0, none⟩)]) ∧ St W0 w' (cel b [.slice A n c] 27 :: L) := by
  go_enter Try.func51, Try.ntmps51
  go_wp2_with ((with_reducible refine g_box ?_); refine wl_box hS (by rfl) (by rfl) ?_; clear hS; intro b w' hS)
  go_ret
  exact ⟨_, rfl, hS⟩
set_option maxRecDepth 8000 in
set_option maxHeartbeats 1000000 in
theorem hSum_any {W0 w : World} {L : List HP} (hS : St W0 w L) {s : ByteArray} (hs : s.size ≤ 100000000000000) {v : Value} {l : List Int} (hv : Src L eI v l) (hl : l.length ≤ 100000000000000) :
    Calls Try.prog 52 #[.string s, v] w fun e w' => e = .returned (uv (sumW s.data.toList l)) ∧ St W0 w' L := by
  obtain ⟨A, cap, rfl, hcap⟩ := (hv.sl hS).form
  obtain ⟨bs, hbs⟩ : ∃ bs, s.data.toList = bs := ⟨_, rfl⟩
  have hsl : bs.length = s.size := by rw [← hbs]; rfl
  rw [hbs]
  (refine callsIn_wide.1 (callsIn_of_wp_marks (n := 0) Try.func52 rfl trivial (wpIn_wide.2 ?_)); simp only [Try.ntmps52, List.size_toArray, List.length_cons, List.length_nil, Nat.reduceAdd, Nat.reduceSub, Array.replicate_succ, Array.replicate_zero, List.push_toArray, List.append_toArray, List.nil_append, List.cons_append])
  go_wp2_with (first | ((with_reducible refine g_alloc ?_); refine wl_alloc hS (by rfl) (by rfl) ?_; clear hS; intro c w' hS) | ((with_reducible refine g_store ?_); refine wl_store hS (by rfl) (by rfl) (by rfl) (by rfl) (by rfl) (by with_reducible first | exact at0 | exact at1 | exact at2 | exact at3 | exact at4 | exact at5 | exact at6 | exact at7 | exact at8 | exact at9 | exact at10 | exact at11 | exact at12) (of_decide_eq_true (by rfl)) ?_; clear hS; intro w' hS; (try simp only [List.set_cons_zero, List.set_cons_succ] at hS); (try simp only [Act.eval, Act.put, List.setIfInBounds_toArray, List.set_cons_zero, List.set_cons_succ, Array.getD_eq_getD_getElem?, List.getElem?_toArray, List.getElem?_cons_succ, List.getElem?_cons_zero, Option.getD_some] at hS)) | (go_at_call 58; refine (wordsS_any hS s).mono ?_; clear hS; rintro e w' ⟨b, rfl, hS⟩))
  refine wp_range1 (I := fun pre => cel c [uv (pre.foldl mix 0)] 61 :: L) rfl (by first | exact rfl | trivial | (intro a b; rfl)) (wordsS_gives hbs (by omega) b) hS.rot ?_ ?_
  · intro l D rec pre x post hx
    refine ⟨_, fun W K hK => wpIn_assign1 hK, ?_⟩
    clear hS
    intro W hS
    refine wpIn_block (wpIn_region_frl (fun _ _ h => by cases h.1) (noDefer (by rfl)) ?_)
    simp only [List.cons_append] at hS
    simp only [Act.put, Act.eval, List.setIfInBounds_toArray, List.set_cons_zero, List.set_cons_succ, List.getElem?_toArray, List.getElem?_cons_zero, List.getElem?_cons_succ]
    go_wp2_with (first | ((with_reducible refine g_load ?_); refine wl_load hS (by rfl) (by rfl) (by rfl) (by repeat (first | exact .head _ | refine .tail _ ?_)) (by rfl) ?_) | ((with_reducible refine g_store ?_); refine wl_store hS (by rfl) (by rfl) (by rfl) (by rfl) (by rfl) (by with_reducible first | exact at0 | exact at1 | exact at2 | exact at3 | exact at4 | exact at5 | exact at6 | exact at7 | exact at8 | exact at9 | exact at10 | exact at11 | exact at12) (of_decide_eq_true (by rfl)) ?_; clear hS; intro w' hS; (try simp only [List.set_cons_zero, List.set_cons_succ] at hS); (try simp only [Act.eval, Act.put, List.setIfInBounds_toArray, List.set_cons_zero, List.set_cons_succ, Array.getD_eq_getD_getElem?, List.getElem?_toArray, List.getElem?_cons_succ, List.getElem?_cons_zero, Option.getD_some] at hS)) | (go_at_call 59; refine (hmix_any _ _ _).mono ?_; rintro e w' ⟨rfl, rfl⟩))
    exact ⟨by trivial, by simpa using hS⟩
  · clear hS
    intro D W hS
    simp only [List.cons_append] at hS
    replace hS := (hS.at_ (i := 1) (A := cel c [uv ((wordsOf bs).foldl mix 0)] 61) rfl)
    simp only [List.eraseIdx_cons_succ, List.eraseIdx_cons_zero] at hS
    simp only [Exit.inBlock, Exit.then]
    go_wp2_with (first | ((with_reducible refine g_load ?_); refine wl_load hS (by rfl) (by rfl) (by rfl) (by repeat (first | exact .head _ | refine .tail _ ?_)) (by rfl) ?_) | ((with_reducible refine g_store ?_); refine wl_store hS (by rfl) (by rfl) (by rfl) (by rfl) (by rfl) (by with_reducible first | exact at0 | exact at1 | exact at2 | exact at3 | exact at4 | exact at5 | exact at6 | exact at7 | exact at8 | exact at9 | exact at10 | exact at11 | exact at12) (of_decide_eq_true (by rfl)) ?_; clear hS; intro w' hS; (try simp only [List.set_cons_zero, List.set_cons_succ] at hS); (try simp only [Act.eval, Act.put, List.setIfInBounds_toArray, List.set_cons_zero, List.set_cons_succ, Array.getD_eq_getD_getElem?, List.getElem?_toArray, List.getElem?_cons_succ, List.getElem?_cons_zero, Option.getD_some] at hS)) | (go_at_call 59; refine (hmix_i rfl (by first | exact ofIntI _ | exact u64_ofNat _ (by omega)) _).mono ?_; rintro e w' ⟨rfl, rfl⟩))
    obtain ⟨z, hz⟩ : ∃ z, mix (mix ((wordsOf bs).foldl mix 0) (UInt64.ofNat s.size)) (UInt64.ofNat l.length) = z := ⟨_, rfl⟩
    simp only [hz] at hS
    replace hz := Lib.hid hz
    replace hS := hS.unrot2
    go_loopw [26] (fun i wr => Hid (∃ j : Nat, j ≤ l.length ∧ i = .int .i64 (j : Int) ∧ St W0 wr (cel c [uv ((l.take j).foldl mixI z)] 61 :: blk D (.deferred (some [])) :: L))) (fun i _ => l.length - (intOf i).toNat)
    case atStart => exact Lib.hid ⟨0, by omega, rfl, hS⟩
    case round =>
      clear hS
      obtain ⟨j, hj, rfl, hS⟩ := hrel.out
      by_cases hlt : j < l.length
      · go_wp2_with (first | ((with_reducible refine g_idx ?_); first | (refine wl_idxB (by rfl) (by rfl) (by rfl) (by rfl) (Src.sl (by first | exact hv | exact (hv).c | exact (hv).c.c | exact (hv).c.c.c | exact (hv).c.c.c.c) hS) (by omega) (by omega) ?_; intro b off x hx hb hcell) | (refine wl_idxI (by rfl) (by rfl) (by rfl) (by rfl) (Src.sl (by first | exact hv | exact (hv).c | exact (hv).c.c | exact (hv).c.c.c | exact (hv).c.c.c.c) hS) (by omega) (by omega) ?_; intro b off x hx hcell) | (refine wl_idxU (by rfl) (by rfl) (by rfl) (by rfl) (Src.sl (by first | exact hv | exact (hv).c | exact (hv).c.c | exact (hv).c.c.c | exact (hv).c.c.c.c) hS) (by omega) (by omega) ?_; intro b off x hx hb hcell)) | ((with_reducible refine g_load ?_); refine wl_load hS (by rfl) (by rfl) (by rfl) (by repeat (first | exact .head _ | refine .tail _ ?_)) (by rfl) ?_) | ((with_reducible refine g_store ?_); refine wl_store hS (by rfl) (by rfl) (by rfl) (by rfl) (by rfl) (by with_reducible first | exact at0 | exact at1 | exact at2 | exact at3 | exact at4 | exact at5 | exact at6 | exact at7 | exact at8 | exact at9 | exact at10 | exact at11 | exact at12) (of_decide_eq_true (by rfl)) ?_; clear hS; intro w' hS; (try simp only [List.set_cons_zero, List.set_cons_succ] at hS); (try simp only [Act.eval, Act.put, List.setIfInBounds_toArray, List.set_cons_zero, List.set_cons_succ, Array.getD_eq_getD_getElem?, List.getElem?_toArray, List.getElem?_cons_succ, List.getElem?_cons_zero, Option.getD_some] at hS)) | (go_at_call 59; refine (hmix_i rfl (ofIntI _) _).mono ?_; rintro e w' ⟨rfl, rfl⟩))
        go_roundw
        case rel => exact Lib.hid ⟨j + 1, by omega, by go_num, by rw [fold_snoc (i := j) hx]; exact hS⟩
        case measure => simp [intOf]; omega
      · obtain rfl : j = l.length := by omega
        rw [List.take_length] at hS
        go_wp2_with (first | ((with_reducible refine g_load ?_); refine wl_load hS (by rfl) (by rfl) (by rfl) (by repeat (first | exact .head _ | refine .tail _ ?_)) (by rfl) ?_) | (go_at_call 59; refine (hmix_i rfl (show (0 : Int) = ((0 : UInt64).toNat : Int) from rfl) _).mono ?_; rintro e w' ⟨rfl, rfl⟩))
        refine post_marks rfl hS.drop (fun _ => results_tmp rfl _ _ _) (fun w' hS => ⟨?_, hS⟩)
        have e : sumW bs l = mix (l.foldl mixI z) 0 := by unfold sumW; rw [hsl, hz.out]
        refine Eq.trans ?_ (congrArg (fun x => Ending.returned (uv x)) e.symm)
        exact congrArg Ending.returned (by (conv => lhs; whnf); try rfl)
theorem St.sw2 {A B X : HP} {W0 w : World} {L : List HP} (hS : St W0 w (X :: A :: B :: L)) : St W0 w (A :: B :: X :: L) := hS.perm (List.perm_middle (l₁ := [A, B])).symm
theorem St.rot2 {A B : HP} {W0 w : World} {L : List HP} (hS : St W0 w (A :: B :: L)) : St W0 w (L ++ [A, B]) := hS.perm (List.perm_append_comm (l₁ := [A, B]))
theorem St.unrot22 {A B C D : HP} {W0 w : World} {L : List HP} (hS : St W0 w (A :: B :: (L ++ [C, D]))) : St W0 w (A :: B :: D :: L) :=
  (hS.perm (by simpa using (List.perm_append_comm (l₁ := A :: B :: L) (l₂ := [C, D])) : (A :: B :: (L ++ [C, D])).Perm (C :: D :: A :: B :: L))).drop.perm (List.perm_middle (l₁ := [A, B])).symm
def bx (c : Nat) (l : List Int) : HP := ex fun v => sp [cel c [v] 33, own 3 eI v l]
theorem St.bxo {c : Nat} {l : List Int} {W0 w : World} {L : List HP} (hS : St W0 w (bx c l :: L)) : ∃ v, St W0 w (cel c [v] 33 :: own 3 eI v l :: L) := by
  obtain ⟨v, h⟩ := hS.ex_
  exact ⟨v, h.open_⟩
theorem St.bxc {c : Nat} {l : List Int} {v : Value} {W0 w : World} {L : List HP} (hS : St W0 w (cel c [v] 33 :: own 3 eI v l :: L)) : St W0 w (bx c l :: L) :=
  St.mk_ex v (St.close_ (L := [cel c [v] 33, own 3 eI v l]) hS)
set_option maxRecDepth 8000 in
set_option maxHeartbeats 1000000 in
theorem hBytes_any {W0 w : World} {L : List HP} (hS : St W0 w L) {s : ByteArray} (hs : s.size ≤ 100000000000000) {v : Value} {bs : List UInt8} (hv : Src L eB v bs) (hl : bs.length ≤ 10000000000000) :
    Calls Try.prog 32 #[.string s, v] w fun e w' => e = .returned (uv (bytesW s.data.toList bs)) ∧ St W0 w' L := by
  obtain ⟨A0, hA0, hsrc⟩ := hv.one
  obtain ⟨L0, hp⟩ := hS.mem hA0
  suffices hh : Calls Try.prog 32 #[.string s, v] w fun e w' => e = .returned (uv (bytesW s.data.toList bs)) ∧ St W0 w' (A0 :: L0) from hh.mono fun _ _ h => ⟨h.1, h.2.perm hp.symm⟩
  replace hS := hS.perm hp
  clear hp hA0 hv
  have hv : Src (A0 :: L0) eB v bs := hsrc.mono fun x hx => by simp at hx; subst hx; exact List.mem_cons_self
  obtain ⟨A, cap, rfl, hcap⟩ := (hv.sl hS).form
  have hwl : (wordsOf bs).length ≤ 10000000000000 := by simp [wordsOf]; omega
  replace hwl := Lib.hid hwl
  (refine callsIn_wide.1 (callsIn_of_wp_marks (n := 0) Try.func32 rfl trivial (wpIn_wide.2 ?_)); simp only [Try.ntmps32, List.size_toArray, List.length_cons, List.length_nil, Nat.reduceAdd, Nat.reduceSub, Array.replicate_succ, Array.replicate_zero, List.push_toArray, List.append_toArray, List.nil_append, List.cons_append])
  go_wp2_with (first | ((with_reducible refine g_alloc ?_); refine wl_alloc hS (by rfl) (by rfl) ?_; clear hS; intro c w' hS) | ((with_reducible refine g_store ?_); refine wl_store hS (by rfl) (by rfl) (by rfl) (by rfl) (by rfl) (by with_reducible first | exact at0 | exact at1 | exact at2 | exact at3 | exact at4 | exact at5 | exact at6 | exact at7 | exact at8 | exact at9 | exact at10 | exact at11 | exact at12) (of_decide_eq_true (by rfl)) ?_; clear hS; intro w' hS; (try simp only [List.set_cons_zero, List.set_cons_succ] at hS); (try simp only [Act.eval, Act.put, List.setIfInBounds_toArray, List.set_cons_zero, List.set_cons_succ, Array.getD_eq_getD_getElem?, List.getElem?_toArray, List.getElem?_cons_succ, List.getElem?_cons_zero, Option.getD_some] at hS)) | (go_at_call 51; refine (wordsB_any hS).mono ?_; clear hS; rintro e w' ⟨b, rfl, hS⟩))
  replace hS : St W0 w' (cel c [.slice none 0 0] 33 :: cel b [.slice A bs.length cap] 27 :: A0 :: L0) := hS.perm (.swap _ _ _)
  replace hS := ((hS.own_nil 3 eI).perm (.swap _ _ _)).bxc
  replace hS := hS.perm ((List.perm_append_comm (l₁ := [cel b [.slice A bs.length cap] 27, A0]) (l₂ := L0)).cons (bx c []))
  refine wp_range1 (I := fun pre => bx c (pre.map toI) :: L0) rfl (by first | exact rfl | trivial | (intro a b; rfl)) (wordsB_gives hsrc (by omega) b) hS ?_ ?_
  · intro l D rec pre x post hx
    refine ⟨_, fun W K hK => wpIn_assign1 hK, ?_⟩
    clear hS
    intro W hS
    have hpl : pre.length < (wordsOf bs).length := by rw [hx]; simp
    have hwl := hwl.out
    refine wpIn_block (wpIn_region_frl (fun _ _ h => by cases h.1) (noDefer (by rfl)) ?_)
    simp only [List.cons_append] at hS
    obtain ⟨u, hS⟩ := (hS.at_ (i := 2) rfl).bxo
    simp only [List.eraseIdx_cons_succ, List.eraseIdx_cons_zero] at hS
    go_wp2_with (first | ((with_reducible refine g_load ?_); refine wl_load hS (by rfl) (by rfl) (by rfl) (by repeat (first | exact .head _ | refine .tail _ ?_)) (by rfl) ?_) | ((with_reducible refine g_lit ?_); refine L_push hS (by rfl) (fun _ => by rfl) (fun _ => (by conv => lhs; whnf)) (of_decide_eq_true (by rfl)) (by with_reducible first | exact at0 | exact at1 | exact at2 | exact at3 | exact at4 | exact at5 | exact at6 | exact at7 | exact at8 | exact at9 | exact at10 | exact at11 | exact at12) (by rfl) (by rfl) (by decide) (by decide) (fun _ _ _ => by rfl) (by (try simp); omega) ?_; clear hS; intro A A1 c w' hS; (try simp only [List.set_cons_zero, List.set_cons_succ] at hS)) | ((with_reducible refine g_store ?_); refine wl_store hS (by rfl) (by rfl) (by rfl) (by rfl) (by rfl) (by with_reducible first | exact at0 | exact at1 | exact at2 | exact at3 | exact at4 | exact at5 | exact at6 | exact at7 | exact at8 | exact at9 | exact at10 | exact at11 | exact at12) (of_decide_eq_true (by rfl)) ?_; clear hS; intro w' hS; (try simp only [List.set_cons_zero, List.set_cons_succ] at hS); (try simp only [Act.eval, Act.put, List.setIfInBounds_toArray, List.set_cons_zero, List.set_cons_succ, Array.getD_eq_getD_getElem?, List.getElem?_toArray, List.getElem?_cons_succ, List.getElem?_cons_zero, Option.getD_some] at hS)))
    replace hS := (St.bxc hS).sw2
    have e : (pre ++ [x]).map toI = pre.map toI ++ [toI x] := by simp
    refine ⟨trivial, ?_⟩
    rw [e]
    exact hS
  · clear hS
    intro D W hS
    simp only [List.cons_append] at hS
    simp only [Exit.inBlock, Exit.then]
    have hwl := hwl.out
    replace hS := ((hS.perm (.swap _ _ _)).bxo)
    obtain ⟨u, hS⟩ := hS
    go_wp2_with (first | ((with_reducible refine g_load ?_); refine wl_load hS (by rfl) (by rfl) (by rfl) (by repeat (first | exact .head _ | refine .tail _ ?_)) (by rfl) ?_) | ((with_reducible refine g_lit ?_); refine L_push hS (by rfl) (fun _ => by rfl) (fun _ => (by conv => lhs; whnf)) (of_decide_eq_true (by rfl)) (by with_reducible first | exact at0 | exact at1 | exact at2 | exact at3 | exact at4 | exact at5 | exact at6 | exact at7 | exact at8 | exact at9 | exact at10 | exact at11 | exact at12) (by rfl) (by rfl) (by decide) (by decide) (fun _ _ _ => by rfl) (by (try simp); omega) ?_; clear hS; intro A A1 c w' hS; (try simp only [List.set_cons_zero, List.set_cons_succ] at hS)) | ((with_reducible refine g_store ?_); refine wl_store hS (by rfl) (by rfl) (by rfl) (by rfl) (by rfl) (by with_reducible first | exact at0 | exact at1 | exact at2 | exact at3 | exact at4 | exact at5 | exact at6 | exact at7 | exact at8 | exact at9 | exact at10 | exact at11 | exact at12) (of_decide_eq_true (by rfl)) ?_; clear hS; intro w' hS; (try simp only [List.set_cons_zero, List.set_cons_succ] at hS); (try simp only [Act.eval, Act.put, List.setIfInBounds_toArray, List.set_cons_zero, List.set_cons_succ, Array.getD_eq_getD_getElem?, List.getElem?_toArray, List.getElem?_cons_succ, List.getElem?_cons_zero, Option.getD_some] at hS)))
    have e : bytesW s.data.toList bs = sumW s.data.toList ((wordsOf bs).map toI ++ [(bs.length : Int)]) := rfl
    rw [List.length_map] at hS
    refine (hSum_any (hS.perm (.swap _ _ _)) hs Src.head (by simp; omega)).mono ?_
    clear hS
    rintro _ w' ⟨rfl, hS⟩
    go_wp2
    refine post_marks rfl hS.drop.drop (fun _ => results_tmp rfl _ _ _) (fun w' hS => ⟨?_, (hS.perm List.perm_append_comm).drop⟩)
    refine Eq.trans ?_ (congrArg (fun x => Ending.returned (uv x)) e.symm)
    exact congrArg Ending.returned (by (conv => lhs; whnf); try rfl)
section
variable {W0 : World} {L : List HP}
theorem hSum_ct {s : ByteArray} {v : Value} {l : List Int} {z : UInt64} (hv : Src L eI v l) (hs : s.size ≤ 100000000000000) (hl : l.length ≤ 100000000000000) (hz : sumW s.data.toList l = z) :
    CT Try.prog 52 #[.string s, v] W0 L fun r L' => r = uv z ∧ L' = L :=
  ⟨fun w s' => (hSum_any s' hs hv hl).mono fun e w' ⟨h, hw⟩ => ⟨_, _, h, ⟨by rw [hz], rfl⟩, hw⟩⟩
theorem hBytes_ct {s : ByteArray} {v : Value} {l : List UInt8} {z : UInt64} (hv : Src L eB v l) (hs : s.size ≤ 100000000000000) (hl : l.length ≤ 10000000000000) (hz : bytesW s.data.toList l = z) :
    CT Try.prog 32 #[.string s, v] W0 L fun r L' => r = uv z ∧ L' = L :=
  ⟨fun w s' => (hBytes_any s' hs hv hl).mono fun e w' ⟨h, hw⟩ => ⟨_, _, h, ⟨by rw [hz], rfl⟩, hw⟩⟩
end
end Go.Proofs.Ytikdelkcpapgdaa
