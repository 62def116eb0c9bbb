/-
  Disk with one file: states with a plan, Crash.
-/
import Derived.Test.YtbjaecofccpahaaGreatMW
import Derived.Test.YtbjaecofccpahaaGreatMU
namespace Go.Proofs.YtbjaecofccpahaaGreat
open Go Go.RowKit
set_option linter.unusedVariables false
set_option linter.unusedSimpArgs false
theorem stepF_na {d : DK} (h : d.armed = false) : stepF d = (d, true) := by unfold stepF; rw [if_neg (by simp [h])]
/-- no file, or this one alone -/
def OneF (file : Int) (l : List (Int × DF)) : Prop := l = [] ∨ ∃ f, l = [(file, f)]
theorem OneF.set {file : Int} {l : List (Int × DF)} (h : OneF file l) (x : DF) : OneF file (setF file x l) := by
  rcases h with rfl | ⟨f, rfl⟩
  · have e : setF file x [] = if x.b.length = 0 then [] else [(file, x)] := by
      unfold setF
      have e1 : putM file x [] = [(file, x)] := rfl
      rw [e1, delM_cons, if_pos rfl]
    rw [e]
    split
    · exact .inl rfl
    · exact .inr ⟨x, rfl⟩
  · rw [set_one]
    split
    · exact .inl rfl
    · exact .inr ⟨x, rfl⟩
theorem OneF.hard {file : Int} {l : List (Int × DF)} (h : OneF file l) : OneF file (hardL l) := by
  rcases h with rfl | ⟨f, rfl⟩
  · exact .inl rfl
  · exact .inr ⟨_, rfl⟩
theorem OneF.used {file : Int} {l : List (Int × DF)} (h : OneF file l) : usedL l = (fileF file l).b.length := by
  rcases h with rfl | ⟨f, rfl⟩
  · rfl
  · rw [fileF_cons, if_pos rfl]
    rfl
/-- file alone holds B, of which D bytes are durable -/
structure J1 (d : DK) (file : Int) (k : Int) (B : List UInt8) (D : Nat) : Prop where
  ok : DOk d
  one : OneF file d.files
  room : d.room = k
  b : (fileF file d.files).b = B
  dd : (fileF file d.files).d = D
theorem J1.u {d : DK} {file k : Int} {B : List UInt8} {D : Nat} (h : J1 d file k B D) : usedL d.files = B.length := by rw [h.one.used, h.b]
theorem J1.dl {d : DK} {file k : Int} {B : List UInt8} {D : Nat} (h : J1 d file k B D) : D ≤ B.length := by
  have := h.ok.d0 file
  rw [h.b, h.dd] at this
  omega
theorem J1.any {files : List (Int × DF)} {room left left' : Int} {off armed off' armed' : Bool} {file k : Int} {B : List UInt8} {D : Nat} (h : J1 ⟨files, room, off, armed, left⟩ file k B D) : J1 ⟨files, room, off', armed', left'⟩ file k B D :=
  ⟨⟨h.ok.k, h.ok.r0, h.ok.r1, h.ok.u, h.ok.d0⟩, h.one, h.room, h.b, h.dd⟩
theorem J1.begun {k : Int} (h1 : 0 ≤ k) (h2 : k ≤ 16777216) (file : Int) : J1 ⟨[], k, false, false, 0⟩ file k [] 0 := ⟨⟨List.nodup_nil, h1, h2, h1, fun n => ⟨Int.le_refl _, Int.le_refl _⟩⟩, .inl rfl, rfl, rfl, rfl⟩
theorem J1.hard {d : DK} {file k : Int} {B : List UInt8} {D : Nat} (h : J1 d file k B D) : J1 { d with files := hardL d.files } file k B B.length :=
  ⟨h.ok.hard, h.one.hard, h.room, (fileF_hard d.files).1.trans h.b, by rw [(fileF_hard d.files).2, h.b]⟩
theorem J1.put {d : DK} {file k : Int} {B b : List UInt8} {D : Nat} (h : J1 d file k B D) (hb : ((b.length : Nat) : Int) ≤ k - (B.length : Int)) (h0 : 0 < b.length) (y : Value) : J1 { d with files := setF file ⟨y, (fileF file d.files).b ++ b, (fileF file d.files).d⟩ d.files } file k (B ++ b) D := by
  have hu := h.u
  have hr := h.room
  have hd := h.ok.d0 file
  have hbl : (fileF file d.files).b.length = B.length := by rw [h.b]
  refine ⟨h.ok.set ?_ ?_, h.one.set _, h.room, (fileF_set h.ok.k).1.trans (by dsimp only; rw [h.b]), ?_⟩
  · dsimp only
    rw [List.length_append]
    push_cast
    omega
  · dsimp only
    rw [List.length_append]
    push_cast
    omega
  · rw [(fileF_set h.ok.k).2, if_neg (by dsimp only; rw [List.length_append]; omega)]
    exact h.dd
/-- a step with a plan -/
theorem stepF_go {d : DK} (h1 : d.off = false) (h2 : d.armed = true) (h3 : 1 ≤ d.left) : stepF d = ({ d with left := d.left - 1 }, true) := by
  unfold stepF
  rw [if_pos h2, if_neg (by omega), h1]
  rfl
theorem stepF_stop {d : DK} (h2 : d.armed = true) (h3 : d.left < 1) : stepF d = ({ d with left := d.left - 1, off := true, armed := false }, false) := by
  unfold stepF
  rw [if_pos h2, if_pos (by omega)]
theorem crB_nil (kp : List Int) (z : Int) : crB kp z 0 [] = [] := by
  have : ∀ m, turnB z 0 m [] = [] := fun m => List.length_eq_zero_iff.1 (by rw [turnB_len]; rfl)
  unfold crB
  rw [List.take_nil]
  exact this _
theorem crB_len (kp : List Int) (z : Int) (D : Nat) (B : List UInt8) (h : D ≤ B.length) : (crB kp z D B).length = D + keepN kp 0 B.length D ∧ D + keepN kp 0 B.length D ≤ B.length := by
  have := keepN_le kp 0 B.length D h
  unfold crB
  rw [turnB_len, List.length_take]
  exact ⟨by omega, this⟩
/-- the durable bytes stay -/
theorem crB_firm (kp : List Int) (z : Int) (D : Nat) (B : List UInt8) (h : D ≤ B.length) : (crB kp z D B).take D = B.take D := by
  have hk := keepN_le kp 0 B.length D h
  unfold crB turnB
  split
  · rw [List.take_set_of_le (by omega), List.take_take]
    congr 1
    omega
  · rw [List.take_take]
    congr 1
    omega
section
variable {W0 : World} {L : List HP}
theorem Crash_j1 {p : Nat} {d : DK} {file k z : Int} {B : List UInt8} {D : Nat} {kv : Value} {kp : List Int} (h : J1 d file k B D) (hkv : rd eI kv kp ∈ L) (hkl : kp.length ≤ 1000000000) (hkr : ∀ x ∈ kp, -9223372036854775808 ≤ x ∧ x ≤ 9223372036854775807) (hz1 : -9223372036854775808 ≤ z) (hz2 : z ≤ 9223372036854775807) :
    CT Tryz.prog 11 #[.pointer (some ⟨p, 0, none⟩), kv, .int .i64 z] W0 (dsk p d :: L) fun r L' => ∃ d', J1 d' file k (crB kp z D B) (crB kp z D B).length ∧ d'.off = false ∧ d'.armed = false ∧ d'.left = d.left ∧ r = .tuple #[] ∧ L' = dsk p d' :: L := by
  obtain ⟨hok, hone, hroom, hb, hdd⟩ := h
  obtain ⟨files, room, off, armed, left⟩ := d
  dsimp only at hone hroom hb hdd
  rcases hone with rfl | ⟨f, rfl⟩
  · have hB : [] = B := hb
    have hD0 : (0 : Int) = (D : Int) := hdd
    have hD : D = 0 := by omega
    subst hB hD
    rw [crB_nil]
    refine (Crash_none hkv hkl hz1 hz2).mono fun r L' hh => ?_
    obtain ⟨rfl, rfl⟩ := hh
    exact ⟨⟨[], room, false, false, left⟩, ⟨⟨hok.k, hok.r0, hok.r1, hok.u, hok.d0⟩, .inl rfl, hroom, rfl, rfl⟩, rfl, rfl, rfl, rfl, rfl⟩
  · rw [fileF_cons, if_pos rfl] at hb hdd
    have h0 := hok.d0 file
    dsimp only at h0
    rw [fileF_cons, if_pos rfl] at h0
    refine (Crash_one hok hkv hkl hkr hz1 hz2).mono fun r L' hh => ?_
    obtain ⟨y, rfl, rfl⟩ := hh
    rw [hb, hdd]
    simp only [Int.toNat_natCast]
    have hcl := crB_len kp z D B (by rw [hdd, hb] at h0; omega)
    have hu : ((f.b.length + 0 : Nat) : Int) ≤ room := hok.u
    generalize crB kp z D B = C at hcl ⊢
    have hr0 : (0 : Int) ≤ room := hok.r0
    have hr1 : room ≤ 16777216 := hok.r1
    have hfl : f.b.length = B.length := by rw [hb]
    refine ⟨⟨if C.length = 0 then [] else [(file, ⟨y, C, (C.length : Int)⟩)], room, false, false, left⟩, ?_, rfl, rfl, rfl, trivial, rfl⟩
    by_cases hc0 : C.length = 0
    · rw [if_pos hc0]
      have hce := List.length_eq_zero_iff.1 hc0
      subst hce
      exact ⟨⟨List.nodup_nil, hr0, hr1, hr0, fun n => ⟨Int.le_refl _, Int.le_refl _⟩⟩, .inl rfl, hroom, rfl, rfl⟩
    · rw [if_neg hc0]
      refine ⟨⟨hok.k, hr0, hr1, ?_, fun n => ?_⟩, .inr ⟨_, rfl⟩, hroom, by dsimp only; rw [fileF_cons, if_pos rfl], by dsimp only; rw [fileF_cons, if_pos rfl]⟩
      · show ((C.length + 0 : Nat) : Int) ≤ room
        omega
      · dsimp only
        rw [fileF_cons]
        split
        · exact ⟨by dsimp only; omega, Int.le_refl _⟩
        · exact ⟨Int.le_refl _, Int.le_refl _⟩
end
end Go.Proofs.YtbjaecofccpahaaGreat
namespace Go.Proofs.YtbjaecofccpahaaGreat
open Go Go.RowKit
set_option linter.unusedVariables false
set_option linter.unusedSimpArgs false
set_option maxRecDepth 20000
set_option synthInstance.maxSize 100000
set_option synthInstance.maxHeartbeats 400000
/-- the power is on, no failure is planned, file holds B, and all the bytes are U -/
structure JS (d : DK) (file : Int) (k : Int) (B : List UInt8) (U : Nat) : Prop where
  ok : DOk d
  on : d.off = false
  na : d.armed = false
  l0 : -1000000 ≤ d.left
  l1 : d.left ≤ 1000000
  room : d.room = k
  b : (fileF file d.files).b = B
  u : usedL d.files = U
theorem JS.begun {k : Int} (h1 : 0 ≤ k) (h2 : k ≤ 16777216) (file : Int) : JS ⟨[], k, false, false, 0⟩ file k [] 0 :=
  ⟨⟨List.nodup_nil, h1, h2, h1, fun n => ⟨Int.le_refl _, Int.le_refl _⟩⟩, rfl, rfl, by show (-1000000 : Int) ≤ 0; decide, by show (0 : Int) ≤ 1000000; decide, rfl, rfl, rfl⟩
theorem JS.sync {d : DK} {file k : Int} {B : List UInt8} {U : Nat} (h : JS d file k B U) : syncF d = ({ d with files := hardL d.files }, 0) ∧ JS { d with files := hardL d.files } file k B U := by
  refine ⟨?_, ⟨h.ok.hard, h.on, h.na, h.l0, h.l1, h.room, (fileF_hard d.files).1.trans h.b, (hard_used d.files).trans h.u⟩⟩
  unfold syncF
  rw [if_neg (by simp [h.on]), stepF_na h.na]
  rfl
theorem JS.opened {d : DK} {file k : Int} {B : List UInt8} {U : Nat} (h : JS d file k B U) (y : Value) : ∃ d', openF d file B.length y = (d', 0) ∧ JS d' file k B U := by
  obtain ⟨h1, h2⟩ := h.sync
  refine ⟨_, ?_, h2⟩
  unfold openF
  rw [h.b, if_neg (Nat.lt_irrefl _)]
  dsimp only
  rw [if_pos rfl, h1]
theorem JS.full {d : DK} {file k n : Int} {B b : List UInt8} {U : Nat} (h : JS d file k B U) (hf : 0 ≤ file ∧ file < 64) (hb : k - (U : Int) < (frameF n b).length) (y : Value) : logF ⟨file, n, false⟩ d b y = (⟨file, n, false⟩, d, 20) := by
  unfold logF
  rw [if_neg (by simp)]
  have e : appF d file (frameF n b) y = (d, 20) := by
    unfold appF
    rw [if_pos hf, if_neg (by simp [h.on]), h.room, h.u, if_pos hb]
  dsimp only
  rw [e]
  rfl
theorem JS.app {d : DK} {file k n : Int} {B b : List UInt8} {U : Nat} (h : JS d file k B U) (hf : 0 ≤ file ∧ file < 64) (hb : ((frameF n b).length : Int) ≤ k - (U : Int)) (y : Value) :
    ∃ d', logF ⟨file, n, false⟩ d b y = (⟨file, n + 1, false⟩, d', 0) ∧ JS d' file k (B ++ frameF n b) (U + (frameF n b).length) ∧ (∀ m, m ≠ file → (fileF m d'.files).b = (fileF m d.files).b) := by
  obtain ⟨x, hx⟩ : ∃ x : DF, (⟨y, (fileF file d.files).b ++ frameF n b, (fileF file d.files).d⟩ : DF) = x := ⟨_, rfl⟩
  have hxb : x.b = B ++ frameF n b := by rw [← hx, ← h.b]
  have ha : appF d file (frameF n b) y = ({ d with files := setF file x d.files }, 0) := by
    unfold appF
    rw [if_pos hf, if_neg (by simp [h.on]), h.room, h.u, if_neg (by omega), hx]
    dsimp only
    rw [stepF_na (by exact h.na)]
    rfl
  have hok := h.ok.app (n := file) (b := frameF n b) (y := y)
  rw [ha] at hok
  dsimp only at hok
  have hsu := set_used (n := file) (x := x) d.files
  have hj : JS { d with files := setF file x d.files } file k (B ++ frameF n b) (U + (frameF n b).length) :=
    ⟨hok, h.on, h.na, h.l0, h.l1, h.room, (fileF_set h.ok.k).1.trans hxb, by
      have := h.u
      have e1 := congrArg List.length h.b
      have e2 := congrArg List.length hxb
      rw [List.length_append] at e2
      dsimp only
      omega⟩
  obtain ⟨h1, h2⟩ := hj.sync
  refine ⟨_, ?_, h2, fun m hm => ?_⟩
  · unfold logF
    rw [if_neg (by simp)]
    dsimp only
    rw [ha]
    dsimp only
    rw [if_pos rfl, h1]
    rfl
  · show (fileF m (hardL (setF file x d.files))).b = _
    rw [(fileF_hard _).1, fileF_set_ne hm]
theorem scan_frames {xs : List (List UInt8)} (h : ∀ x ∈ xs, x.length ≤ 1000000) (hl : xs.length ≤ 1000000) : scanF (framesF 0 xs).length 0 (framesF 0 xs) = (xs, (framesF 0 xs).length) := by
  have := scanF_frames xs (framesF 0 xs).length 0 [] h (by decide) (by omega) (framesF_min xs 0)
  rw [List.append_nil, scanF_nil] at this
  rw [this, List.append_nil, Nat.add_zero]
section
variable {W0 : World} {L : List HP}
theorem fresh_ct {room : Int} (h1 : 0 ≤ room) (h2 : room ≤ 16777216) : CT Tryz.prog 5 #[.int .i64 room] W0 L fun r L' => ∃ p, r = .pointer (some ⟨p, 0, none⟩) ∧ L' = dsk p ⟨[], room, false, false, 0⟩ :: L := by
  refine CT_enter Tryz.func5 rfl ?_; (simp only [Tryz.ntmps5, List.size_toArray, List.length_cons, List.length_nil, Nat.reduceAdd, Nat.reduceSub, Array.replicate_succ, Array.replicate_zero, List.push_toArray, List.append_toArray, List.nil_append, List.cons_append])
  repeat' (first | refine go ?_ | intro _ | (apply cG; first | refine cT ?_ | refine cF ?_ | refine cS (fun _ => ?_) fun _ => ?_) | (apply gW; refine sW ?_) | (apply gI; refine sI ?_) | (apply gE; refine sE ?_) | (apply gP; refine sP ?_) | (apply gC; refine sC ?_) | (apply gD; refine sD ?_) | fail)
  refine O_d (dy_call ArgsI.pf (by first | exact rfl | trivial | (intro a b; rfl)) (dNew_ct h1 h2)) ?_; rintro _ _ ⟨_, ⟨p, rfl, rfl⟩, rfl⟩; refine O_n ?_
  repeat' (first | refine go ?_ | intro _ | (apply cG; first | refine cT ?_ | refine cF ?_ | refine cS (fun _ => ?_) fun _ => ?_) | (apply gW; refine sW ?_) | (apply gI; refine sI ?_) | (apply gE; refine sE ?_) | (apply gP; refine sP ?_) | (apply gC; refine sC ?_) | (apply gD; refine sD ?_) | fail)
  refine E_res1 (by rfl) (by rfl) ⟨p, rfl, rfl⟩ Sb
theorem Len_ct {q : Nat} {x0 : Value} {file n : Int} {down : Bool} : CT Tryz.prog 17 #[.pointer (some ⟨q, 0, none⟩)] W0 (cel q [x0, .int .i64 file, .int .i64 n, .bool down] 59 :: L) fun r L' => r = .int .i64 n ∧ L' = cel q [x0, .int .i64 file, .int .i64 n, .bool down] 59 :: L := by
  refine CT_enter Tryz.func17 rfl ?_; (simp only [Tryz.ntmps17, List.size_toArray, List.length_cons, List.length_nil, Nat.reduceAdd, Nat.reduceSub, Array.replicate_succ, Array.replicate_zero, List.push_toArray, List.append_toArray, List.nil_append, List.cons_append])
  repeat' (first | refine go ?_ | intro _ | (apply cG; first | refine cT ?_ | refine cF ?_ | refine cS (fun _ => ?_) fun _ => ?_) | (apply gW; refine sW ?_) | (apply gI; refine sI ?_) | (apply gE; refine sE ?_) | (apply gP; refine sP ?_) | (apply gC; refine sC ?_) | (apply gD; refine sD ?_) | fail)
  refine E_res1 (by rfl) (by rfl) ⟨rfl, rfl⟩ Sb
theorem Up_ct {q : Nat} {x0 : Value} {file n : Int} {down : Bool} : CT Tryz.prog 18 #[.pointer (some ⟨q, 0, none⟩)] W0 (cel q [x0, .int .i64 file, .int .i64 n, .bool down] 59 :: L) fun r L' => r = .bool (!down) ∧ L' = cel q [x0, .int .i64 file, .int .i64 n, .bool down] 59 :: L := by
  refine CT_enter Tryz.func18 rfl ?_; (simp only [Tryz.ntmps18, List.size_toArray, List.length_cons, List.length_nil, Nat.reduceAdd, Nat.reduceSub, Array.replicate_succ, Array.replicate_zero, List.push_toArray, List.append_toArray, List.nil_append, List.cons_append])
  cases down
  · repeat' (first | refine go ?_ | intro _ | (apply cG; first | refine cT ?_ | refine cF ?_ | refine cS (fun _ => ?_) fun _ => ?_) | (apply gW; refine sW ?_) | (apply gI; refine sI ?_) | (apply gE; refine sE ?_) | (apply gP; refine sP ?_) | (apply gC; refine sC ?_) | (apply gD; refine sD ?_) | fail)
    refine E_res1 (by rfl) (by rfl) ⟨rfl, rfl⟩ Sb
  · repeat' (first | refine go ?_ | intro _ | (apply cG; first | refine cT ?_ | refine cF ?_ | refine cS (fun _ => ?_) fun _ => ?_) | (apply gW; refine sW ?_) | (apply gI; refine sI ?_) | (apply gE; refine sE ?_) | (apply gP; refine sP ?_) | (apply gC; refine sC ?_) | (apply gD; refine sD ?_) | fail)
    refine E_res1 (by rfl) (by rfl) ⟨rfl, rfl⟩ Sb
theorem LApp_limit {q : Nat} {cs : List Value} {v : Value} {b : List UInt8} (hv : Src L eB v b) (hb : 65536 < b.length) (hb2 : b.length ≤ 1000000000) :
    CT Tryz.prog 15 #[.pointer (some ⟨q, 0, none⟩), v] W0 L fun r L' => r = .int .i64 4 ∧ L' = L := by
  have hv : Sc L v eB b := ⟨hv⟩
  refine CT_fact (fun w s => ((Sc.pf : Src _ eB v b).sl s).form) ?_
  rintro ⟨A0, c0, rfl, hc0⟩
  refine CT_enterD Tryz.func15 rfl ?_; (simp only [Tryz.ntmps15, List.size_toArray, List.length_cons, List.length_nil, Nat.reduceAdd, Nat.reduceSub, Array.replicate_succ, Array.replicate_zero, List.push_toArray, List.append_toArray, List.nil_append, List.cons_append])
  repeat' (first | refine go ?_ | intro _ | (apply cG; first | refine cT ?_ | refine cF ?_ | refine cS (fun _ => ?_) fun _ => ?_) | (apply gW; refine sW ?_) | (apply gI; refine sI ?_) | (apply gE; refine sE ?_) | (apply gP; refine sP ?_) | (apply gC; refine sC ?_) | (apply gD; refine sD ?_) | fail)
  exact E_cell0 rfl rfl rfl Ev.pf (.head _) rfl ⟨rfl, rfl⟩ Sb
theorem LApp_full {q p : Nat} {file k n : Int} {d : DK} {v : Value} {b B : List UInt8} {U : Nat} (hv : Src L eB v b) (hb : b.length ≤ 65536) (hn1 : 0 ≤ n) (hn2 : n ≤ 1000000000) (h : JS d file k B U) (hf : 0 ≤ file ∧ file < 64) (hbk : k - (U : Int) < (frameF n b).length) :
    CT Tryz.prog 15 #[.pointer (some ⟨q, 0, none⟩), v] W0 (cel q [.pointer (some ⟨p, 0, none⟩), .int .i64 file, .int .i64 n, .bool false] 59 :: dsk p d :: L) fun r L' => r = .int .i64 20 ∧ L' = cel q [.pointer (some ⟨p, 0, none⟩), .int .i64 file, .int .i64 n, .bool false] 59 :: dsk p d :: L := by
  have h0 := h.l0
  have h1 := h.l1
  refine (LApp_ct hv hb hn1 hn2 h.ok (by omega) (by omega)).mono fun r L' h2 => ?_
  obtain ⟨A, c, rfl, rfl⟩ := h2
  rw [h.full hf hbk]
  exact ⟨rfl, rfl⟩
theorem LApp_ok {q p : Nat} {file k n : Int} {d : DK} {v : Value} {b B : List UInt8} {U : Nat} (hv : Src L eB v b) (hb : b.length ≤ 65536) (hn1 : 0 ≤ n) (hn2 : n ≤ 1000000000) (h : JS d file k B U) (hf : 0 ≤ file ∧ file < 64) (hbk : ((frameF n b).length : Int) ≤ k - (U : Int)) :
    CT Tryz.prog 15 #[.pointer (some ⟨q, 0, none⟩), v] W0 (cel q [.pointer (some ⟨p, 0, none⟩), .int .i64 file, .int .i64 n, .bool false] 59 :: dsk p d :: L) fun r L' => ∃ d', JS d' file k (B ++ frameF n b) (U + (frameF n b).length) ∧ (∀ m, m ≠ file → (fileF m d'.files).b = (fileF m d.files).b) ∧ r = .int .i64 0 ∧ L' = cel q [.pointer (some ⟨p, 0, none⟩), .int .i64 file, .int .i64 (n + 1), .bool false] 59 :: dsk p d' :: L := by
  have h0 := h.l0
  have h1 := h.l1
  refine (LApp_ct hv hb hn1 hn2 h.ok (by omega) (by omega)).mono fun r L' h2 => ?_
  obtain ⟨A, c, rfl, rfl⟩ := h2
  obtain ⟨d', e, hj, ho⟩ := h.app hf hbk (.slice A ((fileF file d.files).b ++ frameF n b).length c)
  rw [e]
  exact ⟨d', hj, ho, rfl, rfl⟩
theorem Open_js {p : Nat} {d : DK} {file k : Int} {B : List UInt8} {U : Nat} {xs : List (List UInt8)} (h : JS d file k B U) (hf : 0 ≤ file ∧ file < 64) (hB : B.length ≤ 1000000) (hsc : scanF B.length 0 B = (xs, B.length)) (hxs : xs.length ≤ 1000000) :
    CT Tryz.prog 7 #[.pointer (some ⟨p, 0, none⟩), .int .i64 file] W0 (dsk p d :: L) fun r L' => ∃ d' q A3 c3, JS d' file k B U ∧ (∀ m, (fileF m d'.files).b = (fileF m d.files).b) ∧ r = .tuple #[.pointer (some ⟨q, 0, none⟩), .slice A3 xs.length c3, .int .i64 0] ∧
      L' = cel q [.pointer (some ⟨p, 0, none⟩), .int .i64 file, .int .i64 (xs.length : Int), .bool false] 59 :: own 39 (eSl eB) (.slice A3 xs.length c3) xs :: dsk p d' :: L := by
  have h0 := h.l0
  have h1 := h.l1
  refine (Open_ct (N := B.length) h.ok h.on hf (by rw [h.b]; exact hB) (by rw [h.b]; exact hsc) (by rw [h.b]; exact Nat.le_refl _) hxs (by omega) (by omega)).mono fun r L' h2 => ?_
  obtain ⟨A, c, h2⟩ := h2
  obtain ⟨hs1, hs2⟩ := h.sync
  have e : openF d file B.length (.slice A B.length c) = ({ d with files := hardL d.files }, 0) := by
    unfold openF
    rw [h.b, if_neg (Nat.lt_irrefl _)]
    dsimp only
    rw [if_pos rfl, hs1]
  rw [e] at h2
  rcases h2 with ⟨h3, _⟩ | ⟨_, q, A3, c3, rfl, rfl⟩
  · exact absurd rfl h3
  · exact ⟨_, q, A3, c3, hs2, fun m => (fileF_hard d.files).1, rfl, rfl⟩
end
end Go.Proofs.YtbjaecofccpahaaGreat
namespace Go.Proofs.YtbjaecofccpahaaGreat
open Go Go.RowKit
set_option linter.unusedVariables false
set_option linter.unusedSimpArgs false
theorem J1.js {d : DK} {file k : Int} {B : List UInt8} {D : Nat} (h : J1 d file k B D) (h1 : d.off = false) (h2 : d.armed = false) (h3 : -1000000 ≤ d.left) (h4 : d.left ≤ 1000000) : JS d file k B B.length :=
  ⟨h.ok, h1, h2, h3, h4, h.room, h.b, h.u⟩
/-- an Append that comes through, with a plan -/
theorem J1.app_ok {d : DK} {file k n : Int} {B b : List UInt8} {D : Nat} (h : J1 d file k B D) (hf : 0 ≤ file ∧ file < 64) (h1 : d.off = false) (h2 : d.armed = true) (h3 : 2 ≤ d.left) (hb : ((frameF n b).length : Int) ≤ k - (B.length : Int)) (y : Value) :
    ∃ d', logF ⟨file, n, false⟩ d b y = (⟨file, n + 1, false⟩, d', 0) ∧ J1 d' file k (B ++ frameF n b) (B ++ frameF n b).length ∧ d'.off = false ∧ d'.armed = true ∧ d'.left = d.left - 2 := by
  have hmin := frameF_min n b
  have hp := h.put hb (by omega) y
  obtain ⟨F2, hF2⟩ : ∃ F2, setF file ⟨y, (fileF file d.files).b ++ frameF n b, (fileF file d.files).d⟩ d.files = F2 := ⟨_, rfl⟩
  rw [hF2] at hp
  have hu := h.u
  have hr := h.room
  have ha : appF d file (frameF n b) y = ({ d with files := F2, left := d.left - 1 }, 0) := by
    unfold appF
    rw [if_pos hf, if_neg (by simp [h1]), if_neg (by omega), hF2]
    dsimp only
    rw [stepF_go (by exact h1) (by exact h2) (by dsimp only; omega)]
    rfl
  have hs : syncF { d with files := F2, left := d.left - 1 } = ({ d with files := hardL F2, left := d.left - 1 - 1 }, 0) := by
    unfold syncF
    rw [if_neg (by simp [h1]), stepF_go (by exact h1) (by exact h2) (by dsimp only; omega)]
    rfl
  have hp2 := hp.hard
  refine ⟨{ d with files := hardL F2, left := d.left - 1 - 1 }, ?_, ⟨⟨hp2.ok.k, hp2.ok.r0, hp2.ok.r1, hp2.ok.u, hp2.ok.d0⟩, hp2.one, hp2.room, hp2.b, hp2.dd⟩, h1, h2, by dsimp only; omega⟩
  unfold logF
  rw [if_neg (by simp)]
  dsimp only
  rw [ha]
  dsimp only
  rw [if_pos rfl, hs]
  rfl
/-- an Append in the middle of which the power fails -/
theorem J1.app_fail {d : DK} {file k n : Int} {B b : List UInt8} {D : Nat} (h : J1 d file k B D) (hf : 0 ≤ file ∧ file < 64) (h1 : d.off = false) (h2 : d.armed = true) (h3 : d.left < 2) (hb : ((frameF n b).length : Int) ≤ k - (B.length : Int)) (y : Value) :
    ∃ d', logF ⟨file, n, false⟩ d b y = (⟨file, n, true⟩, d', 21) ∧ J1 d' file k (B ++ frameF n b) D ∧ d'.off = true ∧ d.left - 2 ≤ d'.left ∧ d'.left ≤ d.left := by
  have hmin := frameF_min n b
  have hp := h.put hb (by omega) y
  obtain ⟨F2, hF2⟩ : ∃ F2, setF file ⟨y, (fileF file d.files).b ++ frameF n b, (fileF file d.files).d⟩ d.files = F2 := ⟨_, rfl⟩
  rw [hF2] at hp
  have hu := h.u
  have hr := h.room
  by_cases h4 : d.left < 1
  · have ha : appF d file (frameF n b) y = ({ d with files := F2, left := d.left - 1, off := true, armed := false }, 21) := by
      unfold appF
      rw [if_pos hf, if_neg (by simp [h1]), if_neg (by omega), hF2]
      dsimp only
      rw [stepF_stop (by exact h2) (by exact h4)]
      rfl
    refine ⟨{ d with files := F2, left := d.left - 1, off := true, armed := false }, ?_, ⟨⟨hp.ok.k, hp.ok.r0, hp.ok.r1, hp.ok.u, hp.ok.d0⟩, hp.one, hp.room, hp.b, hp.dd⟩, rfl, by dsimp only; omega, by dsimp only; omega⟩
    unfold logF
    rw [if_neg (by simp)]
    dsimp only
    rw [ha]
    rfl
  · have ha : appF d file (frameF n b) y = ({ d with files := F2, left := d.left - 1 }, 0) := by
      unfold appF
      rw [if_pos hf, if_neg (by simp [h1]), if_neg (by omega), hF2]
      dsimp only
      rw [stepF_go (by exact h1) (by exact h2) (by dsimp only; omega)]
      rfl
    have hs : syncF { d with files := F2, left := d.left - 1 } = ({ d with files := F2, left := d.left - 1 - 1, off := true, armed := false }, 21) := by
      unfold syncF
      rw [if_neg (by simp [h1]), stepF_stop (by exact h2) (by dsimp only; omega)]
      rfl
    refine ⟨{ d with files := F2, left := d.left - 1 - 1, off := true, armed := false }, ?_, ⟨⟨hp.ok.k, hp.ok.r0, hp.ok.r1, hp.ok.u, hp.ok.d0⟩, hp.one, hp.room, hp.b, hp.dd⟩, rfl, by dsimp only; omega, by dsimp only; omega⟩
    unfold logF
    rw [if_neg (by simp)]
    dsimp only
    rw [ha]
    dsimp only
    rw [if_pos rfl, hs]
    rfl
/-- what Open leaves of a file that was cut -/
theorem J1.cut {d : DK} {file k : Int} {B : List UInt8} {D : Nat} (h : J1 d file k B D) (h1 : d.off = false) (h2 : d.armed = false) {N : Nat} (hN : N ≤ B.length) (y : Value) : ∃ d', openF d file N y = (d', 0) ∧ J1 d' file k (B.take N) (B.take N).length ∧ d'.off = false ∧ d'.armed = false ∧ d'.left = d.left := by
  have hsy : ∀ d2 : DK, d2.off = false → d2.armed = false → syncF d2 = ({ d2 with files := hardL d2.files }, 0) := fun d2 e1 e2 => by
    unfold syncF
    rw [if_neg (by simp [e1]), stepF_na e2]
    rfl
  by_cases hlt : N < B.length
  · obtain ⟨x, hx⟩ : ∃ x : DF, (⟨y, (fileF file d.files).b.take N, min (fileF file d.files).d (N : Int)⟩ : DF) = x := ⟨_, rfl⟩
    have ht : truncF d file N y = ({ d with files := setF file x d.files }, 0) := by
      unfold truncF
      rw [if_neg (by simp [h1]), stepF_na h2]
      dsimp only
      rw [if_pos rfl, hx]
    have hok := h.ok.trunc (n := file) (N := N) (y := y) (by rw [h.b]; exact hN)
    rw [ht] at hok
    dsimp only at hok
    have hxb : x.b = B.take N := by rw [← hx, ← h.b]
    have h3 : J1 { d with files := setF file x d.files } file k (B.take N) ((fileF file (setF file x d.files)).d).toNat :=
      ⟨hok, h.one.set x, h.room, (fileF_set h.ok.k).1.trans hxb, by have := (hok.d0 file).1; dsimp only at this ⊢; omega⟩
    refine ⟨_, ?_, h3.hard, h1, h2, rfl⟩
    unfold openF
    rw [h.b, if_pos hlt, ht]
    dsimp only
    rw [if_pos rfl, hsy _ (by exact h1) (by exact h2)]
  · have hNe : B.take N = B := List.take_of_length_le (by omega)
    rw [hNe]
    refine ⟨_, ?_, h.hard, h1, h2, rfl⟩
    unfold openF
    rw [h.b, if_neg hlt]
    dsimp only
    rw [if_pos rfl, hsy _ h1 h2]
end Go.Proofs.YtbjaecofccpahaaGreat
namespace Go.Proofs.YtbjaecofccpahaaGreat
open Go Go.RowKit
set_option linter.unusedVariables false
set_option linter.unusedSimpArgs false
/-- an Append without a plan -/
theorem J1.app_na {d : DK} {file k n : Int} {B b : List UInt8} {D : Nat} (h : J1 d file k B D) (hf : 0 ≤ file ∧ file < 64) (h1 : d.off = false) (h2 : d.armed = false) (hb : ((frameF n b).length : Int) ≤ k - (B.length : Int)) (y : Value) :
    ∃ d', logF ⟨file, n, false⟩ d b y = (⟨file, n + 1, false⟩, d', 0) ∧ J1 d' file k (B ++ frameF n b) (B ++ frameF n b).length ∧ d'.off = false ∧ d'.armed = false ∧ d'.left = d.left := by
  have hmin := frameF_min n b
  have hp := h.put hb (by omega) y
  obtain ⟨F2, hF2⟩ : ∃ F2, setF file ⟨y, (fileF file d.files).b ++ frameF n b, (fileF file d.files).d⟩ d.files = F2 := ⟨_, rfl⟩
  rw [hF2] at hp
  have hu := h.u
  have hr := h.room
  have ha : appF d file (frameF n b) y = ({ d with files := F2 }, 0) := by
    unfold appF
    rw [if_pos hf, if_neg (by simp [h1]), if_neg (by omega), hF2]
    dsimp only
    rw [stepF_na (by exact h2)]
    rfl
  have hs : syncF { d with files := F2 } = ({ d with files := hardL F2 }, 0) := by
    unfold syncF
    rw [if_neg (by simp [h1]), stepF_na (by exact h2)]
    rfl
  have hp2 := hp.hard
  refine ⟨{ d with files := hardL F2 }, ?_, ⟨⟨hp2.ok.k, hp2.ok.r0, hp2.ok.r1, hp2.ok.u, hp2.ok.d0⟩, hp2.one, hp2.room, hp2.b, hp2.dd⟩, h1, h2, rfl⟩
  unfold logF
  rw [if_neg (by simp)]
  dsimp only
  rw [ha]
  dsimp only
  rw [if_pos rfl, hs]
  rfl
/-- what Scan takes is made of the frames of the records that it finds -/
theorem scanF_take : ∀ (n : Nat) (i : Int) (b : List UInt8), b.take (scanF n i b).2 = framesF i (scanF n i b).1 ∧ (scanF n i b).2 ≤ b.length ∧ (scanF n i b).1.length ≤ n
  | 0, i, b => ⟨rfl, Nat.zero_le _, Nat.le_refl _⟩
  | n + 1, i, b => by
    by_cases hb : b = []
    · subst hb
      rw [scanF_nil]
      exact ⟨rfl, Nat.le_refl _, Nat.zero_le _⟩
    · by_cases h : isF i b = true
      · obtain ⟨t, ht⟩ := isF_iff.1 h
        obtain ⟨F, hF⟩ : ∃ F, frameF i (recF b) = F := ⟨_, rfl⟩
        rw [hF] at ht
        have hd : b.drop F.length = t := by rw [← ht, List.drop_left]
        obtain ⟨h1, h2, h3⟩ := scanF_take n (i + 1) t
        rw [scanF_yes hb h, hF, hd]
        obtain ⟨gs, N, hg⟩ : ∃ gs N, scanF n (i + 1) t = (gs, N) := ⟨_, _, rfl⟩
        rw [hg] at h1 h2 h3
        rw [hg]
        dsimp only at h1 h2 h3 ⊢
        have hl := congrArg List.length ht
        rw [List.length_append] at hl
        refine ⟨?_, by omega, by rw [List.length_cons]; omega⟩
        show b.take (F.length + N) = frameF i (recF b) ++ framesF (i + 1) gs
        rw [hF, ← ht, List.take_append, List.take_of_length_le (by omega), ← h1]
        congr 2
        omega
      · rw [Bool.not_eq_true] at h
        rw [scanF_no h]
        exact ⟨rfl, Nat.zero_le _, Nat.zero_le _⟩
/-- a frame's beginning alone is no frame -/
theorem isF_pre {i : Int} {x : List UInt8} {m : Nat} (h1 : -9223372036854775808 ≤ i) (h2 : i ≤ 9223372036854775807) (hx : x.length ≤ 1000000) (hm : m < (frameF i x).length) : isF i ((frameF i x).take m) = false := by
  rw [← Bool.not_eq_true]
  intro h
  obtain ⟨t, ht⟩ := isF_iff.1 h
  have hfl := frameF_len (i := i) (x := x) h1 h2 (by omega)
  have hrl := recF_len ((frameF i x).take m)
  rw [List.length_take] at hrl
  have e1 := recF_frame (i := i) (x := recF ((frameF i x).take m)) (t := t ++ (frameF i x).drop m) h1 h2 (by omega)
  rw [← List.append_assoc, ht, List.take_append_drop] at e1
  have e2 := recF_frame (i := i) (x := x) (t := []) h1 h2 (by omega)
  rw [List.append_nil] at e2
  have e3 : recF ((frameF i x).take m) = x := e1.symm.trans e2
  have e4 := congrArg List.length ht
  rw [e3, List.length_append, List.length_take] at e4
  omega
/-- frames, then the beginning of one more -/
theorem scan_cut {xs : List (List UInt8)} {x : List UInt8} {m : Nat} (h : ∀ y ∈ xs, y.length ≤ 1000000) (hx : x.length ≤ 1000000) (hl : xs.length ≤ 100000) :
    ∃ g, (g = xs.length ∨ g = xs.length + 1) ∧ scanF (framesF 0 xs ++ (frameF (xs.length : Int) x).take m).length 0 (framesF 0 xs ++ (frameF (xs.length : Int) x).take m) = ((xs ++ [x]).take g, (framesF 0 ((xs ++ [x]).take g)).length) ∧
      (framesF 0 xs ++ (frameF (xs.length : Int) x).take m).take (framesF 0 ((xs ++ [x]).take g)).length = framesF 0 ((xs ++ [x]).take g) := by
  by_cases hm : m < (frameF (xs.length : Int) x).length
  · have e0 : (xs ++ [x]).take xs.length = xs := List.take_left
    refine ⟨xs.length, .inl rfl, ?_, ?_⟩
    · rw [e0]
      have hlen : xs.length ≤ (framesF 0 xs ++ (frameF (xs.length : Int) x).take m).length := by
        have := framesF_min xs 0
        rw [List.length_append]
        omega
      have := scanF_frames xs (framesF 0 xs ++ (frameF (xs.length : Int) x).take m).length 0 ((frameF (xs.length : Int) x).take m) h (by decide) (by omega) hlen
      have hs := isF_pre (i := (xs.length : Int)) (x := x) (m := m) (by omega) (by omega) hx hm
      have hno : scanF ((framesF 0 xs ++ (frameF (xs.length : Int) x).take m).length - xs.length) (0 + (xs.length : Int)) ((frameF (xs.length : Int) x).take m) = ([], 0) := by
        rw [Int.zero_add]
        generalize (framesF 0 xs ++ (frameF (xs.length : Int) x).take m).length - xs.length = q
        cases q with
        | zero => rfl
        | succ q => exact scanF_no hs
      rw [this, hno, List.append_nil, Nat.add_zero]
    · rw [e0, List.take_left]
  · have e0 : (xs ++ [x]).take (xs.length + 1) = xs ++ [x] := List.take_of_length_le (by rw [List.length_append]; exact Nat.le_refl _)
    have e1 : framesF 0 xs ++ (frameF (xs.length : Int) x).take m = framesF 0 (xs ++ [x]) := by
      rw [framesF_snoc, Int.zero_add, List.take_of_length_le (Nat.le_of_not_lt hm)]
    refine ⟨xs.length + 1, .inr rfl, ?_, ?_⟩
    · rw [e0, e1]
      refine scan_frames (fun y hy => ?_) (by rw [List.length_append, List.length_singleton]; omega)
      rcases List.mem_append.1 hy with hy | hy
      · exact h y hy
      · simp only [List.mem_cons, List.not_mem_nil, or_false] at hy
        subst hy
        exact hx
    · rw [e0, e1, List.take_length]
/-- a crash that turns no bit leaves a beginning -/
theorem crB_pre (kp : List Int) (D : Nat) (B : List UInt8) (h : D ≤ B.length) : ∃ M, D ≤ M ∧ M ≤ B.length ∧ crB kp (-1) D B = B.take M := by
  have := keepN_le kp 0 B.length D h
  refine ⟨D + keepN kp 0 B.length D, by omega, this, ?_⟩
  unfold crB turnB
  rw [if_neg (by omega)]
section
variable {W0 : World} {L : List HP}
theorem LApp_go1 {q p : Nat} {file k n : Int} {d : DK} {v : Value} {b B : List UInt8} {D : Nat} (hv : Src L eB v b) (hb : b.length ≤ 65536) (hn1 : 0 ≤ n) (hn2 : n ≤ 1000000000) (h : J1 d file k B D) (hf : 0 ≤ file ∧ file < 64) (ho : d.off = false) (ha : d.armed = false) (h0 : -1000000 ≤ d.left) (h1 : d.left ≤ 1000000) (hbk : ((frameF n b).length : Int) ≤ k - (B.length : Int)) :
    CT Tryz.prog 15 #[.pointer (some ⟨q, 0, none⟩), v] W0 (cel q [.pointer (some ⟨p, 0, none⟩), .int .i64 file, .int .i64 n, .bool false] 59 :: dsk p d :: L) fun r L' => ∃ d', J1 d' file k (B ++ frameF n b) (B ++ frameF n b).length ∧ d'.off = false ∧ d'.armed = false ∧ d'.left = d.left ∧ r = .int .i64 0 ∧ L' = cel q [.pointer (some ⟨p, 0, none⟩), .int .i64 file, .int .i64 (n + 1), .bool false] 59 :: dsk p d' :: L := by
  refine (LApp_ct hv hb hn1 hn2 h.ok (by omega) (by omega)).mono fun r L' h2 => ?_
  obtain ⟨A, c, rfl, rfl⟩ := h2
  obtain ⟨d', e, hj, e1, e2, e3⟩ := h.app_na hf ho ha hbk (.slice A ((fileF file d.files).b ++ frameF n b).length c)
  rw [e]
  exact ⟨d', hj, e1, e2, e3, rfl, rfl⟩
theorem LApp_go2 {q p : Nat} {file k n : Int} {d : DK} {v : Value} {b B : List UInt8} {D : Nat} (hv : Src L eB v b) (hb : b.length ≤ 65536) (hn1 : 0 ≤ n) (hn2 : n ≤ 1000000000) (h : J1 d file k B D) (hf : 0 ≤ file ∧ file < 64) (ho : d.off = false) (ha : d.armed = true) (h0 : 2 ≤ d.left) (h1 : d.left ≤ 1000000) (hbk : ((frameF n b).length : Int) ≤ k - (B.length : Int)) :
    CT Tryz.prog 15 #[.pointer (some ⟨q, 0, none⟩), v] W0 (cel q [.pointer (some ⟨p, 0, none⟩), .int .i64 file, .int .i64 n, .bool false] 59 :: dsk p d :: L) fun r L' => ∃ d', J1 d' file k (B ++ frameF n b) (B ++ frameF n b).length ∧ d'.off = false ∧ d'.armed = true ∧ d'.left = d.left - 2 ∧ r = .int .i64 0 ∧ L' = cel q [.pointer (some ⟨p, 0, none⟩), .int .i64 file, .int .i64 (n + 1), .bool false] 59 :: dsk p d' :: L := by
  refine (LApp_ct hv hb hn1 hn2 h.ok (by omega) (by omega)).mono fun r L' h2 => ?_
  obtain ⟨A, c, rfl, rfl⟩ := h2
  obtain ⟨d', e, hj, e1, e2, e3⟩ := h.app_ok hf ho ha h0 hbk (.slice A ((fileF file d.files).b ++ frameF n b).length c)
  rw [e]
  exact ⟨d', hj, e1, e2, e3, rfl, rfl⟩
theorem LApp_fail {q p : Nat} {file k n : Int} {d : DK} {v : Value} {b B : List UInt8} {D : Nat} (hv : Src L eB v b) (hb : b.length ≤ 65536) (hn1 : 0 ≤ n) (hn2 : n ≤ 1000000000) (h : J1 d file k B D) (hf : 0 ≤ file ∧ file < 64) (ho : d.off = false) (ha : d.armed = true) (h0 : d.left < 2) (h1 : -1000000 ≤ d.left) (hbk : ((frameF n b).length : Int) ≤ k - (B.length : Int)) :
    CT Tryz.prog 15 #[.pointer (some ⟨q, 0, none⟩), v] W0 (cel q [.pointer (some ⟨p, 0, none⟩), .int .i64 file, .int .i64 n, .bool false] 59 :: dsk p d :: L) fun r L' => ∃ d', J1 d' file k (B ++ frameF n b) D ∧ d'.off = true ∧ d.left - 2 ≤ d'.left ∧ d'.left ≤ d.left ∧ r = .int .i64 21 ∧ L' = cel q [.pointer (some ⟨p, 0, none⟩), .int .i64 file, .int .i64 n, .bool true] 59 :: dsk p d' :: L := by
  refine (LApp_ct hv hb hn1 hn2 h.ok (by omega) (by omega)).mono fun r L' h2 => ?_
  obtain ⟨A, c, rfl, rfl⟩ := h2
  obtain ⟨d', e, hj, e1, e2, e3⟩ := h.app_fail hf ho ha h0 hbk (.slice A ((fileF file d.files).b ++ frameF n b).length c)
  rw [e]
  exact ⟨d', hj, e1, e2, e3, rfl, rfl⟩
theorem LApp_down {q p : Nat} {file n : Int} {d : DK} {v : Value} {b : List UInt8} (hv : Src L eB v b) (hb : b.length ≤ 65536) (hn1 : 0 ≤ n) (hn2 : n ≤ 1000000000) (h : DOk d) (h0 : -1000000 ≤ d.left) (h1 : d.left ≤ 1000000) :
    CT Tryz.prog 15 #[.pointer (some ⟨q, 0, none⟩), v] W0 (cel q [.pointer (some ⟨p, 0, none⟩), .int .i64 file, .int .i64 n, .bool true] 59 :: dsk p d :: L) fun r L' => r = .int .i64 21 ∧ L' = cel q [.pointer (some ⟨p, 0, none⟩), .int .i64 file, .int .i64 n, .bool true] 59 :: dsk p d :: L := by
  refine (LApp_ct hv hb hn1 hn2 h (by omega) (by omega)).mono fun r L' h2 => ?_
  obtain ⟨A, c, rfl, rfl⟩ := h2
  exact ⟨rfl, rfl⟩
theorem Open_cut {p : Nat} {d : DK} {file k : Int} {B : List UInt8} {D N : Nat} {xs : List (List UInt8)} (h : J1 d file k B D) (ho : d.off = false) (ha : d.armed = false) (h0 : -1000000 ≤ d.left) (h1 : d.left ≤ 1000000) (hf : 0 ≤ file ∧ file < 64) (hB : B.length ≤ 1000000) (hsc : scanF B.length 0 B = (xs, N)) :
    CT Tryz.prog 7 #[.pointer (some ⟨p, 0, none⟩), .int .i64 file] W0 (dsk p d :: L) fun r L' => ∃ d' q A3 c3, J1 d' file k (B.take N) (B.take N).length ∧ d'.off = false ∧ d'.armed = false ∧ d'.left = d.left ∧ r = .tuple #[.pointer (some ⟨q, 0, none⟩), .slice A3 xs.length c3, .int .i64 0] ∧
      L' = cel q [.pointer (some ⟨p, 0, none⟩), .int .i64 file, .int .i64 (xs.length : Int), .bool false] 59 :: own 39 (eSl eB) (.slice A3 xs.length c3) xs :: dsk p d' :: L := by
  have hst := scanF_take B.length 0 B
  rw [hsc] at hst
  dsimp only at hst
  obtain ⟨_, hN, hxl⟩ := hst
  refine (Open_ct (N := N) (xs := xs) h.ok ho hf (by rw [h.b]; exact hB) (by rw [h.b]; exact hsc) (by rw [h.b]; exact hN) (by omega) (by omega) (by omega)).mono fun r L' h2 => ?_
  obtain ⟨A, c, h2⟩ := h2
  obtain ⟨d', e, hj, e1, e2, e3⟩ := h.cut ho ha hN (.slice A N c)
  rw [e] at h2
  rcases h2 with ⟨h3, _⟩ | ⟨_, q, A3, c3, rfl, rfl⟩
  · exact absurd rfl h3
  · exact ⟨d', q, A3, c3, hj, e1, e2, e3, rfl, rfl⟩
end
end Go.Proofs.YtbjaecofccpahaaGreat
