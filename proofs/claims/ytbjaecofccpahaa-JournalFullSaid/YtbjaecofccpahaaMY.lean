/-
  Disk with one file: states with a plan, Crash.
-/
import Derived.Test.YtbjaecofccpahaaMX
import Derived.Test.YtbjaecofccpahaaMU
import Derived.Test.YtbjaecofccpahaaMV
import Derived.Test.YtbjaecofccpahaaMC
namespace Go.Proofs.Ytbjaecofccpahaa
open Go Go.RowKit
set_option linter.unusedVariables false
set_option linter.unusedSimpArgs false
theorem stepF_na {d : DK} (h : d.armed = false) : stepF d = (d, true) := by unfold stepF; rw [if_neg (by simp [h])]
/-- no file, or this one alone -/
def OneF (file : Int) (l : List (Int × DF)) : Prop := l = [] ∨ ∃ f, l = [(file, f)]
theorem OneF.set {file : Int} {l : List (Int × DF)} (h : OneF file l) (x : DF) : OneF file (setF file x l) := by
  rcases h with rfl | ⟨f, rfl⟩
  · have e : setF file x [] = if x.b.length = 0 then [] else [(file, x)] := by
      unfold setF
      have e1 : putM file x [] = [(file, x)] := rfl
      rw [e1, delM_cons, if_pos rfl]
    rw [e]
    split
    · exact .inl rfl
    · exact .inr ⟨x, rfl⟩
  · rw [set_one]
    split
    · exact .inl rfl
    · exact .inr ⟨x, rfl⟩
theorem OneF.hard {file : Int} {l : List (Int × DF)} (h : OneF file l) : OneF file (hardL l) := by
  rcases h with rfl | ⟨f, rfl⟩
  · exact .inl rfl
  · exact .inr ⟨_, rfl⟩
theorem OneF.used {file : Int} {l : List (Int × DF)} (h : OneF file l) : usedL l = (fileF file l).b.length := by
  rcases h with rfl | ⟨f, rfl⟩
  · rfl
  · rw [fileF_cons, if_pos rfl]
    rfl
/-- file alone holds B, of which D bytes are durable -/
structure J1 (d : DK) (file : Int) (k : Int) (B : List UInt8) (D : Nat) : Prop where
  ok : DOk d
  one : OneF file d.files
  room : d.room = k
  b : (fileF file d.files).b = B
  dd : (fileF file d.files).d = D
theorem J1.u {d : DK} {file k : Int} {B : List UInt8} {D : Nat} (h : J1 d file k B D) : usedL d.files = B.length := by rw [h.one.used, h.b]
theorem J1.dl {d : DK} {file k : Int} {B : List UInt8} {D : Nat} (h : J1 d file k B D) : D ≤ B.length := by
  have := h.ok.d0 file
  rw [h.b, h.dd] at this
  omega
theorem J1.any {files : List (Int × DF)} {room left left' : Int} {off armed off' armed' : Bool} {file k : Int} {B : List UInt8} {D : Nat} (h : J1 ⟨files, room, off, armed, left⟩ file k B D) : J1 ⟨files, room, off', armed', left'⟩ file k B D :=
  ⟨⟨h.ok.k, h.ok.r0, h.ok.r1, h.ok.u, h.ok.d0⟩, h.one, h.room, h.b, h.dd⟩
theorem J1.begun {k : Int} (h1 : 0 ≤ k) (h2 : k ≤ 16777216) (file : Int) : J1 ⟨[], k, false, false, 0⟩ file k [] 0 := ⟨⟨List.nodup_nil, h1, h2, h1, fun n => ⟨Int.le_refl _, Int.le_refl _⟩⟩, .inl rfl, rfl, rfl, rfl⟩
theorem J1.hard {d : DK} {file k : Int} {B : List UInt8} {D : Nat} (h : J1 d file k B D) : J1 { d with files := hardL d.files } file k B B.length :=
  ⟨h.ok.hard, h.one.hard, h.room, (fileF_hard d.files).1.trans h.b, by rw [(fileF_hard d.files).2, h.b]⟩
theorem J1.put {d : DK} {file k : Int} {B b : List UInt8} {D : Nat} (h : J1 d file k B D) (hb : ((b.length : Nat) : Int) ≤ k - (B.length : Int)) (h0 : 0 < b.length) (y : Value) : J1 { d with files := setF file ⟨y, (fileF file d.files).b ++ b, (fileF file d.files).d⟩ d.files } file k (B ++ b) D := by
  have hu := h.u
  have hr := h.room
  have hd := h.ok.d0 file
  have hbl : (fileF file d.files).b.length = B.length := by rw [h.b]
  refine ⟨h.ok.set ?_ ?_, h.one.set _, h.room, (fileF_set h.ok.k).1.trans (by dsimp only; rw [h.b]), ?_⟩
  · dsimp only
    rw [List.length_append]
    push_cast
    omega
  · dsimp only
    rw [List.length_append]
    push_cast
    omega
  · rw [(fileF_set h.ok.k).2, if_neg (by dsimp only; rw [List.length_append]; omega)]
    exact h.dd
/-- a step with a plan -/
theorem stepF_go {d : DK} (h1 : d.off = false) (h2 : d.armed = true) (h3 : 1 ≤ d.left) : stepF d = ({ d with left := d.left - 1 }, true) := by
  unfold stepF
  rw [if_pos h2, if_neg (by omega), h1]
  rfl
theorem stepF_stop {d : DK} (h2 : d.armed = true) (h3 : d.left < 1) : stepF d = ({ d with left := d.left - 1, off := true, armed := false }, false) := by
  unfold stepF
  rw [if_pos h2, if_pos (by omega)]
theorem crB_nil (kp : List Int) (z : Int) : crB kp z 0 [] = [] := by
  have : ∀ m, turnB z 0 m [] = [] := fun m => List.length_eq_zero_iff.1 (by rw [turnB_len]; rfl)
  unfold crB
  rw [List.take_nil]
  exact this _
theorem crB_len (kp : List Int) (z : Int) (D : Nat) (B : List UInt8) (h : D ≤ B.length) : (crB kp z D B).length = D + keepN kp 0 B.length D ∧ D + keepN kp 0 B.length D ≤ B.length := by
  have := keepN_le kp 0 B.length D h
  unfold crB
  rw [turnB_len, List.length_take]
  exact ⟨by omega, this⟩
/-- the durable bytes stay -/
theorem crB_firm (kp : List Int) (z : Int) (D : Nat) (B : List UInt8) (h : D ≤ B.length) : (crB kp z D B).take D = B.take D := by
  have hk := keepN_le kp 0 B.length D h
  unfold crB turnB
  split
  · rw [List.take_set_of_le (by omega), List.take_take]
    congr 1
    omega
  · rw [List.take_take]
    congr 1
    omega
section
variable {W0 : World} {L : List HP}
theorem Crash_j1 {p : Nat} {d : DK} {file k z : Int} {B : List UInt8} {D : Nat} {kv : Value} {kp : List Int} (h : J1 d file k B D) (hkv : rd eI kv kp ∈ L) (hkl : kp.length ≤ 1000000000) (hkr : ∀ x ∈ kp, -9223372036854775808 ≤ x ∧ x ≤ 9223372036854775807) (hz1 : -9223372036854775808 ≤ z) (hz2 : z ≤ 9223372036854775807) :
    CT Try.prog 18 #[.pointer (some ⟨p, 0, none⟩), kv, .int .i64 z] W0 (dsk p d :: L) fun r L' => ∃ d', J1 d' file k (crB kp z D B) (crB kp z D B).length ∧ d'.off = false ∧ d'.armed = false ∧ d'.left = d.left ∧ r = .tuple #[] ∧ L' = dsk p d' :: L := by
  obtain ⟨hok, hone, hroom, hb, hdd⟩ := h
  obtain ⟨files, room, off, armed, left⟩ := d
  dsimp only at hone hroom hb hdd
  rcases hone with rfl | ⟨f, rfl⟩
  · have hB : [] = B := hb
    have hD0 : (0 : Int) = (D : Int) := hdd
    have hD : D = 0 := by omega
    subst hB hD
    rw [crB_nil]
    refine (Crash_none hkv hkl hz1 hz2).mono fun r L' hh => ?_
    obtain ⟨rfl, rfl⟩ := hh
    exact ⟨⟨[], room, false, false, left⟩, ⟨⟨hok.k, hok.r0, hok.r1, hok.u, hok.d0⟩, .inl rfl, hroom, rfl, rfl⟩, rfl, rfl, rfl, rfl, rfl⟩
  · rw [fileF_cons, if_pos rfl] at hb hdd
    have h0 := hok.d0 file
    dsimp only at h0
    rw [fileF_cons, if_pos rfl] at h0
    refine (Crash_one hok hkv hkl hkr hz1 hz2).mono fun r L' hh => ?_
    obtain ⟨y, rfl, rfl⟩ := hh
    rw [hb, hdd]
    simp only [Int.toNat_natCast]
    have hcl := crB_len kp z D B (by rw [hdd, hb] at h0; omega)
    have hu : ((f.b.length + 0 : Nat) : Int) ≤ room := hok.u
    generalize crB kp z D B = C at hcl ⊢
    have hr0 : (0 : Int) ≤ room := hok.r0
    have hr1 : room ≤ 16777216 := hok.r1
    have hfl : f.b.length = B.length := by rw [hb]
    refine ⟨⟨if C.length = 0 then [] else [(file, ⟨y, C, (C.length : Int)⟩)], room, false, false, left⟩, ?_, rfl, rfl, rfl, trivial, rfl⟩
    by_cases hc0 : C.length = 0
    · rw [if_pos hc0]
      have hce := List.length_eq_zero_iff.1 hc0
      subst hce
      exact ⟨⟨List.nodup_nil, hr0, hr1, hr0, fun n => ⟨Int.le_refl _, Int.le_refl _⟩⟩, .inl rfl, hroom, rfl, rfl⟩
    · rw [if_neg hc0]
      refine ⟨⟨hok.k, hr0, hr1, ?_, fun n => ?_⟩, .inr ⟨_, rfl⟩, hroom, by dsimp only; rw [fileF_cons, if_pos rfl], by dsimp only; rw [fileF_cons, if_pos rfl]⟩
      · show ((C.length + 0 : Nat) : Int) ≤ room
        omega
      · dsimp only
        rw [fileF_cons]
        split
        · exact ⟨by dsimp only; omega, Int.le_refl _⟩
        · exact ⟨Int.le_refl _, Int.le_refl _⟩
end
end Go.Proofs.Ytbjaecofccpahaa
namespace Go.Proofs.Ytbjaecofccpahaa
open Go Go.RowKit
set_option linter.unusedVariables false
set_option linter.unusedSimpArgs false
set_option maxRecDepth 20000
set_option synthInstance.maxSize 100000
set_option synthInstance.maxHeartbeats 400000
/-- the power is on, no failure is planned, file holds B, and all the bytes are U -/
structure JS (d : DK) (file : Int) (k : Int) (B : List UInt8) (U : Nat) : Prop where
  ok : DOk d
  on : d.off = false
  na : d.armed = false
  l0 : -1000000 ≤ d.left
  l1 : d.left ≤ 1000000
  room : d.room = k
  b : (fileF file d.files).b = B
  u : usedL d.files = U
theorem JS.begun {k : Int} (h1 : 0 ≤ k) (h2 : k ≤ 16777216) (file : Int) : JS ⟨[], k, false, false, 0⟩ file k [] 0 :=
  ⟨⟨List.nodup_nil, h1, h2, h1, fun n => ⟨Int.le_refl _, Int.le_refl _⟩⟩, rfl, rfl, by show (-1000000 : Int) ≤ 0; decide, by show (0 : Int) ≤ 1000000; decide, rfl, rfl, rfl⟩
theorem JS.sync {d : DK} {file k : Int} {B : List UInt8} {U : Nat} (h : JS d file k B U) : syncF d = ({ d with files := hardL d.files }, 0) ∧ JS { d with files := hardL d.files } file k B U := by
  refine ⟨?_, ⟨h.ok.hard, h.on, h.na, h.l0, h.l1, h.room, (fileF_hard d.files).1.trans h.b, (hard_used d.files).trans h.u⟩⟩
  unfold syncF
  rw [if_neg (by simp [h.on]), stepF_na h.na]
  rfl
theorem JS.opened {d : DK} {file k : Int} {B : List UInt8} {U : Nat} (h : JS d file k B U) (y : Value) : ∃ d', openF d file B.length y = (d', 0) ∧ JS d' file k B U := by
  obtain ⟨h1, h2⟩ := h.sync
  refine ⟨_, ?_, h2⟩
  unfold openF
  rw [h.b, if_neg (Nat.lt_irrefl _)]
  dsimp only
  rw [if_pos rfl, h1]
theorem JS.full {d : DK} {file k n : Int} {B b : List UInt8} {U : Nat} (h : JS d file k B U) (hf : 0 ≤ file ∧ file < 64) (hb : k - (U : Int) < (frameF n b).length) (y : Value) : logF ⟨file, n, false⟩ d b y = (⟨file, n, false⟩, d, 20) := by
  unfold logF
  rw [if_neg (by simp)]
  have e : appF d file (frameF n b) y = (d, 20) := by
    unfold appF
    rw [if_pos hf, if_neg (by simp [h.on]), h.room, h.u, if_pos hb]
  dsimp only
  rw [e]
  rfl
theorem JS.app {d : DK} {file k n : Int} {B b : List UInt8} {U : Nat} (h : JS d file k B U) (hf : 0 ≤ file ∧ file < 64) (hb : ((frameF n b).length : Int) ≤ k - (U : Int)) (y : Value) :
    ∃ d', logF ⟨file, n, false⟩ d b y = (⟨file, n + 1, false⟩, d', 0) ∧ JS d' file k (B ++ frameF n b) (U + (frameF n b).length) ∧ (∀ m, m ≠ file → (fileF m d'.files).b = (fileF m d.files).b) := by
  obtain ⟨x, hx⟩ : ∃ x : DF, (⟨y, (fileF file d.files).b ++ frameF n b, (fileF file d.files).d⟩ : DF) = x := ⟨_, rfl⟩
  have hxb : x.b = B ++ frameF n b := by rw [← hx, ← h.b]
  have ha : appF d file (frameF n b) y = ({ d with files := setF file x d.files }, 0) := by
    unfold appF
    rw [if_pos hf, if_neg (by simp [h.on]), h.room, h.u, if_neg (by omega), hx]
    dsimp only
    rw [stepF_na (by exact h.na)]
    rfl
  have hok := h.ok.app (n := file) (b := frameF n b) (y := y)
  rw [ha] at hok
  dsimp only at hok
  have hsu := set_used (n := file) (x := x) d.files
  have hj : JS { d with files := setF file x d.files } file k (B ++ frameF n b) (U + (frameF n b).length) :=
    ⟨hok, h.on, h.na, h.l0, h.l1, h.room, (fileF_set h.ok.k).1.trans hxb, by
      have := h.u
      have e1 := congrArg List.length h.b
      have e2 := congrArg List.length hxb
      rw [List.length_append] at e2
      dsimp only
      omega⟩
  obtain ⟨h1, h2⟩ := hj.sync
  refine ⟨_, ?_, h2, fun m hm => ?_⟩
  · unfold logF
    rw [if_neg (by simp)]
    dsimp only
    rw [ha]
    dsimp only
    rw [if_pos rfl, h1]
    rfl
  · show (fileF m (hardL (setF file x d.files))).b = _
    rw [(fileF_hard _).1, fileF_set_ne hm]
theorem scan_frames {xs : List (List UInt8)} (h : ∀ x ∈ xs, x.length ≤ 1000000) (hl : xs.length ≤ 1000000) : scanF (framesF 0 xs).length 0 (framesF 0 xs) = (xs, (framesF 0 xs).length) := by
  have := scanF_frames xs (framesF 0 xs).length 0 [] h (by decide) (by omega) (framesF_min xs 0)
  rw [List.append_nil, scanF_nil] at this
  rw [this, List.append_nil, Nat.add_zero]
section
variable {W0 : World} {L : List HP}
theorem fresh_ct {room : Int} (h1 : 0 ≤ room) (h2 : room ≤ 16777216) : CT Try.prog 10 #[.int .i64 room] W0 L fun r L' => ∃ p, r = .pointer (some ⟨p, 0, none⟩) ∧ L' = dsk p ⟨[], room, false, false, 0⟩ :: L := by
  refine CT_enter Try.func10 rfl ?_; (simp only [Try.ntmps10, List.size_toArray, List.length_cons, List.length_nil, Nat.reduceAdd, Nat.reduceSub, Array.replicate_succ, Array.replicate_zero, List.push_toArray, List.append_toArray, List.nil_append, List.cons_append])
  repeat' (first | refine go ?_ | intro _ | (apply cG; first | refine cT ?_ | refine cF ?_ | refine cS (fun _ => ?_) fun _ => ?_) | (apply gW; refine sW ?_) | (apply gI; refine sI ?_) | (apply gE; refine sE ?_) | (apply gP; refine sP ?_) | (apply gC; refine sC ?_) | (apply gD; refine sD ?_) | fail)
  refine O_d (dy_call ArgsI.pf (by first | exact rfl | trivial | (intro a b; rfl)) (dNew_ct h1 h2)) ?_; rintro _ _ ⟨_, ⟨p, rfl, rfl⟩, rfl⟩; refine O_n ?_
  repeat' (first | refine go ?_ | intro _ | (apply cG; first | refine cT ?_ | refine cF ?_ | refine cS (fun _ => ?_) fun _ => ?_) | (apply gW; refine sW ?_) | (apply gI; refine sI ?_) | (apply gE; refine sE ?_) | (apply gP; refine sP ?_) | (apply gC; refine sC ?_) | (apply gD; refine sD ?_) | fail)
  refine E_res1 (by rfl) (by rfl) ⟨p, rfl, rfl⟩ Sb
theorem Len_ct {q : Nat} {x0 : Value} {file n : Int} {down : Bool} : CT Try.prog 16 #[.pointer (some ⟨q, 0, none⟩)] W0 (cel q [x0, .int .i64 file, .int .i64 n, .bool down] 70 :: L) fun r L' => r = .int .i64 n ∧ L' = cel q [x0, .int .i64 file, .int .i64 n, .bool down] 70 :: L := by
  refine CT_enter Try.func16 rfl ?_; (simp only [Try.ntmps16, List.size_toArray, List.length_cons, List.length_nil, Nat.reduceAdd, Nat.reduceSub, Array.replicate_succ, Array.replicate_zero, List.push_toArray, List.append_toArray, List.nil_append, List.cons_append])
  repeat' (first | refine go ?_ | intro _ | (apply cG; first | refine cT ?_ | refine cF ?_ | refine cS (fun _ => ?_) fun _ => ?_) | (apply gW; refine sW ?_) | (apply gI; refine sI ?_) | (apply gE; refine sE ?_) | (apply gP; refine sP ?_) | (apply gC; refine sC ?_) | (apply gD; refine sD ?_) | fail)
  refine E_res1 (by rfl) (by rfl) ⟨rfl, rfl⟩ Sb
theorem Up_ct {q : Nat} {x0 : Value} {file n : Int} {down : Bool} : CT Try.prog 17 #[.pointer (some ⟨q, 0, none⟩)] W0 (cel q [x0, .int .i64 file, .int .i64 n, .bool down] 70 :: L) fun r L' => r = .bool (!down) ∧ L' = cel q [x0, .int .i64 file, .int .i64 n, .bool down] 70 :: L := by
  refine CT_enter Try.func17 rfl ?_; (simp only [Try.ntmps17, List.size_toArray, List.length_cons, List.length_nil, Nat.reduceAdd, Nat.reduceSub, Array.replicate_succ, Array.replicate_zero, List.push_toArray, List.append_toArray, List.nil_append, List.cons_append])
  cases down
  · repeat' (first | refine go ?_ | intro _ | (apply cG; first | refine cT ?_ | refine cF ?_ | refine cS (fun _ => ?_) fun _ => ?_) | (apply gW; refine sW ?_) | (apply gI; refine sI ?_) | (apply gE; refine sE ?_) | (apply gP; refine sP ?_) | (apply gC; refine sC ?_) | (apply gD; refine sD ?_) | fail)
    refine E_res1 (by rfl) (by rfl) ⟨rfl, rfl⟩ Sb
  · repeat' (first | refine go ?_ | intro _ | (apply cG; first | refine cT ?_ | refine cF ?_ | refine cS (fun _ => ?_) fun _ => ?_) | (apply gW; refine sW ?_) | (apply gI; refine sI ?_) | (apply gE; refine sE ?_) | (apply gP; refine sP ?_) | (apply gC; refine sC ?_) | (apply gD; refine sD ?_) | fail)
    refine E_res1 (by rfl) (by rfl) ⟨rfl, rfl⟩ Sb
theorem LApp_limit {q : Nat} {cs : List Value} {v : Value} {b : List UInt8} (hv : Src L eB v b) (hb : 65536 < b.length) (hb2 : b.length ≤ 1000000000) :
    CT Try.prog 15 #[.pointer (some ⟨q, 0, none⟩), v] W0 L fun r L' => r = .int .i64 4 ∧ L' = L := by
  have hv : Sc L v eB b := ⟨hv⟩
  refine CT_fact (fun w s => ((Sc.pf : Src _ eB v b).sl s).form) ?_
  rintro ⟨A0, c0, rfl, hc0⟩
  refine CT_enterD Try.func15 rfl ?_; (simp only [Try.ntmps15, List.size_toArray, List.length_cons, List.length_nil, Nat.reduceAdd, Nat.reduceSub, Array.replicate_succ, Array.replicate_zero, List.push_toArray, List.append_toArray, List.nil_append, List.cons_append])
  repeat' (first | refine go ?_ | intro _ | (apply cG; first | refine cT ?_ | refine cF ?_ | refine cS (fun _ => ?_) fun _ => ?_) | (apply gW; refine sW ?_) | (apply gI; refine sI ?_) | (apply gE; refine sE ?_) | (apply gP; refine sP ?_) | (apply gC; refine sC ?_) | (apply gD; refine sD ?_) | fail)
  exact E_cell0 rfl rfl rfl Ev.pf (.head _) rfl ⟨rfl, rfl⟩ Sb
theorem LApp_full {q p : Nat} {file k n : Int} {d : DK} {v : Value} {b B : List UInt8} {U : Nat} (hv : Src L eB v b) (hb : b.length ≤ 65536) (hn1 : 0 ≤ n) (hn2 : n ≤ 1000000000) (h : JS d file k B U) (hf : 0 ≤ file ∧ file < 64) (hbk : k - (U : Int) < (frameF n b).length) :
    CT Try.prog 15 #[.pointer (some ⟨q, 0, none⟩), v] W0 (cel q [.pointer (some ⟨p, 0, none⟩), .int .i64 file, .int .i64 n, .bool false] 70 :: dsk p d :: L) fun r L' => r = .int .i64 20 ∧ L' = cel q [.pointer (some ⟨p, 0, none⟩), .int .i64 file, .int .i64 n, .bool false] 70 :: dsk p d :: L := by
  have h0 := h.l0
  have h1 := h.l1
  refine (LApp_ct hv hb hn1 hn2 h.ok (by omega) (by omega)).mono fun r L' h2 => ?_
  obtain ⟨A, c, rfl, rfl⟩ := h2
  rw [h.full hf hbk]
  exact ⟨rfl, rfl⟩
theorem LApp_ok {q p : Nat} {file k n : Int} {d : DK} {v : Value} {b B : List UInt8} {U : Nat} (hv : Src L eB v b) (hb : b.length ≤ 65536) (hn1 : 0 ≤ n) (hn2 : n ≤ 1000000000) (h : JS d file k B U) (hf : 0 ≤ file ∧ file < 64) (hbk : ((frameF n b).length : Int) ≤ k - (U : Int)) :
    CT Try.prog 15 #[.pointer (some ⟨q, 0, none⟩), v] W0 (cel q [.pointer (some ⟨p, 0, none⟩), .int .i64 file, .int .i64 n, .bool false] 70 :: dsk p d :: L) fun r L' => ∃ d', JS d' file k (B ++ frameF n b) (U + (frameF n b).length) ∧ (∀ m, m ≠ file → (fileF m d'.files).b = (fileF m d.files).b) ∧ r = .int .i64 0 ∧ L' = cel q [.pointer (some ⟨p, 0, none⟩), .int .i64 file, .int .i64 (n + 1), .bool false] 70 :: dsk p d' :: L := by
  have h0 := h.l0
  have h1 := h.l1
  refine (LApp_ct hv hb hn1 hn2 h.ok (by omega) (by omega)).mono fun r L' h2 => ?_
  obtain ⟨A, c, rfl, rfl⟩ := h2
  obtain ⟨d', e, hj, ho⟩ := h.app hf hbk (.slice A ((fileF file d.files).b ++ frameF n b).length c)
  rw [e]
  exact ⟨d', hj, ho, rfl, rfl⟩
theorem Open_js {p : Nat} {d : DK} {file k : Int} {B : List UInt8} {U : Nat} {xs : List (List UInt8)} (h : JS d file k B U) (hf : 0 ≤ file ∧ file < 64) (hB : B.length ≤ 1000000) (hsc : scanF B.length 0 B = (xs, B.length)) (hxs : xs.length ≤ 1000000) :
    CT Try.prog 11 #[.pointer (some ⟨p, 0, none⟩), .int .i64 file] W0 (dsk p d :: L) fun r L' => ∃ d' q A3 c3, JS d' file k B U ∧ (∀ m, (fileF m d'.files).b = (fileF m d.files).b) ∧ r = .tuple #[.pointer (some ⟨q, 0, none⟩), .slice A3 xs.length c3, .int .i64 0] ∧
      L' = cel q [.pointer (some ⟨p, 0, none⟩), .int .i64 file, .int .i64 (xs.length : Int), .bool false] 70 :: own 23 (eSl eB) (.slice A3 xs.length c3) xs :: dsk p d' :: L := by
  have h0 := h.l0
  have h1 := h.l1
  refine (Open_ct (N := B.length) h.ok h.on hf (by rw [h.b]; exact hB) (by rw [h.b]; exact hsc) (by rw [h.b]; exact Nat.le_refl _) hxs (by omega) (by omega)).mono fun r L' h2 => ?_
  obtain ⟨A, c, h2⟩ := h2
  obtain ⟨hs1, hs2⟩ := h.sync
  have e : openF d file B.length (.slice A B.length c) = ({ d with files := hardL d.files }, 0) := by
    unfold openF
    rw [h.b, if_neg (Nat.lt_irrefl _)]
    dsimp only
    rw [if_pos rfl, hs1]
  rw [e] at h2
  rcases h2 with ⟨h3, _⟩ | ⟨_, q, A3, c3, rfl, rfl⟩
  · exact absurd rfl h3
  · exact ⟨_, q, A3, c3, hs2, fun m => (fileF_hard d.files).1, rfl, rfl⟩
end
end Go.Proofs.Ytbjaecofccpahaa
namespace Go.Proofs.Ytbjaecofccpahaa
open Go Go.RowKit
set_option linter.unusedVariables false
set_option linter.unusedSimpArgs false
set_option maxRecDepth 20000
set_option synthInstance.maxSize 100000
set_option synthInstance.maxHeartbeats 400000
structure FJ where
  i : Nat
  kept : List (List UInt8)
  d : DK
  A : Option Addr
  c : Nat
section
variable {W0 : World} {L : List HP}
set_option maxHeartbeats 4000000 in
theorem JournalFull_ct {room : Int} {v : Value} {li : List Int} (hr1 : -9223372036854775808 ≤ room) (hr2 : room ≤ 9223372036854775807) (hv : rd eI v li ∈ L) (hl : li.length ≤ 9223372036854775807) (hr : ∀ n ∈ li, -9223372036854775808 ≤ n ∧ n ≤ 9223372036854775807) :
    CT Try.prog 8 #[.int .i64 room, v] W0 L fun r L' => r = .bool true ∧ L' = L := by
  refine CT_enter Try.func8 rfl ?_; (simp only [Try.ntmps8, List.size_toArray, List.length_cons, List.length_nil, Nat.reduceAdd, Nat.reduceSub, Array.replicate_succ, Array.replicate_zero, List.push_toArray, List.append_toArray, List.nil_append, List.cons_append])
  repeat' (first | refine go ?_ | intro _ | (apply cG; first | refine cT ?_ | refine cF ?_ | refine cS (fun _ => ?_) fun _ => ?_) | (apply gW; refine sW ?_) | (apply gI; refine sI ?_) | (apply gE; refine sE ?_) | (apply gP; refine sP ?_) | (apply gC; refine sC ?_) | (apply gD; refine sD ?_) | fail)
  refine O_d (dy_call ArgsI.pf (by first | exact rfl | trivial | (intro a b; rfl)) (Around_ct (most := 120) hr1 hr2 (by decide) (by decide))) ?_; rintro _ _ ⟨_, ⟨rfl, hLL⟩, rfl⟩; replace hLL := hLL.symm; subst hLL; refine O_n ?_
  obtain ⟨kk, hk, hk2⟩ : ∃ k : Nat, around room 120 = (k : Int) ∧ k < 120 := by
    have := around_in (n := room) (most := 120) (by decide)
    exact ⟨(around room 120).toNat, by omega, by omega⟩
  rw [hk]
  repeat' (first | refine go ?_ | intro _ | (apply cG; first | refine cT ?_ | refine cF ?_ | refine cS (fun _ => ?_) fun _ => ?_) | (apply gW; refine sW ?_) | (apply gI; refine sI ?_) | (apply gE; refine sE ?_) | (apply gP; refine sP ?_) | (apply gC; refine sC ?_) | (apply gD; refine sD ?_) | fail)
  refine O_d (dy_call ArgsI.pf (by first | exact rfl | trivial | (intro a b; rfl)) (fresh_ct (room := (kk : Int)) (by omega) (by omega))) ?_; rintro _ _ ⟨_, ⟨p, rfl, rfl⟩, rfl⟩; refine O_n ?_
  repeat' (first | refine go ?_ | intro _ | (apply cG; first | refine cT ?_ | refine cF ?_ | refine cS (fun _ => ?_) fun _ => ?_) | (apply gW; refine sW ?_) | (apply gI; refine sI ?_) | (apply gE; refine sE ?_) | (apply gP; refine sP ?_) | (apply gC; refine sC ?_) | (apply gD; refine sD ?_) | fail)
  refine O_d (dy_call ArgsI.pf (by first | exact rfl | trivial | (intro a b; rfl)) (CT.pull (i := 0) (by rfl) (Open_js (xs := []) (JS.begun (k := (kk : Int)) (by omega) (by omega) 63) (by decide) (by decide) (by rfl) (by decide)))) ?_; rintro _ _ ⟨_, ⟨d1, q, A3, c3, hj1, _, rfl, rfl⟩, rfl⟩; refine O_n ?_
  repeat' (first | refine go ?_ | intro _ | (apply cG; first | refine cT ?_ | refine cF ?_ | refine cS (fun _ => ?_) fun _ => ?_) | (apply gW; refine sW ?_) | (apply gI; refine sI ?_) | (apply gE; refine sE ?_) | (apply gP; refine sP ?_) | (apply gC; refine sC ?_) | (apply gD; refine sD ?_) | fail)
  refine O_d (dy_call ArgsI.pf (by first | exact rfl | trivial | (intro a b; rfl)) (Records_ct (.tail _ (.tail _ (.tail _ hv))) hl hr)) ?_; rintro _ _ ⟨_, ⟨A4, c4, xs, rfl, rfl, hxs, hx6⟩, rfl⟩; refine O_n ?_
  refine O_frz 0 ?_
  repeat' (first | refine go ?_ | intro _ | (apply cG; first | refine cT ?_ | refine cF ?_ | refine cS (fun _ => ?_) fun _ => ?_) | (apply gW; refine sW ?_) | (apply gI; refine sI ?_) | (apply gE; refine sE ?_) | (apply gP; refine sP ?_) | (apply gC; refine sC ?_) | (apply gD; refine sD ?_) | fail)
  refine C_ownnil 23 (eSl eB) ?_
  refine C_sub (S := cel q [.pointer (some ⟨p, 0, none⟩), .int .i64 63, .int .i64 (0 : Int), .bool false] 70 :: dsk p d1 :: own 23 (eSl eB) (.slice none 0 0) [] :: rd (eSl eB) (.slice A4 xs.length c4) xs :: L) Sb ?_
  refine C_loopS (κ := FJ) [false, false, false, false, true, false, false, false, false, false, false, true, true, true, true, true, false, false, false, false, false, false, false, false, false, false, false, false, false, false, false, false, false, false, false, false, false, false, false, false, false, false, false, false, false, true, true, true, true, true, true, true, true, true, true, true, true, true, true, true, true, true, true, true, true, true, true, true, true, true, true, true, true, true, true, true, true, true, true, true, true, true, true, true, true, true, true, true, true, true, true, true, true, true, true, true, true, true, true, true, true, true, true, true, true, true, true, false, false, false, false, false, false, false, false, false, false, false, false, false, false, false, false, false, false, false, false, false, false, false, false, false, false, false, false, false, false, false, false, false, false, false, false, false, false, false, false, false] (fun k => [(11, .slice k.A k.kept.length k.c), (12, .int .i64 (k.i : Int))]) (fun k => [(0, cel q [.pointer (some ⟨p, 0, none⟩), .int .i64 63, .int .i64 (k.kept.length : Int), .bool false] 70), (1, dsk p k.d), (2, own 23 (eSl eB) (.slice k.A k.kept.length k.c) k.kept)]) (fun k => k.i ≤ xs.length ∧ JS k.d 63 (kk : Int) (framesF 0 k.kept) (framesF 0 k.kept).length ∧ k.kept.length ≤ k.i ∧ (∀ y ∈ k.kept, y.length ≤ 10)) (fun k => xs.length - k.i) ⟨0, [], d1, none, 0⟩ ⟨Nat.zero_le _, hj1, Nat.le_refl _, (fun y hy => by cases hy)⟩ ⟨rfl, rfl, trivial⟩ ?_ Sb
  rintro ⟨i, kept, d, A, c⟩ u ⟨hi, hj, hki, hke⟩
  dsimp only at hi hj hki hke
  dsimp only
  ((try dsimp only); refine C_n ?_; (try simp only [Nat.reduceAdd, Nat.zero_add]))
  have hU := framesF_len (m := 10) kept 0 hke (by decide) (by decide) (by omega)
  obtain ⟨U, hUe⟩ : ∃ U, (framesF 0 kept).length = U := ⟨_, rfl⟩
  rw [hUe] at hj hU
  have hju := hj.u
  by_cases hlt : i < xs.length
  · obtain ⟨x, hx⟩ : ∃ x, xs[i]? = some x := ⟨_, List.getElem?_eq_getElem hlt⟩
    have hax : At xs i x := ⟨hx⟩
    have hxl := hxs x (List.mem_of_getElem? hx)
    obtain ⟨F, hF⟩ : ∃ F, frameF (kept.length : Int) x = F := ⟨_, rfl⟩
    have hFl := frameF_len (i := (kept.length : Int)) (x := x) (by omega) (by omega) (by omega)
    rw [hF] at hFl
    repeat' (first | refine go ?_ | intro _ | (apply cG; first | refine cT ?_ | refine cF ?_ | refine cS (fun _ => ?_) fun _ => ?_) | (apply gW; refine sW ?_) | (apply gI; refine sI ?_) | (apply gE; refine sE ?_) | (apply gP; refine sP ?_) | (apply gC; refine sC ?_) | (apply gD; refine sD ?_) | fail)
    refine O_d (dy_call ArgsI.pf (by first | exact rfl | trivial | (intro a b; rfl)) (CT.pull (i := 1) (by rfl) (dUsed_ct (d := d) (by omega)))) ?_; rintro _ _ ⟨_, ⟨rfl, rfl⟩, rfl⟩; refine O_n ?_
    rw [hju]
    repeat' (first | refine go ?_ | intro _ | (apply cG; first | refine cT ?_ | refine cF ?_ | refine cS (fun _ => ?_) fun _ => ?_) | (apply gW; refine sW ?_) | (apply gI; refine sI ?_) | (apply gE; refine sE ?_) | (apply gP; refine sP ?_) | (apply gC; refine sC ?_) | (apply gD; refine sD ?_) | fail)
    refine O_d (dy_call ArgsI.pf (by first | exact rfl | trivial | (intro a b; rfl)) (Frame_ct (i := (kept.length : Int)) (x := x) (.inl (.head _)) (by omega) (by omega) (by omega))) ?_; rintro _ _ ⟨_, ⟨A7, c7, rfl, rfl⟩, rfl⟩; refine O_n ?_
    rw [hF]
    repeat' (first | refine go ?_ | intro _ | (apply cG; first | refine cT ?_ | refine cF ?_ | refine cS (fun _ => ?_) fun _ => ?_) | (apply gW; refine sW ?_) | (apply gI; refine sI ?_) | (apply gE; refine sE ?_) | (apply gP; refine sP ?_) | (apply gC; refine sC ?_) | (apply gD; refine sD ?_) | fail)
    have hfk : (0 : Int) ≤ 63 ∧ (63 : Int) < 64 := by decide
    by_cases hfull : (kk : Int) - (U : Int) < (F.length : Int)
    · refine O_front 3 rfl EAt.pf ?_
      refine O_front 4 rfl EAt.pf ?_
      refine O_d (dy_call ArgsI.pf (by first | exact rfl | trivial | (intro a b; rfl)) ((LApp_full (b := x) (.inl (.head _)) (by omega) (by omega) (by omega) hj hfk (by rw [hF]; exact hfull)))) ?_; rintro _ _ ⟨_, ⟨rfl, rfl⟩, rfl⟩; refine O_n ?_
      repeat' (first | refine go ?_ | intro _ | (apply cG; first | refine cT ?_ | refine cF ?_ | refine cS (fun _ => ?_) fun _ => ?_) | (apply gW; refine sW ?_) | (apply gI; refine sI ?_) | (apply gE; refine sE ?_) | (apply gP; refine sP ?_) | (apply gC; refine sC ?_) | (apply gD; refine sD ?_) | fail)
      refine O_d (dy_call ArgsI.pf (by first | exact rfl | trivial | (intro a b; rfl)) (CT.pull (i := 1) (by rfl) (dUsed_ct (d := d) (by omega)))) ?_; rintro _ _ ⟨_, ⟨rfl, rfl⟩, rfl⟩; refine O_n ?_
      rw [hju]
      repeat' (first | refine go ?_ | intro _ | (apply cG; first | refine cT ?_ | refine cF ?_ | refine cS (fun _ => ?_) fun _ => ?_) | (apply gW; refine sW ?_) | (apply gI; refine sI ?_) | (apply gE; refine sE ?_) | (apply gP; refine sP ?_) | (apply gC; refine sC ?_) | (apply gD; refine sD ?_) | fail)
      refine O_d (dy_call ArgsI.pf (by first | exact rfl | trivial | (intro a b; rfl)) (CT.pull (i := 1) (by rfl) (Len_ct))) ?_; rintro _ _ ⟨_, ⟨rfl, rfl⟩, rfl⟩; refine O_n ?_
      repeat' (first | refine go ?_ | intro _ | (apply cG; first | refine cT ?_ | refine cF ?_ | refine cS (fun _ => ?_) fun _ => ?_) | (apply gW; refine sW ?_) | (apply gI; refine sI ?_) | (apply gE; refine sE ?_) | (apply gP; refine sP ?_) | (apply gC; refine sC ?_) | (apply gD; refine sD ?_) | fail)
      refine O_d (dy_call ArgsI.pf (by first | exact rfl | trivial | (intro a b; rfl)) (CT.pull (i := 0) (by rfl) (Up_ct))) ?_; rintro _ _ ⟨_, ⟨rfl, rfl⟩, rfl⟩; refine O_n ?_
      simp only [Bool.not_false]
      repeat' (first | refine go ?_ | intro _ | (apply cG; first | refine cT ?_ | refine cF ?_ | refine cS (fun _ => ?_) fun _ => ?_) | (apply gW; refine sW ?_) | (apply gI; refine sI ?_) | (apply gE; refine sE ?_) | (apply gP; refine sP ?_) | (apply gC; refine sC ?_) | (apply gD; refine sD ?_) | fail)
      exact E_round ⟨i + 1, kept, d, A, c⟩ ⟨hlt, by rw [hUe]; exact hj, by dsimp only; omega, hke⟩ (by show xs.length - (i + 1) < xs.length - i; omega) ⟨rfl, rfl, trivial⟩ Sb
    · refine O_front 3 rfl EAt.pf ?_
      refine O_front 4 rfl EAt.pf ?_
      refine O_d (dy_call ArgsI.pf (by first | exact rfl | trivial | (intro a b; rfl)) ((LApp_ok (b := x) (.inl (.head _)) (by omega) (by omega) (by omega) hj hfk (by rw [hF]; omega)))) ?_; rintro _ _ ⟨_, ⟨d', hj', _, rfl, rfl⟩, rfl⟩; refine O_n ?_
      rw [hF] at hj'
      have hju' := hj'.u
      repeat' (first | refine go ?_ | intro _ | (apply cG; first | refine cT ?_ | refine cF ?_ | refine cS (fun _ => ?_) fun _ => ?_) | (apply gW; refine sW ?_) | (apply gI; refine sI ?_) | (apply gE; refine sE ?_) | (apply gP; refine sP ?_) | (apply gC; refine sC ?_) | (apply gD; refine sD ?_) | fail)
      refine O_d (dy_call ArgsI.pf (by first | exact rfl | trivial | (intro a b; rfl)) (CT.pull (i := 1) (by rfl) (dUsed_ct (d := d') (by omega)))) ?_; rintro _ _ ⟨_, ⟨rfl, rfl⟩, rfl⟩; refine O_n ?_
      rw [hju']
      repeat' (first | refine go ?_ | intro _ | (apply cG; first | refine cT ?_ | refine cF ?_ | refine cS (fun _ => ?_) fun _ => ?_) | (apply gW; refine sW ?_) | (apply gI; refine sI ?_) | (apply gE; refine sE ?_) | (apply gP; refine sP ?_) | (apply gC; refine sC ?_) | (apply gD; refine sD ?_) | fail)
      rename_i Ax cx
      refine O_d (dy_litS (R := eSl eB) [x] [.slice Ax x.length cx] (by rfl) (fun m h hs => ⟨⟨_, rfl, rd_mem hs (by repeat (first | exact .head _ | refine .tail _ ?_))⟩, trivial⟩)) ?_; rintro _ _ ⟨_, rfl, rfl⟩; refine O_n ?_
      refine O_d dy_append ?_; rintro _ _ ⟨A9, c9, rfl, rfl⟩; refine O_n ?_
      have hkl : kept.length + 1 = (kept ++ [x]).length := by rw [List.length_append]; rfl
      have hkn : (kept.length : Int) + 1 = ((kept ++ [x]).length : Int) := by rw [← hkl]; push_cast; rfl
      have hfr : framesF 0 (kept ++ [x]) = framesF 0 kept ++ F := by rw [framesF_snoc, Int.zero_add, hF]
      have hfl : (framesF 0 (kept ++ [x])).length = U + F.length := by rw [hfr, List.length_append, hUe]
      rw [hkl, hkn]
      repeat' (first | refine go ?_ | intro _ | (apply cG; first | refine cT ?_ | refine cF ?_ | refine cS (fun _ => ?_) fun _ => ?_) | (apply gW; refine sW ?_) | (apply gI; refine sI ?_) | (apply gE; refine sE ?_) | (apply gP; refine sP ?_) | (apply gC; refine sC ?_) | (apply gD; refine sD ?_) | fail)
      refine O_d (dy_call ArgsI.pf (by first | exact rfl | trivial | (intro a b; rfl)) (CT.pull (i := 3) (by rfl) (Len_ct))) ?_; rintro _ _ ⟨_, ⟨rfl, rfl⟩, rfl⟩; refine O_n ?_
      repeat' (first | refine go ?_ | intro _ | (apply cG; first | refine cT ?_ | refine cF ?_ | refine cS (fun _ => ?_) fun _ => ?_) | (apply gW; refine sW ?_) | (apply gI; refine sI ?_) | (apply gE; refine sE ?_) | (apply gP; refine sP ?_) | (apply gC; refine sC ?_) | (apply gD; refine sD ?_) | fail)
      refine O_d (dy_call ArgsI.pf (by first | exact rfl | trivial | (intro a b; rfl)) (CT.pull (i := 0) (by rfl) (Up_ct))) ?_; rintro _ _ ⟨_, ⟨rfl, rfl⟩, rfl⟩; refine O_n ?_
      simp only [Bool.not_false]
      repeat' (first | refine go ?_ | intro _ | (apply cG; first | refine cT ?_ | refine cF ?_ | refine cS (fun _ => ?_) fun _ => ?_) | (apply gW; refine sW ?_) | (apply gI; refine sI ?_) | (apply gE; refine sE ?_) | (apply gP; refine sP ?_) | (apply gC; refine sC ?_) | (apply gD; refine sD ?_) | fail)
      exact E_round ⟨i + 1, kept ++ [x], d', A9, c9⟩ ⟨hlt, by dsimp only; rw [hfr, List.length_append, hUe]; exact hj', by dsimp only; rw [← hkl]; omega, (fun y hy => by
        rcases List.mem_append.1 hy with hy | hy
        · exact hke y hy
        · simp only [List.mem_cons, List.not_mem_nil, or_false] at hy
          subst hy
          exact hxl)⟩ (by show xs.length - (i + 1) < xs.length - i; omega) ⟨rfl, rfl, trivial⟩ Sb
  obtain rfl : i = xs.length := by omega
  repeat' (first | refine go ?_ | intro _ | (apply cG; first | refine cT ?_ | refine cF ?_ | refine cS (fun _ => ?_) fun _ => ?_) | (apply gW; refine sW ?_) | (apply gI; refine sI ?_) | (apply gE; refine sE ?_) | (apply gP; refine sP ?_) | (apply gC; refine sC ?_) | (apply gD; refine sD ?_) | fail)
  have hfk : (0 : Int) ≤ 63 ∧ (63 : Int) < 64 := by decide
  have hsc := scan_frames (xs := kept) (fun y hy => by have := hke y hy; omega) (by omega)
  rw [hUe] at hsc
  refine O_d (dy_call ArgsI.pf (by first | exact rfl | trivial | (intro a b; rfl)) (CT.pull (i := 1) (by rfl) (Open_js (xs := kept) hj hfk (by omega) (by rw [hUe]; exact hsc) (by omega)))) ?_; rintro _ _ ⟨_, ⟨d2, q2, A5, c5, hj2, _, rfl, rfl⟩, rfl⟩; refine O_n ?_
  repeat' (first | refine go ?_ | intro _ | (apply cG; first | refine cT ?_ | refine cF ?_ | refine cS (fun _ => ?_) fun _ => ?_) | (apply gW; refine sW ?_) | (apply gI; refine sI ?_) | (apply gE; refine sE ?_) | (apply gP; refine sP ?_) | (apply gC; refine sC ?_) | (apply gD; refine sD ?_) | fail)
  refine O_d (dy_call ArgsI.pf (by first | exact rfl | trivial | (intro a b; rfl)) (Open_nil)) ?_; rintro _ _ ⟨_, ⟨rfl, rfl⟩, rfl⟩; refine O_n ?_
  repeat' (first | refine go ?_ | intro _ | (apply cG; first | refine cT ?_ | refine cF ?_ | refine cS (fun _ => ?_) fun _ => ?_) | (apply gW; refine sW ?_) | (apply gI; refine sI ?_) | (apply gE; refine sE ?_) | (apply gP; refine sP ?_) | (apply gC; refine sC ?_) | (apply gD; refine sD ?_) | fail)
  refine O_front 2 rfl EAt.pf ?_
  refine O_d (dy_call ArgsI.pf (by first | exact rfl | trivial | (intro a b; rfl)) (Open_no (files := d2.files) (room := d2.room) (off := d2.off) (armed := d2.armed) (left := d2.left) (file := 64) (e := 1) (.inl ⟨by decide, rfl⟩))) ?_; rintro _ _ ⟨_, ⟨rfl, rfl⟩, rfl⟩; refine O_n ?_
  refine O_frz 2 ?_
  refine O_frz 4 ?_
  repeat' (first | refine go ?_ | intro _ | (apply cG; first | refine cT ?_ | refine cF ?_ | refine cS (fun _ => ?_) fun _ => ?_) | (apply gW; refine sW ?_) | (apply gI; refine sI ?_) | (apply gE; refine sE ?_) | (apply gP; refine sP ?_) | (apply gC; refine sC ?_) | (apply gD; refine sD ?_) | fail)
  have hk2 : ∀ y ∈ kept, y.length ≤ 10000000 := fun y hy => by have := hke y hy; omega
  refine O_d (dy_call ArgsI.pf (by first | exact rfl | trivial | (intro a b; rfl)) (SameLists_ct (la := kept) (lb := kept) (.tail _ (.tail _ (.head _))) (.tail _ (.tail _ (.tail _ (.tail _ (.head _))))) (by omega) (by omega) hk2 hk2 (q := true) (decide_eq_true rfl))) ?_; rintro _ _ ⟨_, ⟨rfl, hLL⟩, rfl⟩; replace hLL := hLL.symm; subst hLL; refine O_n ?_
  repeat' (first | refine go ?_ | intro _ | (apply cG; first | refine cT ?_ | refine cF ?_ | refine cS (fun _ => ?_) fun _ => ?_) | (apply gW; refine sW ?_) | (apply gI; refine sI ?_) | (apply gE; refine sE ?_) | (apply gP; refine sP ?_) | (apply gC; refine sC ?_) | (apply gD; refine sD ?_) | fail)
  refine O_d (dy_make (f := bv) (hf := fun _ => rfl) (0 : UInt8) (n := 65537) (by rfl) Ev.pf Ev.pf (by decide) (by decide)) ?_; rintro _ _ ⟨_, rfl, rfl⟩; refine O_n ?_
  refine O_d (dy_call ArgsI.pf (by first | exact rfl | trivial | (intro a b; rfl)) (LApp_limit (q := q) (cs := []) (b := List.replicate 65537 0) Sc.pf (by rw [List.length_replicate]; decide) (by rw [List.length_replicate]; decide))) ?_; rintro _ _ ⟨_, ⟨rfl, hLL⟩, rfl⟩; replace hLL := hLL.symm; subst hLL; refine O_n ?_
  repeat' (first | refine go ?_ | intro _ | (apply cG; first | refine cT ?_ | refine cF ?_ | refine cS (fun _ => ?_) fun _ => ?_) | (apply gW; refine sW ?_) | (apply gI; refine sI ?_) | (apply gE; refine sE ?_) | (apply gP; refine sP ?_) | (apply gC; refine sC ?_) | (apply gD; refine sD ?_) | fail)
  refine O_d (dy_call ArgsI.pf (by first | exact rfl | trivial | (intro a b; rfl)) (lives_ct)) ?_; rintro _ _ ⟨_, ⟨rfl, hLL⟩, rfl⟩; replace hLL := hLL.symm; subst hLL; refine O_n ?_
  repeat' (first | refine go ?_ | intro _ | (apply cG; first | refine cT ?_ | refine cF ?_ | refine cS (fun _ => ?_) fun _ => ?_) | (apply gW; refine sW ?_) | (apply gI; refine sI ?_) | (apply gE; refine sE ?_) | (apply gP; refine sP ?_) | (apply gC; refine sC ?_) | (apply gD; refine sD ?_) | fail)
  refine E_res1 (by rfl) (by rfl) ⟨rfl, rfl⟩ Sb
theorem JournalFull_any {room : Int} {v : Value} {li : List Int} {w : World} (s : St w w [rd eI v li]) (hr1 : -9223372036854775808 ≤ room) (hr2 : room ≤ 9223372036854775807) (hl : li.length ≤ 9223372036854775807) (hr : ∀ n ∈ li, -9223372036854775808 ≤ n ∧ n ≤ 9223372036854775807) :
    Calls Try.prog 8 #[.int .i64 room, v] w fun e w' => e = .returned (.bool true) ∧ Below w.heap.size w w' :=
  ((JournalFull_ct (W0 := w) hr1 hr2 (.head _) hl hr).run w s).mono fun e w' h => by
    obtain ⟨v, L', rfl, ⟨rfl, rfl⟩, s⟩ := h
    exact ⟨rfl, s.below⟩
end
end Go.Proofs.Ytbjaecofccpahaa
namespace Go.Proofs.Ytbjaecofccpahaa
open Go Go.RowKit
set_option linter.unusedVariables false
set_option linter.unusedSimpArgs false
def toB (n : Int) : UInt8 := UInt8.ofNat n.toNat
theorem toB_wf {n : Int} (h : (Lit.int .u8 n).wf = true) : ((toB n).toNat : Int) = n := by
  simp [Lit.wf, IntKind.min, IntKind.max, IntKind.signed, IntKind.bits] at h
  unfold toB
  simp
  omega
/-- a row of numbers of one kind, said as the rows' proofs say it -/
theorem row_sl {α : Type} {f : α → Value} {hf : ∀ a, (f a).oneCell' = true} {k : IntKind} {w : World} {a : Option Addr} {len cap : Nat} {zs : List Int} {l : List α} (hl : l.map f = (zs.take len).map (Value.int k)) (hz : zs.length = cap) (hlc : len ≤ cap)
    {x : Addr} (ha : a = some x) (hcell : ∀ i, i < zs.length → w.cell? (x.add i) = some (.int k (zs.getD i 0))) : Sl (Hp.of w) (e1 f hf) (.slice a len cap) l := by
  have hlen : l.length = len := by
    have := congrArg List.length hl
    simp at this
    omega
  subst hlen
  refine ⟨a, cap, l.map fun b => [f b], rfl, hlc, all2_e1.2 rfl, ?_⟩
  by_cases h0 : l = []
  · exact .inl h0
  · right
    have hpos : 0 < l.length := List.length_pos_iff.2 h0
    obtain ⟨b, off, spot⟩ := x
    have h1 := hcell 0 (by omega)
    have hspot : spot = none := by simpa [Addr.add] using World.cell?_spot h1
    subst hspot
    rw [flat_one]
    have hb : ∃ cs t fr, w.heap[b]? = some (.cells cs t fr) := by
      unfold World.cell? at h1
      simp only [Addr.add] at h1
      split at h1
      · rename_i cs t fr he; exact ⟨cs, t, fr, he⟩
      · cases h1
    obtain ⟨cs, t, fr, hb⟩ := hb
    refine ⟨b, off, cs, t, fr, ha, hb, ?_⟩
    intro j u hj
    rw [hl] at hj
    have hjl : j < l.length := by
      have := (List.getElem?_eq_some_iff.1 hj).1
      simp at this
      omega
    have h2 := hcell j (by omega)
    have h3 : w.cell? ⟨b, off + j, none⟩ = some (.int k (zs.getD j 0)) := by
      have e : (Addr.add ⟨b, off, none⟩ j) = ⟨b, off + j, none⟩ := by
        by_cases hj0 : j = 0
        · subst hj0; rfl
        · simp [Addr.add, hj0]
      rw [e] at h2
      exact h2
    have h4 : cs[off + j]? = some (.int k (zs.getD j 0)) := by simpa [World.cell?, hb] using h3
    rw [h4]
    rw [List.getElem?_map, List.getElem?_take, if_pos hjl] at hj
    rw [List.getD_eq_getElem?_getD]
    cases hzz : zs[j]? with
    | none => rw [hzz] at hj; cases hj
    | some z => rw [hzz] at hj; simpa using hj
theorem row_i64 {w : World} {a : Option Addr} {len cap : Nat} {zs : List Int} (h : (a = none ∧ len = 0 ∧ cap = 0 ∧ zs = []) ∨
    ∃ x, a = some x ∧ len ≤ cap ∧ cap ≤ maxLen ∧ zs.length = cap ∧ (∀ i, i < zs.length → w.cell? (x.add i) = some (.int .i64 (zs.getD i 0))) ∧ ∀ n ∈ zs, (Lit.int .i64 n).wf = true) :
    ∃ l : List Int, Sl (Hp.of w) eI (.slice a len cap) l ∧ l.length = len ∧ len ≤ 9223372036854775807 ∧ ∀ n ∈ l, -9223372036854775808 ≤ n ∧ n ≤ 9223372036854775807 := by
  rcases h with ⟨rfl, rfl, rfl, rfl⟩ | ⟨x, ha, hl, hm, hz, hc, hw⟩
  · exact ⟨[], ⟨none, 0, [], rfl, Nat.le_refl _, trivial, .inl rfl⟩, rfl, by omega, by simp⟩
  · unfold maxLen at hm
    refine ⟨zs.take len, row_sl rfl hz hl ha hc, by simp; omega, by omega, fun n hn => ?_⟩
    have := hw n (List.mem_of_mem_take hn)
    simpa [Lit.wf, IntKind.min, IntKind.max, IntKind.signed, IntKind.bits] using this
theorem row_u8 {w : World} {a : Option Addr} {len cap : Nat} {zs : List Int} (h : (a = none ∧ len = 0 ∧ cap = 0 ∧ zs = []) ∨
    ∃ x, a = some x ∧ len ≤ cap ∧ cap ≤ maxLen ∧ zs.length = cap ∧ (∀ i, i < zs.length → w.cell? (x.add i) = some (.int .u8 (zs.getD i 0))) ∧ ∀ n ∈ zs, (Lit.int .u8 n).wf = true) :
    ∃ l : List UInt8, Sl (Hp.of w) eB (.slice a len cap) l ∧ l.length = len ∧ len ≤ 9223372036854775807 := by
  rcases h with ⟨rfl, rfl, rfl, rfl⟩ | ⟨x, ha, hl, hm, hz, hc, hw⟩
  · exact ⟨[], ⟨none, 0, [], rfl, Nat.le_refl _, trivial, .inl rfl⟩, rfl, by omega⟩
  · unfold maxLen at hm
    refine ⟨(zs.take len).map toB, row_sl ?_ hz hl ha hc, by simp; omega, by omega⟩
    rw [List.map_map]
    refine List.map_congr_left fun n hn => ?_
    show bv (toB n) = _
    rw [bv, toB_wf (hw n (List.mem_of_mem_take hn))]
theorem St.mem_ {W : World} {α : Type} {R : Enc α} {v : Value} {l : List α} {L : List HP} (h : Sl (Hp.of W) R v l) (hS : St W W L) : St W W (Go.Proofs.Ytbjaecofccpahaa.rd R v l :: L) := hS.old h
end Go.Proofs.Ytbjaecofccpahaa
