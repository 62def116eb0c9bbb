/-
  Walks of package disk: New, Used, step, set, Append, Read, harden, Sync, Truncate, Arm, On.
-/
import Derived.Test.YtbjaecofccpahaaML
namespace Go.Proofs.Ytbjaecofccpahaa
open Go Go.RowKit
set_option linter.unusedVariables false
set_option linter.unusedSimpArgs false
set_option maxRecDepth 20000
set_option synthInstance.maxSize 100000
set_option synthInstance.maxHeartbeats 400000
section
variable {W0 : World} {L : List HP}
theorem dExists_ct {n : Int} {q : Bool} (hq : decide (0 ≤ n ∧ n < 64) = q) : CT Try.prog 60 #[.int .i64 n] W0 L fun r L' => r = .bool q ∧ L' = L := by
  refine CT_enter Try.func60 rfl ?_; (simp only [Try.ntmps60, List.size_toArray, List.length_cons, List.length_nil, Nat.reduceAdd, Nat.reduceSub, Array.replicate_succ, Array.replicate_zero, List.push_toArray, List.append_toArray, List.nil_append, List.cons_append])
  by_cases h1 : 0 ≤ n
  · by_cases h2 : n < 64
    · obtain rfl : q = true := by rw [← hq]; exact decide_eq_true ⟨h1, h2⟩
      repeat' (first | refine go ?_ | intro _ | (apply cG; first | refine cT ?_ | refine cF ?_ | refine cS (fun _ => ?_) fun _ => ?_) | (apply gW; refine sW ?_) | (apply gI; refine sI ?_) | (apply gE; refine sE ?_) | (apply gP; refine sP ?_) | (apply gC; refine sC ?_) | (apply gD; refine sD ?_) | fail)
      refine E_res1 (by rfl) (by rfl) ⟨rfl, rfl⟩ Sb
    · obtain rfl : q = false := by rw [← hq]; exact decide_eq_false (by omega)
      repeat' (first | refine go ?_ | intro _ | (apply cG; first | refine cT ?_ | refine cF ?_ | refine cS (fun _ => ?_) fun _ => ?_) | (apply gW; refine sW ?_) | (apply gI; refine sI ?_) | (apply gE; refine sE ?_) | (apply gP; refine sP ?_) | (apply gC; refine sC ?_) | (apply gD; refine sD ?_) | fail)
      refine E_res1 (by rfl) (by rfl) ⟨rfl, rfl⟩ Sb
  · obtain rfl : q = false := by rw [← hq]; exact decide_eq_false (by omega)
    repeat' (first | refine go ?_ | intro _ | (apply cG; first | refine cT ?_ | refine cF ?_ | refine cS (fun _ => ?_) fun _ => ?_) | (apply gW; refine sW ?_) | (apply gI; refine sI ?_) | (apply gE; refine sE ?_) | (apply gP; refine sP ?_) | (apply gC; refine sC ?_) | (apply gD; refine sD ?_) | fail)
    refine E_res1 (by rfl) (by rfl) ⟨rfl, rfl⟩ Sb
theorem dNew_ct {room : Int} (h1 : 0 ≤ room) (h2 : room ≤ 16777216) : CT Try.prog 38 #[.int .i64 room] W0 L fun r L' => ∃ p, r = .tuple #[.pointer (some ⟨p, 0, none⟩), .int .i64 0] ∧ L' = dsk p ⟨[], room, false, false, 0⟩ :: L := by
  refine CT_enter Try.func38 rfl ?_; (simp only [Try.ntmps38, List.size_toArray, List.length_cons, List.length_nil, Nat.reduceAdd, Nat.reduceSub, Array.replicate_succ, Array.replicate_zero, List.push_toArray, List.append_toArray, List.nil_append, List.cons_append])
  repeat' (first | refine go ?_ | intro _ | (apply cG; first | refine cT ?_ | refine cF ?_ | refine cS (fun _ => ?_) fun _ => ?_) | (apply gW; refine sW ?_) | (apply gI; refine sI ?_) | (apply gE; refine sE ?_) | (apply gP; refine sP ?_) | (apply gC; refine sC ?_) | (apply gD; refine sD ?_) | fail)
  refine O_d (dy_mkmap mDF) ?_; rintro _ _ ⟨b, rfl, rfl⟩; refine O_n ?_
  repeat' (first | refine go ?_ | intro _ | (apply cG; first | refine cT ?_ | refine cF ?_ | refine cS (fun _ => ?_) fun _ => ?_) | (apply gW; refine sW ?_) | (apply gI; refine sI ?_) | (apply gE; refine sE ?_) | (apply gP; refine sP ?_) | (apply gC; refine sC ?_) | (apply gD; refine sD ?_) | fail)
  rename_i p
  refine E_sub (S := cel p [.map (some b), .int .i64 room, .bool false, .bool false, .int .i64 0] 73 :: mapo mDF b [] :: L) Sb ?_
  refine E_sub (dsk_sub (d := ⟨[], room, false, false, 0⟩)) ?_
  refine E_res2 (by rfl) (by rfl) ⟨_, rfl, rfl⟩ Sb
theorem dUsed_o {p b : Nat} {d : DK} (hu : usedL d.files ≤ 1000000000000) : CT Try.prog 36 #[.pointer (some ⟨p, 0, none⟩)] W0 (cel p [.map (some b), .int .i64 d.room, .bool d.off, .bool d.armed, .int .i64 d.left] 73 :: mapo mDF b d.files :: L) fun r L' => r = .int .i64 (usedL d.files : Int) ∧ L' = cel p [.map (some b), .int .i64 d.room, .bool d.off, .bool d.armed, .int .i64 d.left] 73 :: mapo mDF b d.files :: L := by
  refine CT_enter Try.func36 rfl ?_; (simp only [Try.ntmps36, List.size_toArray, List.length_cons, List.length_nil, Nat.reduceAdd, Nat.reduceSub, Array.replicate_succ, Array.replicate_zero, List.push_toArray, List.append_toArray, List.nil_append, List.cons_append])
  repeat' (first | refine go ?_ | intro _ | (apply cG; first | refine cT ?_ | refine cF ?_ | refine cS (fun _ => ?_) fun _ => ?_) | (apply gW; refine sW ?_) | (apply gI; refine sI ?_) | (apply gE; refine sE ?_) | (apply gP; refine sP ?_) | (apply gC; refine sC ?_) | (apply gD; refine sD ?_) | fail)
  refine O_d (dy_rangeG (R := mDF) (b := b) (i := 1) (hm := rfl) Ev.pf) ?_; rintro _ _ ⟨r, rfl, rfl⟩; refine O_n ?_
  try simp only [List.set_cons_succ, List.set_cons_zero]
  repeat' (first | refine go ?_ | intro _ | (apply cG; first | refine cT ?_ | refine cF ?_ | refine cS (fun _ => ?_) fun _ => ?_) | (apply gW; refine sW ?_) | (apply gI; refine sI ?_) | (apply gE; refine sE ?_) | (apply gP; refine sP ?_) | (apply gC; refine sC ?_) | (apply gD; refine sD ?_) | fail)
  refine C_loopS (κ := List Bool × Option Nat) [false, false, false, true, false, true, false, false, false, false, false, true, true, true, true, true, true, true, true, true, false] (fun k => [(3, .int .i64 (usd k.1 d.files : Int))]) (fun k => [(1, rngo mDF b r d.files k.1 k.2)]) (fun k => k.1.length = d.files.length) (fun k => k.1.count false) (List.replicate d.files.length false, none) List.length_replicate ⟨by rw [usd_none]; rfl, trivial⟩ ?_
  rintro ⟨fl, cur⟩ u hfl
  dsimp only at hfl
  ((try dsimp only); refine C_n ?_; (try simp only [Nat.reduceAdd, Nat.zero_add]))
  repeat' (first | refine go ?_ | intro _ | (apply cG; first | refine cT ?_ | refine cF ?_ | refine cS (fun _ => ?_) fun _ => ?_) | (apply gW; refine sW ?_) | (apply gI; refine sI ?_) | (apply gE; refine sE ?_) | (apply gP; refine sP ?_) | (apply gC; refine sC ?_) | (apply gD; refine sD ?_) | fail)
  have hus := usd_le fl d.files
  refine O_d (dy_next (R := mDF) (b := b) (r := r) (i := 1) (hm := rfl) Ev.pf) ?_; rintro _ _ (⟨hall, rfl, rfl⟩ | ⟨j, p2, hfj, hlj, rfl, rfl⟩)
  · refine O_n ?_
    rw [usd_all hfl hall]
    repeat' (first | refine go ?_ | intro _ | (apply cG; first | refine cT ?_ | refine cF ?_ | refine cS (fun _ => ?_) fun _ => ?_) | (apply gW; refine sW ?_) | (apply gI; refine sI ?_) | (apply gE; refine sE ?_) | (apply gP; refine sP ?_) | (apply gC; refine sC ?_) | (apply gD; refine sD ?_) | fail)
    refine E_sub (S := rngo mDF b r d.files fl cur :: cel p [.map (some b), .int .i64 d.room, .bool d.off, .bool d.armed, .int .i64 d.left] 73 :: L) Sb ?_
    refine E_sub sub_rng_close ?_
    refine E_sub (S := cel p [.map (some b), .int .i64 d.room, .bool d.off, .bool d.armed, .int .i64 d.left] 73 :: mapo mDF b d.files :: L) Sb ?_
    refine E_res1 (by rfl) (by rfl) ⟨rfl, rfl⟩ Sb
  · refine O_n ?_
    try simp only [List.set_cons_succ, List.set_cons_zero]
    refine O_sub (rngo_imp (R := mDF) (b := b) (r := r) (.tail _ (.head _)) hlj) ?_
    refine O_sub (S := rd eB p2.2.v p2.2.b :: cel p [.map (some b), .int .i64 d.room, .bool d.off, .bool d.armed, .int .i64 d.left] 73 :: rngo mDF b r d.files (fl.set j true) (some j) :: L) (Sub.refl _) ?_
    refine O_fact (fun w s => (Src.sl (.inl (.head _)) s : Sl _ eB p2.2.v p2.2.b).form) ?_
    rintro ⟨A, c, hf, hc⟩
    have hset := usd_set hfj hlj
    have hlen := used_mem hlj
    obtain ⟨k2, v2, b2, d2⟩ := p2
    dsimp only at hf hset hlen
    subst hf
    have hset2 := usd_le (fl.set j true) d.files
    simp only [mDF_val]
    repeat' (first | refine go ?_ | intro _ | (apply cG; first | refine cT ?_ | refine cF ?_ | refine cS (fun _ => ?_) fun _ => ?_) | (apply gW; refine sW ?_) | (apply gI; refine sI ?_) | (apply gE; refine sE ?_) | (apply gP; refine sP ?_) | (apply gC; refine sC ?_) | (apply gD; refine sD ?_) | fail)
    refine O_s (sv_entry (R := mDF) (b := b) (r := r) (j := j) (by repeat (first | exact .head _ | refine .tail _ ?_)) Ev.pf hlj) ?_
    simp only [mDF_val]
    repeat' (first | refine go ?_ | intro _ | (apply cG; first | refine cT ?_ | refine cF ?_ | refine cS (fun _ => ?_) fun _ => ?_) | (apply gW; refine sW ?_) | (apply gI; refine sI ?_) | (apply gE; refine sE ?_) | (apply gP; refine sP ?_) | (apply gC; refine sC ?_) | (apply gD; refine sD ?_) | fail)
    have hs2 : (usd fl d.files : Int) + (b2.length : Int) = (usd (fl.set j true) d.files : Int) := by rw [hset]; exact (Int.natCast_add _ _).symm
    rw [hs2]
    exact E_round (fl.set j true, some j) (by rw [List.length_set]; exact hfl) (left_lt hfj) ⟨rfl, trivial⟩ Sb
theorem dUsed_at {p b : Nat} {d : DK} (hu : usedL d.files ≤ 1000000000000) : CT Try.prog 36 #[.pointer (some ⟨p, 0, none⟩)] W0 (cel p [.map (some b), .int .i64 d.room, .bool d.off, .bool d.armed, .int .i64 d.left] 73 :: mapo mDF b d.files :: L) fun r L' => r = .int .i64 (usedL d.files : Int) ∧ L' = cel p [.map (some b), .int .i64 d.room, .bool d.off, .bool d.armed, .int .i64 d.left] 73 :: mapo mDF b d.files :: L := dUsed_o hu
theorem dUsed_ct {p : Nat} {d : DK} (hu : usedL d.files ≤ 1000000000000) : CT Try.prog 36 #[.pointer (some ⟨p, 0, none⟩)] W0 (dsk p d :: L) fun r L' => r = .int .i64 (usedL d.files : Int) ∧ L' = dsk p d :: L :=
  dsk_ct fun b => (dUsed_o hu).into fun r L' ⟨h1, h2⟩ => ⟨_, ⟨h1, rfl⟩, h2 ▸ dsk_sub⟩
theorem dStep_ct {R : MEnc DF} {p : Nat} {d : DK} (h1 : -4611686018427387904 ≤ d.left) (h2 : d.left ≤ 9223372036854775807) : CT Try.prog 61 #[.pointer (some ⟨p, 0, none⟩)] W0 (dskG R p d :: L) fun r L' => r = .bool (stepF d).2 ∧ L' = dskG R p (stepF d).1 :: L := by
  refine dsk_ct fun b => ?_
  obtain ⟨files, room, off, armed, left⟩ := d
  dsimp only at h1 h2
  dsimp only
  refine CT_enter Try.func61 rfl ?_; (simp only [Try.ntmps61, List.size_toArray, List.length_cons, List.length_nil, Nat.reduceAdd, Nat.reduceSub, Array.replicate_succ, Array.replicate_zero, List.push_toArray, List.append_toArray, List.nil_append, List.cons_append])
  cases armed
  · repeat' (first | refine go ?_ | intro _ | (apply cG; first | refine cT ?_ | refine cF ?_ | refine cS (fun _ => ?_) fun _ => ?_) | (apply gW; refine sW ?_) | (apply gI; refine sI ?_) | (apply gE; refine sE ?_) | (apply gP; refine sP ?_) | (apply gC; refine sC ?_) | (apply gD; refine sD ?_) | fail)
    refine E_sub (dsk_sub (d := ⟨files, room, off, false, left⟩)) ?_
    refine E_res1 (by rfl) (by rfl) ⟨rfl, rfl⟩ Sb
  by_cases hl : left - 1 < 0
  · have he : stepF ⟨files, room, off, true, left⟩ = (⟨files, room, true, false, left - 1⟩, false) := by
      unfold stepF
      rw [if_pos rfl, if_pos hl]
    rw [he]
    repeat' (first | refine go ?_ | intro _ | (apply cG; first | refine cT ?_ | refine cF ?_ | refine cS (fun _ => ?_) fun _ => ?_) | (apply gW; refine sW ?_) | (apply gI; refine sI ?_) | (apply gE; refine sE ?_) | (apply gP; refine sP ?_) | (apply gC; refine sC ?_) | (apply gD; refine sD ?_) | fail)
    refine E_sub (dsk_sub (d := ⟨files, room, true, false, left - 1⟩)) ?_
    refine E_res1 (by rfl) (by rfl) ⟨rfl, rfl⟩ Sb
  · have he : stepF ⟨files, room, off, true, left⟩ = (⟨files, room, off, true, left - 1⟩, !off) := by
      unfold stepF
      rw [if_pos rfl, if_neg hl]
    rw [he]
    cases off
    · repeat' (first | refine go ?_ | intro _ | (apply cG; first | refine cT ?_ | refine cF ?_ | refine cS (fun _ => ?_) fun _ => ?_) | (apply gW; refine sW ?_) | (apply gI; refine sI ?_) | (apply gE; refine sE ?_) | (apply gP; refine sP ?_) | (apply gC; refine sC ?_) | (apply gD; refine sD ?_) | fail)
      refine E_sub (dsk_sub (d := ⟨files, room, false, true, left - 1⟩)) ?_
      refine E_res1 (by rfl) (by rfl) ⟨rfl, rfl⟩ Sb
    · repeat' (first | refine go ?_ | intro _ | (apply cG; first | refine cT ?_ | refine cF ?_ | refine cS (fun _ => ?_) fun _ => ?_) | (apply gW; refine sW ?_) | (apply gI; refine sI ?_) | (apply gE; refine sE ?_) | (apply gP; refine sP ?_) | (apply gC; refine sC ?_) | (apply gD; refine sD ?_) | fail)
      refine E_sub (dsk_sub (d := ⟨files, room, true, true, left - 1⟩)) ?_
      refine E_res1 (by rfl) (by rfl) ⟨rfl, rfl⟩ Sb
theorem dSet_ct {R : MEnc DF} {p : Nat} {d : DK} {n : Int} {x : DF} {c m : Nat} {A : Option Addr} (hv : x.v = .slice A m c) (hR : ∀ y, R.val y = .agg #[y.v, .int .i64 y.d]) (hi : ∀ m h, SepL m L h → (R.im x).r m) (hm : x.b.length = m := by rfl) :
    CT Try.prog 45 #[.pointer (some ⟨p, 0, none⟩), .int .i64 n, .agg #[.slice A m c, .int .i64 x.d]] W0 (dskG R p d :: L) fun r L' => r = .tuple #[] ∧ L' = dskG R p { d with files := setF n x d.files } :: L := by
  subst hm
  refine dsk_ct fun b => ?_
  have hRv := hR x
  rw [hv] at hRv
  refine CT_enter Try.func45 rfl ?_; (simp only [Try.ntmps45, List.size_toArray, List.length_cons, List.length_nil, Nat.reduceAdd, Nat.reduceSub, Array.replicate_succ, Array.replicate_zero, List.push_toArray, List.append_toArray, List.nil_append, List.cons_append])
  repeat' (first | refine go ?_ | intro _ | (apply cG; first | refine cT ?_ | refine cF ?_ | refine cS (fun _ => ?_) fun _ => ?_) | (apply gW; refine sW ?_) | (apply gI; refine sI ?_) | (apply gE; refine sE ?_) | (apply gP; refine sP ?_) | (apply gC; refine sC ?_) | (apply gD; refine sD ?_) | fail)
  rename_i bx
  refine C_draw (n := 99) [cel bx [.slice A x.b.length c, .int .i64 x.d] 77, cel p [.map (some b), .int .i64 d.room, .bool d.off, .bool d.armed, .int .i64 d.left] 73] [(0, 1), (1, 1), (2, 1), (3, 1), (4, 1), (5, 1), (6, 0)] (by kernel_rfl) (by kernel_rfl) Sb ?_
  repeat' (first | refine go ?_ | intro _ | (apply cG; first | refine cT ?_ | refine cF ?_ | refine cS (fun _ => ?_) fun _ => ?_) | (apply gW; refine sW ?_) | (apply gI; refine sI ?_) | (apply gE; refine sE ?_) | (apply gP; refine sP ?_) | (apply gC; refine sC ?_) | (apply gD; refine sD ?_) | fail)
  refine D_op rfl ?_; refine X_d (dy_put (R := R) (i := 2) x rfl Ev.pf Ev.pf (Ev.pf.trans hRv.symm) EAt.pf (fun m h hs => hi m _ hs.tail.tail)) ?_; rintro _ _ ⟨rfl, hLL⟩; replace hLL := hLL.trans SAt.pf; subst hLL; refine ⟨(by first | exact .inl rfl | exact .inr Sb), D_n ?_⟩
  by_cases h0 : x.b.length = 0
  · repeat' (first | refine go ?_ | intro _ | (apply cG; first | refine cT ?_ | refine cF ?_ | refine cS (fun _ => ?_) fun _ => ?_) | (apply gW; refine sW ?_) | (apply gI; refine sI ?_) | (apply gE; refine sE ?_) | (apply gP; refine sP ?_) | (apply gC; refine sC ?_) | (apply gD; refine sD ?_) | fail)
    refine O_d (dy_del (R := R) (i := 2) (k := n) rfl Ev.pf Ev.pf) ?_; rintro _ _ ⟨rfl, hLL⟩; replace hLL := hLL.trans SAt.pf; subst hLL; refine O_n ?_
    repeat' (first | refine go ?_ | intro _ | (apply cG; first | refine cT ?_ | refine cF ?_ | refine cS (fun _ => ?_) fun _ => ?_) | (apply gW; refine sW ?_) | (apply gI; refine sI ?_) | (apply gE; refine sE ?_) | (apply gP; refine sP ?_) | (apply gC; refine sC ?_) | (apply gD; refine sD ?_) | fail)
    have hs : setF n x d.files = delM n (putM n x d.files) := by unfold setF; rw [if_pos h0]
    rw [hs]
    refine E_sub (S := cel p [.map (some b), .int .i64 d.room, .bool d.off, .bool d.armed, .int .i64 d.left] 73 :: mapo R b (delM n (putM n x d.files)) :: L) Sb ?_
    refine E_sub (dsk_sub (R := R) (d := { d with files := delM n (putM n x d.files) })) ?_
    refine E_end0 (by first | exact .inl rfl | exact .inr rfl) (by rfl) (by rfl) ⟨rfl, rfl⟩
  · repeat' (first | refine go ?_ | intro _ | (apply cG; first | refine cT ?_ | refine cF ?_ | refine cS (fun _ => ?_) fun _ => ?_) | (apply gW; refine sW ?_) | (apply gI; refine sI ?_) | (apply gE; refine sE ?_) | (apply gP; refine sP ?_) | (apply gC; refine sC ?_) | (apply gD; refine sD ?_) | fail)
    have hs : setF n x d.files = putM n x d.files := by unfold setF; rw [if_neg h0]
    rw [hs]
    refine E_sub (S := cel p [.map (some b), .int .i64 d.room, .bool d.off, .bool d.armed, .int .i64 d.left] 73 :: mapo R b (putM n x d.files) :: L) Sb ?_
    refine E_sub (dsk_sub (R := R) (d := { d with files := putM n x d.files })) ?_
    refine E_end0 (by first | exact .inl rfl | exact .inr rfl) (by rfl) (by rfl) ⟨rfl, rfl⟩
theorem dHarden_ct {p : Nat} {d : DK} (hk : KeysOk d.files) (hu : usedL d.files ≤ 1000000000000) : CT Try.prog 46 #[.pointer (some ⟨p, 0, none⟩)] W0 (dsk p d :: L) fun r L' => r = .tuple #[] ∧ L' = dsk p { d with files := hardL d.files } :: L := by
  refine dsk_ct fun b => ?_
  refine CT_enter Try.func46 rfl ?_; (simp only [Try.ntmps46, List.size_toArray, List.length_cons, List.length_nil, Nat.reduceAdd, Nat.reduceSub, Array.replicate_succ, Array.replicate_zero, List.push_toArray, List.append_toArray, List.nil_append, List.cons_append])
  repeat' (first | refine go ?_ | intro _ | (apply cG; first | refine cT ?_ | refine cF ?_ | refine cS (fun _ => ?_) fun _ => ?_) | (apply gW; refine sW ?_) | (apply gI; refine sI ?_) | (apply gE; refine sE ?_) | (apply gP; refine sP ?_) | (apply gC; refine sC ?_) | (apply gD; refine sD ?_) | fail)
  refine O_d (dy_rangeG (R := mDF) (b := b) (i := 1) (hm := rfl) Ev.pf) ?_; rintro _ _ ⟨r, rfl, rfl⟩; refine O_n ?_
  try simp only [List.set_cons_succ, List.set_cons_zero]
  repeat' (first | refine go ?_ | intro _ | (apply cG; first | refine cT ?_ | refine cF ?_ | refine cS (fun _ => ?_) fun _ => ?_) | (apply gW; refine sW ?_) | (apply gI; refine sI ?_) | (apply gE; refine sE ?_) | (apply gP; refine sP ?_) | (apply gC; refine sC ?_) | (apply gD; refine sD ?_) | fail)
  refine C_loopS (κ := List Bool × Option Nat) [false, false, true, true, false, false, false, false, false, true, true, true, true, true, true, true, true, true, true, true, true, true, true, true, true] (fun k => []) (fun k => [(1, rngo mDF b r (hrd k.1 d.files) k.1 k.2)]) (fun k => k.1.length = d.files.length) (fun k => k.1.count false) (List.replicate d.files.length false, none) List.length_replicate trivial ?_ (by dsimp only; rw [hrd_none]; exact Sb)
  rintro ⟨fl, cur⟩ u hfl
  dsimp only at hfl
  ((try dsimp only); refine C_n ?_; (try simp only [Nat.reduceAdd, Nat.zero_add]))
  repeat' (first | refine go ?_ | intro _ | (apply cG; first | refine cT ?_ | refine cF ?_ | refine cS (fun _ => ?_) fun _ => ?_) | (apply gW; refine sW ?_) | (apply gI; refine sI ?_) | (apply gE; refine sE ?_) | (apply gP; refine sP ?_) | (apply gC; refine sC ?_) | (apply gD; refine sD ?_) | fail)
  refine O_d (dy_next (R := mDF) (b := b) (r := r) (i := 1) (hm := rfl) Ev.pf) ?_; rintro _ _ (⟨hall, rfl, rfl⟩ | ⟨j, p2, hfj, hlj, rfl, rfl⟩)
  · refine O_n ?_
    rw [hrd_all hfl hall]
    repeat' (first | refine go ?_ | intro _ | (apply cG; first | refine cT ?_ | refine cF ?_ | refine cS (fun _ => ?_) fun _ => ?_) | (apply gW; refine sW ?_) | (apply gI; refine sI ?_) | (apply gE; refine sE ?_) | (apply gP; refine sP ?_) | (apply gC; refine sC ?_) | (apply gD; refine sD ?_) | fail)
    refine E_sub (S := rngo mDF b r (hardL d.files) fl cur :: cel p [.map (some b), .int .i64 d.room, .bool d.off, .bool d.armed, .int .i64 d.left] 73 :: L) Sb ?_
    refine E_sub sub_rng_close ?_
    refine E_sub (S := cel p [.map (some b), .int .i64 d.room, .bool d.off, .bool d.armed, .int .i64 d.left] 73 :: mapo mDF b (hardL d.files) :: L) Sb ?_
    refine E_sub (dsk_sub (d := { d with files := hardL d.files })) ?_
    refine E_end0 (by first | exact .inl rfl | exact .inr rfl) (by rfl) (by rfl) ⟨rfl, rfl⟩
  · refine O_n ?_
    try simp only [List.set_cons_succ, List.set_cons_zero]
    refine O_sub (rngo_imp (R := mDF) (b := b) (r := r) (.tail _ (.head _)) hlj) ?_
    refine O_sub (S := rd eB p2.2.v p2.2.b :: cel p [.map (some b), .int .i64 d.room, .bool d.off, .bool d.armed, .int .i64 d.left] 73 :: rngo mDF b r (hrd fl d.files) (fl.set j true) (some j) :: L) (Sub.refl _) ?_
    refine O_fact (fun w s => (Src.sl (.inl (.head _)) s : Sl _ eB p2.2.v p2.2.b).form) ?_
    rintro ⟨A, c, hf, hc⟩
    have hset := hrd_at hfj hlj
    have hlen := used_mem hlj
    have hlen2 : usedL (hrd fl d.files) = usedL d.files := hrd_used fl d.files
    have hko : KeysOk (hrd fl d.files) := by unfold KeysOk; rw [hrd_keys]; exact hk
    obtain ⟨k2, v2, b2, d2⟩ := p2
    have hpos := posM_at (i := 0) hko hlj
    rw [Nat.zero_add] at hpos
    dsimp only at hf hset hlen
    subst hf
    simp only [mDF_val]
    repeat' (first | refine go ?_ | intro _ | (apply cG; first | refine cT ?_ | refine cF ?_ | refine cS (fun _ => ?_) fun _ => ?_) | (apply gW; refine sW ?_) | (apply gI; refine sI ?_) | (apply gE; refine sE ?_) | (apply gP; refine sP ?_) | (apply gC; refine sC ?_) | (apply gD; refine sD ?_) | fail)
    refine O_s (sv_entry (R := mDF) (b := b) (r := r) (j := j) (by repeat (first | exact .head _ | refine .tail _ ?_)) Ev.pf hlj) ?_
    simp only [mDF_val]
    repeat' (first | refine go ?_ | intro _ | (apply cG; first | refine cT ?_ | refine cF ?_ | refine cS (fun _ => ?_) fun _ => ?_) | (apply gW; refine sW ?_) | (apply gI; refine sI ?_) | (apply gE; refine sE ?_) | (apply gP; refine sP ?_) | (apply gC; refine sC ?_) | (apply gD; refine sD ?_) | fail)
    rename_i bx
    refine C_draw (n := 99) [cel bx [.slice A b2.length c, .int .i64 d2] 77, cel p [.map (some b), .int .i64 d.room, .bool d.off, .bool d.armed, .int .i64 d.left] 73] [(0, 1), (1, 1), (2, 1), (3, 1), (4, 1), (5, 1), (6, 1), (7, 1), (8, 1), (9, 1), (10, 1), (11, 0)] (by kernel_rfl) (by kernel_rfl) Sb ?_
    repeat' (first | refine go ?_ | intro _ | (apply cG; first | refine cT ?_ | refine cF ?_ | refine cS (fun _ => ?_) fun _ => ?_) | (apply gW; refine sW ?_) | (apply gI; refine sI ?_) | (apply gE; refine sE ?_) | (apply gP; refine sP ?_) | (apply gC; refine sC ?_) | (apply gD; refine sD ?_) | fail)
    refine D_op rfl ?_; refine X_d (dy_putR (R := mDF) (b := b) (r := r) (i := 3) (k := k2) ⟨.slice A b2.length c, b2, (b2.length : Int)⟩ rfl hpos Ev.pf Ev.pf (Ev.pf.trans (mDF_val _).symm) EAt.pf (fun m h hs => rd_mem hs (.tail _ (.head _)))) ?_; rintro _ _ ⟨rfl, hLL⟩; replace hLL := hLL.trans SAt.pf; subst hLL; refine ⟨(by first | exact .inl rfl | exact .inr Sb), D_n ?_⟩
    repeat' (first | refine go ?_ | intro _ | (apply cG; first | refine cT ?_ | refine cF ?_ | refine cS (fun _ => ?_) fun _ => ?_) | (apply gW; refine sW ?_) | (apply gI; refine sI ?_) | (apply gE; refine sE ?_) | (apply gP; refine sP ?_) | (apply gC; refine sC ?_) | (apply gD; refine sD ?_) | fail)
    refine E_round (fl.set j true, none) (by rw [List.length_set]; exact hfl) (left_lt hfj) trivial ?_
    dsimp only
    rw [← hset]
    exact Sb
theorem CT_sub2 {P : Program} {f : FuncId} {args : Array Value} {R : Value → List HP → Prop} {S : List HP} (k : Sub L S) (h : CT P f args W0 S R) : CT P f args W0 L R := h.sub k
theorem dAppend_ct {p : Nat} {files : List (Int × DF)} {room left : Int} {off armed : Bool} {n : Int} {v : Value} {b : List UInt8} (hv : Src L eB v b) (hb : b.length ≤ 1000000) (hu : usedL files ≤ 1000000000) (hr1 : 0 ≤ room) (hr2 : room ≤ 16777216) (hfl : (fileF n files).b.length ≤ 1000000000) (h1 : -4611686018427387904 ≤ left) (h2 : left ≤ 9223372036854775807) :
    CT Try.prog 37 #[.pointer (some ⟨p, 0, none⟩), .int .i64 n, v] W0 (dsk p ⟨files, room, off, armed, left⟩ :: L) fun r L' => ∃ A c, r = .int .i64 (appF ⟨files, room, off, armed, left⟩ n b (.slice A ((fileF n files).b ++ b).length c)).2 ∧ L' = dsk p (appF ⟨files, room, off, armed, left⟩ n b (.slice A ((fileF n files).b ++ b).length c)).1 :: L := by
  have hv : Sc L v eB b := ⟨hv⟩
  refine dsk_ct fun mb => ?_
  dsimp only
  refine CT_fact (fun w s => ((Sc.pf : Src _ eB v b).sl s).form) ?_
  rintro ⟨A0, c0, rfl, hc0⟩
  obtain ⟨f, hf⟩ : ∃ f, fileF n files = f := ⟨_, rfl⟩
  refine CT_sub2 (file_sub (b := mb) (k := n) (l := files) (.tail _ (.head _))) ?_
  rw [hf]
  obtain ⟨fv, fb, fd⟩ := f
  dsimp only
  refine CT_fact (fun w s => (Src.sl (.inl (.head _)) s : Sl _ eB fv fb).form) ?_
  rintro ⟨A1, c1, rfl, hc1⟩
  refine CT_sub2 (S := cel p [.map (some mb), .int .i64 room, .bool off, .bool armed, .int .i64 left] 73 :: mapo mDF mb files :: rd eB (.slice A1 fb.length c1) fb :: L) Sb ?_
  have hfl2 : fb.length ≤ 1000000000 := by rw [hf] at hfl; exact hfl
  refine CT_enter Try.func37 rfl ?_; (simp only [Try.ntmps37, List.size_toArray, List.length_cons, List.length_nil, Nat.reduceAdd, Nat.reduceSub, Array.replicate_succ, Array.replicate_zero, List.push_toArray, List.append_toArray, List.nil_append, List.cons_append])
  obtain ⟨q, hq⟩ : ∃ q, decide (0 ≤ n ∧ n < 64) = q := ⟨_, rfl⟩
  repeat' (first | refine go ?_ | intro _ | (apply cG; first | refine cT ?_ | refine cF ?_ | refine cS (fun _ => ?_) fun _ => ?_) | (apply gW; refine sW ?_) | (apply gI; refine sI ?_) | (apply gE; refine sE ?_) | (apply gP; refine sP ?_) | (apply gC; refine sC ?_) | (apply gD; refine sD ?_) | fail)
  refine O_d (dy_call ArgsI.pf (by first | exact rfl | trivial | (intro a b; rfl)) (dExists_ct hq)) ?_; rintro _ _ ⟨_, ⟨rfl, hLL⟩, rfl⟩; replace hLL := hLL.symm; subst hLL; refine O_n ?_
  cases q
  · have hn := of_decide_eq_false hq
    repeat' (first | refine go ?_ | intro _ | (apply cG; first | refine cT ?_ | refine cF ?_ | refine cS (fun _ => ?_) fun _ => ?_) | (apply gW; refine sW ?_) | (apply gI; refine sI ?_) | (apply gE; refine sE ?_) | (apply gP; refine sP ?_) | (apply gC; refine sC ?_) | (apply gD; refine sD ?_) | fail)
    refine E_res1 (by rfl) (by rfl) ⟨none, 0, by unfold appF; rw [if_neg hn], by unfold appF; rw [if_neg hn]⟩ (Sub.trans (B := cel p [.map (some mb), .int .i64 room, .bool off, .bool armed, .int .i64 left] 73 :: mapo mDF mb files :: L) Sb (dsk_sub (R := mDF) (d := ⟨files, room, off, armed, left⟩)))
  have hn := of_decide_eq_true hq
  cases off
  rotate_left
  · repeat' (first | refine go ?_ | intro _ | (apply cG; first | refine cT ?_ | refine cF ?_ | refine cS (fun _ => ?_) fun _ => ?_) | (apply gW; refine sW ?_) | (apply gI; refine sI ?_) | (apply gE; refine sE ?_) | (apply gP; refine sP ?_) | (apply gC; refine sC ?_) | (apply gD; refine sD ?_) | fail)
    refine E_res1 (by rfl) (by rfl) ⟨none, 0, by unfold appF; rw [if_pos hn, if_pos rfl], by unfold appF; rw [if_pos hn, if_pos rfl]⟩ (Sub.trans (B := cel p [.map (some mb), .int .i64 room, .bool true, .bool armed, .int .i64 left] 73 :: mapo mDF mb files :: L) Sb (dsk_sub (R := mDF) (d := ⟨files, room, true, armed, left⟩)))
  repeat' (first | refine go ?_ | intro _ | (apply cG; first | refine cT ?_ | refine cF ?_ | refine cS (fun _ => ?_) fun _ => ?_) | (apply gW; refine sW ?_) | (apply gI; refine sI ?_) | (apply gE; refine sE ?_) | (apply gP; refine sP ?_) | (apply gC; refine sC ?_) | (apply gD; refine sD ?_) | fail)
  refine C_draw (n := 99) [cel p [.map (some mb), .int .i64 room, .bool false, .bool armed, .int .i64 left] 73] [(0, 1), (1, 1), (2, 1), (3, 1), (4, 1), (5, 1), (6, 1), (7, 0), (8, 1), (9, 1), (10, 1)] (by kernel_rfl) (by kernel_rfl) Sb ?_
  repeat' (first | refine go ?_ | intro _ | (apply cG; first | refine cT ?_ | refine cF ?_ | refine cS (fun _ => ?_) fun _ => ?_) | (apply gW; refine sW ?_) | (apply gI; refine sI ?_) | (apply gE; refine sE ?_) | (apply gP; refine sP ?_) | (apply gC; refine sC ?_) | (apply gD; refine sD ?_) | fail)
  refine D_op rfl ?_; refine X_d (dy_call ArgsI.pf (by first | exact rfl | trivial | (intro a b; rfl)) (dUsed_at (b := mb) (d := ⟨files, room, false, armed, left⟩) (by dsimp only; omega))) ?_; rintro _ _ ⟨_, ⟨rfl, hLL⟩, rfl⟩; replace hLL := hLL.symm; subst hLL; refine ⟨(by first | exact .inl rfl | exact .inr Sb), D_n ?_⟩
  dsimp only
  by_cases hfull : room - (usedL files : Int) < (b.length : Int)
  · repeat' (first | refine go ?_ | intro _ | (apply cG; first | refine cT ?_ | refine cF ?_ | refine cS (fun _ => ?_) fun _ => ?_) | (apply gW; refine sW ?_) | (apply gI; refine sI ?_) | (apply gE; refine sE ?_) | (apply gP; refine sP ?_) | (apply gC; refine sC ?_) | (apply gD; refine sD ?_) | fail)
    refine E_res1 (by rfl) (by rfl) ⟨none, 0, by unfold appF; rw [if_pos hn, if_neg (by simp), if_pos hfull], by unfold appF; rw [if_pos hn, if_neg (by simp), if_pos hfull]⟩ (Sub.trans (B := cel p [.map (some mb), .int .i64 room, .bool false, .bool armed, .int .i64 left] 73 :: mapo mDF mb files :: L) Sb (dsk_sub (R := mDF) (d := ⟨files, room, false, armed, left⟩)))
  repeat' (first | refine go ?_ | intro _ | (apply cG; first | refine cT ?_ | refine cF ?_ | refine cS (fun _ => ?_) fun _ => ?_) | (apply gW; refine sW ?_) | (apply gI; refine sI ?_) | (apply gE; refine sE ?_) | (apply gP; refine sP ?_) | (apply gC; refine sC ?_) | (apply gD; refine sD ?_) | fail)
  refine O_s (sv_lookp (R := mDF) (b := mb) (by repeat (first | exact .head _ | refine .tail _ ?_)) Ev.pf Ev.pf (fileF_val n files)) ?_
  rw [hf]
  simp only [mDF_val]
  repeat' (first | refine go ?_ | intro _ | (apply cG; first | refine cT ?_ | refine cF ?_ | refine cS (fun _ => ?_) fun _ => ?_) | (apply gW; refine sW ?_) | (apply gI; refine sI ?_) | (apply gE; refine sE ?_) | (apply gP; refine sP ?_) | (apply gC; refine sC ?_) | (apply gD; refine sD ?_) | fail)
  refine O_d (dy_call ArgsI.pf (by first | exact rfl | trivial | (intro a b; rfl)) (Clone_ct (l := fb) Sc.pf (by omega))) ?_; rintro _ _ ⟨_, ⟨A2, c2, rfl, rfl⟩, rfl⟩; refine O_n ?_
  repeat' (first | refine go ?_ | intro _ | (apply cG; first | refine cT ?_ | refine cF ?_ | refine cS (fun _ => ?_) fun _ => ?_) | (apply gW; refine sW ?_) | (apply gI; refine sI ?_) | (apply gE; refine sE ?_) | (apply gP; refine sP ?_) | (apply gC; refine sC ?_) | (apply gD; refine sD ?_) | fail)
  rename_i A3 c3
  refine O_frz 0 ?_
  refine O_sub (S := dsk p ⟨files, room, false, armed, left⟩ :: rd eB (.slice A3 (fb.length + b.length) c3) (fb ++ b) :: L) (Sub.trans (B := cel p [.map (some mb), .int .i64 room, .bool false, .bool armed, .int .i64 left] 73 :: mapo mDF mb files :: rd eB (.slice A3 (fb.length + b.length) c3) (fb ++ b) :: L) Sb (dsk_sub (R := mDF) (d := ⟨files, room, false, armed, left⟩))) ?_
  have hla : fb.length + b.length = (fb ++ b).length := by rw [List.length_append]
  rw [hla]
  refine O_d (dy_call ArgsI.pf (by first | exact rfl | trivial | (intro a b; rfl)) (CT.pull (i := 0) (by rfl) (dSet_ct (R := mDF) (x := ⟨.slice A3 (fb ++ b).length c3, fb ++ b, fd⟩) rfl mDF_val (fun m h hs => rd_mem hs (.head _))))) ?_; rintro _ _ ⟨_, ⟨rfl, rfl⟩, rfl⟩; refine O_n ?_
  dsimp only
  obtain ⟨F2, hF2⟩ : ∃ F2, setF n ⟨.slice A3 (fb ++ b).length c3, fb ++ b, fd⟩ files = F2 := ⟨_, rfl⟩
  rw [hF2]
  repeat' (first | refine go ?_ | intro _ | (apply cG; first | refine cT ?_ | refine cF ?_ | refine cS (fun _ => ?_) fun _ => ?_) | (apply gW; refine sW ?_) | (apply gI; refine sI ?_) | (apply gE; refine sE ?_) | (apply gP; refine sP ?_) | (apply gC; refine sC ?_) | (apply gD; refine sD ?_) | fail)
  refine O_d (dy_call ArgsI.pf (by first | exact rfl | trivial | (intro a b; rfl)) (CT.pull (i := 0) (by rfl) (dStep_ct (R := mDF) (d := ⟨F2, room, false, armed, left⟩) h1 h2))) ?_; rintro _ _ ⟨_, ⟨rfl, rfl⟩, rfl⟩; refine O_n ?_
  obtain ⟨d2, s2, hs2⟩ : ∃ d2 s2, stepF ⟨F2, room, false, armed, left⟩ = (d2, s2) := ⟨_, _, rfl⟩
  rw [hs2]
  have hap : appF ⟨files, room, false, armed, left⟩ n b (.slice A3 (fb ++ b).length c3) = (d2, if s2 then 0 else 21) := by
    unfold appF
    rw [if_pos hn, if_neg (by simp), if_neg hfull]
    dsimp only
    rw [hf, hF2, hs2]
  dsimp only
  cases s2
  · repeat' (first | refine go ?_ | intro _ | (apply cG; first | refine cT ?_ | refine cF ?_ | refine cS (fun _ => ?_) fun _ => ?_) | (apply gW; refine sW ?_) | (apply gI; refine sI ?_) | (apply gE; refine sE ?_) | (apply gP; refine sP ?_) | (apply gC; refine sC ?_) | (apply gD; refine sD ?_) | fail)
    refine E_res1 (by rfl) (by rfl) ⟨A3, c3, by rw [hap], by rw [hap]⟩ Sb
  · repeat' (first | refine go ?_ | intro _ | (apply cG; first | refine cT ?_ | refine cF ?_ | refine cS (fun _ => ?_) fun _ => ?_) | (apply gW; refine sW ?_) | (apply gI; refine sI ?_) | (apply gE; refine sE ?_) | (apply gP; refine sP ?_) | (apply gC; refine sC ?_) | (apply gD; refine sD ?_) | fail)
    refine E_res1 (by rfl) (by rfl) ⟨A3, c3, by rw [hap], by rw [hap]⟩ Sb
theorem dRead_ct {p : Nat} {files : List (Int × DF)} {room left : Int} {armed : Bool} {n : Int} (hfl : (fileF n files).b.length ≤ 1000000000) (hn : 0 ≤ n ∧ n < 64) : CT Try.prog 39 #[.pointer (some ⟨p, 0, none⟩), .int .i64 n] W0 (dsk p ⟨files, room, false, armed, left⟩ :: L) fun r L' => ∃ A c, r = .tuple #[.slice A (fileF n files).b.length c, .int .i64 0] ∧ L' = own 5 eB (.slice A (fileF n files).b.length c) (fileF n files).b :: dsk p ⟨files, room, false, armed, left⟩ :: L := by
  refine dsk_ct fun mb => ?_
  dsimp only
  obtain ⟨f, hf⟩ : ∃ f, fileF n files = f := ⟨_, rfl⟩
  refine CT_sub2 (file_sub (b := mb) (k := n) (l := files) (.tail _ (.head _))) ?_
  rw [hf]
  obtain ⟨fv, fb, fd⟩ := f
  dsimp only
  refine CT_fact (fun w s => (Src.sl (.inl (.head _)) s : Sl _ eB fv fb).form) ?_
  rintro ⟨A1, c1, rfl, hc1⟩
  refine CT_sub2 (S := cel p [.map (some mb), .int .i64 room, .bool false, .bool armed, .int .i64 left] 73 :: mapo mDF mb files :: rd eB (.slice A1 fb.length c1) fb :: L) Sb ?_
  have hfl2 : fb.length ≤ 1000000000 := by rw [hf] at hfl; exact hfl
  refine CT_enter Try.func39 rfl ?_; (simp only [Try.ntmps39, List.size_toArray, List.length_cons, List.length_nil, Nat.reduceAdd, Nat.reduceSub, Array.replicate_succ, Array.replicate_zero, List.push_toArray, List.append_toArray, List.nil_append, List.cons_append])
  repeat' (first | refine go ?_ | intro _ | (apply cG; first | refine cT ?_ | refine cF ?_ | refine cS (fun _ => ?_) fun _ => ?_) | (apply gW; refine sW ?_) | (apply gI; refine sI ?_) | (apply gE; refine sE ?_) | (apply gP; refine sP ?_) | (apply gC; refine sC ?_) | (apply gD; refine sD ?_) | fail)
  refine O_d (dy_call ArgsI.pf (by first | exact rfl | trivial | (intro a b; rfl)) (dExists_ct (q := true) (decide_eq_true hn))) ?_; rintro _ _ ⟨_, ⟨rfl, hLL⟩, rfl⟩; replace hLL := hLL.symm; subst hLL; refine O_n ?_
  repeat' (first | refine go ?_ | intro _ | (apply cG; first | refine cT ?_ | refine cF ?_ | refine cS (fun _ => ?_) fun _ => ?_) | (apply gW; refine sW ?_) | (apply gI; refine sI ?_) | (apply gE; refine sE ?_) | (apply gP; refine sP ?_) | (apply gC; refine sC ?_) | (apply gD; refine sD ?_) | fail)
  refine O_s (sv_lookp (R := mDF) (b := mb) (by repeat (first | exact .head _ | refine .tail _ ?_)) Ev.pf Ev.pf (fileF_val n files)) ?_
  rw [hf]
  simp only [mDF_val]
  repeat' (first | refine go ?_ | intro _ | (apply cG; first | refine cT ?_ | refine cF ?_ | refine cS (fun _ => ?_) fun _ => ?_) | (apply gW; refine sW ?_) | (apply gI; refine sI ?_) | (apply gE; refine sE ?_) | (apply gP; refine sP ?_) | (apply gC; refine sC ?_) | (apply gD; refine sD ?_) | fail)
  refine O_d (dy_call ArgsI.pf (by first | exact rfl | trivial | (intro a b; rfl)) (Clone_ct (l := fb) Sc.pf (by omega))) ?_; rintro _ _ ⟨_, ⟨A2, c2, rfl, rfl⟩, rfl⟩; refine O_n ?_
  repeat' (first | refine go ?_ | intro _ | (apply cG; first | refine cT ?_ | refine cF ?_ | refine cS (fun _ => ?_) fun _ => ?_) | (apply gW; refine sW ?_) | (apply gI; refine sI ?_) | (apply gE; refine sE ?_) | (apply gP; refine sP ?_) | (apply gC; refine sC ?_) | (apply gD; refine sD ?_) | fail)
  refine E_res2 (by rfl) (by rfl) ⟨A2, c2, rfl, rfl⟩ (Sub.trans (B := own 5 eB (.slice A2 fb.length c2) fb :: cel p [.map (some mb), .int .i64 room, .bool false, .bool armed, .int .i64 left] 73 :: mapo mDF mb files :: L) Sb (sub_skip (dsk_sub (R := mDF) (d := ⟨files, room, false, armed, left⟩))))
theorem dRead_no {p : Nat} {files : List (Int × DF)} {room left : Int} {off armed : Bool} {n e : Int} (he : (¬ (0 ≤ n ∧ n < 64) ∧ e = 1) ∨ ((0 ≤ n ∧ n < 64) ∧ off = true ∧ e = 21)) : CT Try.prog 39 #[.pointer (some ⟨p, 0, none⟩), .int .i64 n] W0 (dsk p ⟨files, room, off, armed, left⟩ :: L) fun r L' => r = .tuple #[.slice none 0 0, .int .i64 e] ∧ L' = dsk p ⟨files, room, off, armed, left⟩ :: L := by
  refine dsk_ct fun mb => ?_
  dsimp only
  refine CT_enter Try.func39 rfl ?_; (simp only [Try.ntmps39, List.size_toArray, List.length_cons, List.length_nil, Nat.reduceAdd, Nat.reduceSub, Array.replicate_succ, Array.replicate_zero, List.push_toArray, List.append_toArray, List.nil_append, List.cons_append])
  repeat' (first | refine go ?_ | intro _ | (apply cG; first | refine cT ?_ | refine cF ?_ | refine cS (fun _ => ?_) fun _ => ?_) | (apply gW; refine sW ?_) | (apply gI; refine sI ?_) | (apply gE; refine sE ?_) | (apply gP; refine sP ?_) | (apply gC; refine sC ?_) | (apply gD; refine sD ?_) | fail)
  rcases he with ⟨hn, rfl⟩ | ⟨hn, rfl, rfl⟩
  · refine O_d (dy_call ArgsI.pf (by first | exact rfl | trivial | (intro a b; rfl)) (dExists_ct (q := false) (decide_eq_false hn))) ?_; rintro _ _ ⟨_, ⟨rfl, hLL⟩, rfl⟩; replace hLL := hLL.symm; subst hLL; refine O_n ?_
    repeat' (first | refine go ?_ | intro _ | (apply cG; first | refine cT ?_ | refine cF ?_ | refine cS (fun _ => ?_) fun _ => ?_) | (apply gW; refine sW ?_) | (apply gI; refine sI ?_) | (apply gE; refine sE ?_) | (apply gP; refine sP ?_) | (apply gC; refine sC ?_) | (apply gD; refine sD ?_) | fail)
    refine E_res2 (by rfl) (by rfl) ⟨rfl, rfl⟩ (Sub.trans (B := cel p [.map (some mb), .int .i64 room, .bool off, .bool armed, .int .i64 left] 73 :: mapo mDF mb files :: L) Sb (dsk_sub (R := mDF) (d := ⟨files, room, off, armed, left⟩)))
  · refine O_d (dy_call ArgsI.pf (by first | exact rfl | trivial | (intro a b; rfl)) (dExists_ct (q := true) (decide_eq_true hn))) ?_; rintro _ _ ⟨_, ⟨rfl, hLL⟩, rfl⟩; replace hLL := hLL.symm; subst hLL; refine O_n ?_
    repeat' (first | refine go ?_ | intro _ | (apply cG; first | refine cT ?_ | refine cF ?_ | refine cS (fun _ => ?_) fun _ => ?_) | (apply gW; refine sW ?_) | (apply gI; refine sI ?_) | (apply gE; refine sE ?_) | (apply gP; refine sP ?_) | (apply gC; refine sC ?_) | (apply gD; refine sD ?_) | fail)
    refine E_res2 (by rfl) (by rfl) ⟨rfl, rfl⟩ (Sub.trans (B := cel p [.map (some mb), .int .i64 room, .bool true, .bool armed, .int .i64 left] 73 :: mapo mDF mb files :: L) Sb (dsk_sub (R := mDF) (d := ⟨files, room, true, armed, left⟩)))
/-- Sync -/
theorem dSync_ct {p : Nat} {files : List (Int × DF)} {room left : Int} {off armed : Bool} (hk : KeysOk files) (hu : usedL files ≤ 1000000000) (h1 : -4611686018427387904 ≤ left) (h2 : left ≤ 9223372036854775807) :
    CT Try.prog 41 #[.pointer (some ⟨p, 0, none⟩)] W0 (dsk p ⟨files, room, off, armed, left⟩ :: L) fun r L' => r = .int .i64 (syncF ⟨files, room, off, armed, left⟩).2 ∧ L' = dsk p (syncF ⟨files, room, off, armed, left⟩).1 :: L := by
  refine dsk_ct fun mb => ?_
  dsimp only
  refine CT_enter Try.func41 rfl ?_; (simp only [Try.ntmps41, List.size_toArray, List.length_cons, List.length_nil, Nat.reduceAdd, Nat.reduceSub, Array.replicate_succ, Array.replicate_zero, List.push_toArray, List.append_toArray, List.nil_append, List.cons_append])
  cases off
  rotate_left
  · repeat' (first | refine go ?_ | intro _ | (apply cG; first | refine cT ?_ | refine cF ?_ | refine cS (fun _ => ?_) fun _ => ?_) | (apply gW; refine sW ?_) | (apply gI; refine sI ?_) | (apply gE; refine sE ?_) | (apply gP; refine sP ?_) | (apply gC; refine sC ?_) | (apply gD; refine sD ?_) | fail)
    refine E_res1 (by rfl) (by rfl) ⟨rfl, rfl⟩ (Sub.trans (B := cel p [.map (some mb), .int .i64 room, .bool true, .bool armed, .int .i64 left] 73 :: mapo mDF mb files :: L) Sb (dsk_sub (R := mDF) (d := ⟨files, room, true, armed, left⟩)))
  repeat' (first | refine go ?_ | intro _ | (apply cG; first | refine cT ?_ | refine cF ?_ | refine cS (fun _ => ?_) fun _ => ?_) | (apply gW; refine sW ?_) | (apply gI; refine sI ?_) | (apply gE; refine sE ?_) | (apply gP; refine sP ?_) | (apply gC; refine sC ?_) | (apply gD; refine sD ?_) | fail)
  refine O_sub (S := dsk p ⟨files, room, false, armed, left⟩ :: L) (dsk_sub (R := mDF) (d := ⟨files, room, false, armed, left⟩)) ?_
  refine O_d (dy_call ArgsI.pf (by first | exact rfl | trivial | (intro a b; rfl)) (CT.pull (i := 0) (by rfl) (dStep_ct (R := mDF) (d := ⟨files, room, false, armed, left⟩) h1 h2))) ?_; rintro _ _ ⟨_, ⟨rfl, rfl⟩, rfl⟩; refine O_n ?_
  obtain ⟨d2, s2, hs2⟩ : ∃ d2 s2, stepF ⟨files, room, false, armed, left⟩ = (d2, s2) := ⟨_, _, rfl⟩
  rw [hs2]
  have hf2 : d2.files = files := by
    have := stepF_files ⟨files, room, false, armed, left⟩
    rw [hs2] at this
    exact this
  have hap : syncF ⟨files, room, false, armed, left⟩ = if s2 then ({ d2 with files := hardL d2.files }, 0) else (d2, 21) := by
    unfold syncF
    rw [if_neg (by simp), hs2]
  rw [hap]
  dsimp only
  cases s2
  · repeat' (first | refine go ?_ | intro _ | (apply cG; first | refine cT ?_ | refine cF ?_ | refine cS (fun _ => ?_) fun _ => ?_) | (apply gW; refine sW ?_) | (apply gI; refine sI ?_) | (apply gE; refine sE ?_) | (apply gP; refine sP ?_) | (apply gC; refine sC ?_) | (apply gD; refine sD ?_) | fail)
    refine E_res1 (by rfl) (by rfl) ⟨rfl, rfl⟩ Sb
  · repeat' (first | refine go ?_ | intro _ | (apply cG; first | refine cT ?_ | refine cF ?_ | refine cS (fun _ => ?_) fun _ => ?_) | (apply gW; refine sW ?_) | (apply gI; refine sI ?_) | (apply gE; refine sE ?_) | (apply gP; refine sP ?_) | (apply gC; refine sC ?_) | (apply gD; refine sD ?_) | fail)
    refine O_d (dy_call ArgsI.pf (by first | exact rfl | trivial | (intro a b; rfl)) (CT.pull (i := 0) (by rfl) (dHarden_ct (d := d2) (by rw [hf2]; exact hk) (by rw [hf2]; omega)))) ?_; rintro _ _ ⟨_, ⟨rfl, rfl⟩, rfl⟩; refine O_n ?_
    repeat' (first | refine go ?_ | intro _ | (apply cG; first | refine cT ?_ | refine cF ?_ | refine cS (fun _ => ?_) fun _ => ?_) | (apply gW; refine sW ?_) | (apply gI; refine sI ?_) | (apply gE; refine sE ?_) | (apply gP; refine sP ?_) | (apply gC; refine sC ?_) | (apply gD; refine sD ?_) | fail)
    refine E_res1 (by rfl) (by rfl) ⟨rfl, rfl⟩ Sb
theorem dArm_ct {p : Nat} {files : List (Int × DF)} {room left : Int} {armed : Bool} {n : Int} : CT Try.prog 12 #[.pointer (some ⟨p, 0, none⟩), .int .i64 n] W0 (dsk p ⟨files, room, false, armed, left⟩ :: L) fun r L' => r = .tuple #[] ∧ L' = dsk p ⟨files, room, false, decide (0 ≤ n), n⟩ :: L := by
  refine dsk_ct fun mb => ?_
  dsimp only
  refine CT_enter Try.func12 rfl ?_; (simp only [Try.ntmps12, List.size_toArray, List.length_cons, List.length_nil, Nat.reduceAdd, Nat.reduceSub, Array.replicate_succ, Array.replicate_zero, List.push_toArray, List.append_toArray, List.nil_append, List.cons_append])
  obtain ⟨q, hq⟩ : ∃ q, decide (0 ≤ n) = q := ⟨_, rfl⟩
  cases q
  · have hn := of_decide_eq_false hq
    rw [hq]
    repeat' (first | refine go ?_ | intro _ | (apply cG; first | refine cT ?_ | refine cF ?_ | refine cS (fun _ => ?_) fun _ => ?_) | (apply gW; refine sW ?_) | (apply gI; refine sI ?_) | (apply gE; refine sE ?_) | (apply gP; refine sP ?_) | (apply gC; refine sC ?_) | (apply gD; refine sD ?_) | fail)
    refine E_sub (S := dsk p ⟨files, room, false, false, n⟩ :: L) (Sub.trans (B := cel p [.map (some mb), .int .i64 room, .bool false, .bool false, .int .i64 n] 73 :: mapo mDF mb files :: L) Sb (dsk_sub (R := mDF) (d := ⟨files, room, false, false, n⟩))) ?_
    refine E_end0 (by first | exact .inl rfl | exact .inr rfl) (by rfl) (by rfl) ⟨rfl, rfl⟩
  · have hn := of_decide_eq_true hq
    rw [hq]
    repeat' (first | refine go ?_ | intro _ | (apply cG; first | refine cT ?_ | refine cF ?_ | refine cS (fun _ => ?_) fun _ => ?_) | (apply gW; refine sW ?_) | (apply gI; refine sI ?_) | (apply gE; refine sE ?_) | (apply gP; refine sP ?_) | (apply gC; refine sC ?_) | (apply gD; refine sD ?_) | fail)
    refine E_sub (S := dsk p ⟨files, room, false, true, n⟩ :: L) (Sub.trans (B := cel p [.map (some mb), .int .i64 room, .bool false, .bool true, .int .i64 n] 73 :: mapo mDF mb files :: L) Sb (dsk_sub (R := mDF) (d := ⟨files, room, false, true, n⟩))) ?_
    refine E_end0 (by first | exact .inl rfl | exact .inr rfl) (by rfl) (by rfl) ⟨rfl, rfl⟩
theorem rd_cut {α : Type} {R : Enc α} {A : Option Addr} {n c N : Nat} {l : List α} (hm : rd R (.slice A n c) l ∈ L) (hN : N ≤ n) : Sub L (rd R (.slice A N c) (l.take N) :: L) := fun m h s =>
  ⟨Hp.none, h, Hp.none_dj _, Hp.none_le _, Hp.le_refl _, Sl.cut0 (rd_mem s hm) hN, s⟩
theorem dTrunc_ct {p : Nat} {files : List (Int × DF)} {room left : Int} {armed : Bool} {n : Int} {N : Nat} (hn : 0 ≤ n ∧ n < 64) (hN : N ≤ (fileF n files).b.length) (hfl : (fileF n files).b.length ≤ 1000000000) (hd1 : 0 ≤ (fileF n files).d) (hd2 : (fileF n files).d ≤ 1000000000) (h1 : -4611686018427387904 ≤ left) (h2 : left ≤ 9223372036854775807) :
    CT Try.prog 40 #[.pointer (some ⟨p, 0, none⟩), .int .i64 n, .int .i64 (N : Int)] W0 (dsk p ⟨files, room, false, armed, left⟩ :: L) fun r L' => ∃ A c, r = .int .i64 (truncF ⟨files, room, false, armed, left⟩ n N (.slice A N c)).2 ∧ L' = dsk p (truncF ⟨files, room, false, armed, left⟩ n N (.slice A N c)).1 :: L := by
  refine dsk_ct fun mb => ?_
  dsimp only
  obtain ⟨f, hf⟩ : ∃ f, fileF n files = f := ⟨_, rfl⟩
  refine CT_sub2 (file_sub (b := mb) (k := n) (l := files) (.tail _ (.head _))) ?_
  rw [hf]
  obtain ⟨fv, fb, fd⟩ := f
  dsimp only
  refine CT_fact (fun w s => (Src.sl (.inl (.head _)) s : Sl _ eB fv fb).form) ?_
  rintro ⟨A1, c1, rfl, hc1⟩
  refine CT_sub2 (S := cel p [.map (some mb), .int .i64 room, .bool false, .bool armed, .int .i64 left] 73 :: mapo mDF mb files :: rd eB (.slice A1 fb.length c1) fb :: L) Sb ?_
  have hfl2 : fb.length ≤ 1000000000 := by rw [hf] at hfl; exact hfl
  have hN2 : N ≤ fb.length := by rw [hf] at hN; exact hN
  have hd3 : 0 ≤ fd := by rw [hf] at hd1; exact hd1
  have hd4 : fd ≤ 1000000000 := by rw [hf] at hd2; exact hd2
  refine CT_sub2 (rd_cut (N := N) (A := A1) (n := fb.length) (c := c1) (l := fb) (by repeat (first | exact .head _ | refine .tail _ ?_)) hN2) ?_
  refine CT_sub2 (S := cel p [.map (some mb), .int .i64 room, .bool false, .bool armed, .int .i64 left] 73 :: mapo mDF mb files :: rd eB (.slice A1 N c1) (fb.take N) :: L) Sb ?_
  obtain ⟨m, hm⟩ : ∃ m : Nat, min fd (N : Int) = (m : Int) := ⟨(min fd (N : Int)).toNat, by omega⟩
  have hmin : (if (N : Int) < fd then (N : Int) else fd) = (m : Int) := by split <;> omega
  have htl : (fb.take N).length = N := by rw [List.length_take]; omega
  refine CT_enter Try.func40 rfl ?_; (simp only [Try.ntmps40, List.size_toArray, List.length_cons, List.length_nil, Nat.reduceAdd, Nat.reduceSub, Array.replicate_succ, Array.replicate_zero, List.push_toArray, List.append_toArray, List.nil_append, List.cons_append])
  repeat' (first | refine go ?_ | intro _ | (apply cG; first | refine cT ?_ | refine cF ?_ | refine cS (fun _ => ?_) fun _ => ?_) | (apply gW; refine sW ?_) | (apply gI; refine sI ?_) | (apply gE; refine sE ?_) | (apply gP; refine sP ?_) | (apply gC; refine sC ?_) | (apply gD; refine sD ?_) | fail)
  refine O_s (sv_lookp (R := mDF) (b := mb) (by repeat (first | exact .head _ | refine .tail _ ?_)) Ev.pf Ev.pf (fileF_val n files)) ?_
  rw [hf]
  simp only [mDF_val]
  repeat' (first | refine go ?_ | intro _ | (apply cG; first | refine cT ?_ | refine cF ?_ | refine cS (fun _ => ?_) fun _ => ?_) | (apply gW; refine sW ?_) | (apply gI; refine sI ?_) | (apply gE; refine sE ?_) | (apply gP; refine sP ?_) | (apply gC; refine sC ?_) | (apply gD; refine sD ?_) | fail)
  rename_i bx
  refine O_d (dy_call ArgsI.pf (by first | exact rfl | trivial | (intro a b; rfl)) (dExists_ct (q := true) (decide_eq_true hn))) ?_; rintro _ _ ⟨_, ⟨rfl, hLL⟩, rfl⟩; replace hLL := hLL.symm; subst hLL; refine O_n ?_
  repeat' (first | refine go ?_ | intro _ | (apply cG; first | refine cT ?_ | refine cF ?_ | refine cS (fun _ => ?_) fun _ => ?_) | (apply gW; refine sW ?_) | (apply gI; refine sI ?_) | (apply gE; refine sE ?_) | (apply gP; refine sP ?_) | (apply gC; refine sC ?_) | (apply gD; refine sD ?_) | fail)
  refine O_sub (S := dsk p ⟨files, room, false, armed, left⟩ :: cel bx [.slice A1 fb.length c1, .int .i64 fd] 77 :: rd eB (.slice A1 N c1) (fb.take N) :: L) (Sub.trans (B := cel p [.map (some mb), .int .i64 room, .bool false, .bool armed, .int .i64 left] 73 :: mapo mDF mb files :: cel bx [.slice A1 fb.length c1, .int .i64 fd] 77 :: rd eB (.slice A1 N c1) (fb.take N) :: L) Sb (dsk_sub (R := mDF) (d := ⟨files, room, false, armed, left⟩))) ?_
  refine O_d (dy_call ArgsI.pf (by first | exact rfl | trivial | (intro a b; rfl)) (CT.pull (i := 0) (by rfl) (dStep_ct (R := mDF) (d := ⟨files, room, false, armed, left⟩) h1 h2))) ?_; rintro _ _ ⟨_, ⟨rfl, rfl⟩, rfl⟩; refine O_n ?_
  obtain ⟨d2, s2, hs2⟩ : ∃ d2 s2, stepF ⟨files, room, false, armed, left⟩ = (d2, s2) := ⟨_, _, rfl⟩
  rw [hs2]
  have hap : truncF ⟨files, room, false, armed, left⟩ n N (.slice A1 N c1) = if s2 then ({ d2 with files := setF n ⟨.slice A1 N c1, fb.take N, (m : Int)⟩ d2.files }, 0) else (d2, 21) := by
    unfold truncF
    rw [if_neg (by simp), hs2]
    dsimp only
    rw [hf, hm]
  dsimp only
  cases s2
  · repeat' (first | refine go ?_ | intro _ | (apply cG; first | refine cT ?_ | refine cF ?_ | refine cS (fun _ => ?_) fun _ => ?_) | (apply gW; refine sW ?_) | (apply gI; refine sI ?_) | (apply gE; refine sE ?_) | (apply gP; refine sP ?_) | (apply gC; refine sC ?_) | (apply gD; refine sD ?_) | fail)
    refine E_res1 (by rfl) (by rfl) ⟨A1, c1, by rw [hap], by rw [hap]⟩ Sb
  · repeat' (first | refine go ?_ | intro _ | (apply cG; first | refine cT ?_ | refine cF ?_ | refine cS (fun _ => ?_) fun _ => ?_) | (apply gW; refine sW ?_) | (apply gI; refine sI ?_) | (apply gE; refine sE ?_) | (apply gP; refine sP ?_) | (apply gC; refine sC ?_) | (apply gD; refine sD ?_) | fail)
    refine C_draw (n := 99) [cel bx [.slice A1 fb.length c1, .int .i64 fd] 77] [(0, 1), (1, 1), (2, 1), (3, 1), (4, 1), (5, 1), (6, 1), (7, 1), (8, 1), (9, 1), (10, 1), (11, 0)] (by kernel_rfl) (by kernel_rfl) Sb ?_
    repeat' (first | refine go ?_ | intro _ | (apply cG; first | refine cT ?_ | refine cF ?_ | refine cS (fun _ => ?_) fun _ => ?_) | (apply gW; refine sW ?_) | (apply gI; refine sI ?_) | (apply gE; refine sE ?_) | (apply gP; refine sP ?_) | (apply gC; refine sC ?_) | (apply gD; refine sD ?_) | fail)
    refine D_op rfl ?_; refine X_s (sv_slice (l' := 0) (h' := N) (l := 0) (h := N)) ?_
    rw [cutA0, Nat.sub_zero]
    repeat' (first | refine go ?_ | intro _ | (apply cG; first | refine cT ?_ | refine cF ?_ | refine cS (fun _ => ?_) fun _ => ?_) | fail)
    apply gW; refine sW (r := (m : Int)) ?_ hmin
    repeat' (first | refine go ?_ | intro _ | (apply cG; first | refine cT ?_ | refine cF ?_ | refine cS (fun _ => ?_) fun _ => ?_) | (apply gW; refine sW ?_) | (apply gI; refine sI ?_) | (apply gE; refine sE ?_) | (apply gP; refine sP ?_) | (apply gC; refine sC ?_) | (apply gD; refine sD ?_) | fail)
    refine D_op rfl ?_; refine X_d (dy_call ArgsI.pf (by first | exact rfl | trivial | (intro a b; rfl)) (CT.pull (i := 0) (by rfl) (dSet_ct (R := mDF) (d := d2) (x := ⟨.slice A1 N c1, fb.take N, (m : Int)⟩) rfl mDF_val (fun m h hs => rd_mem hs (.tail _ (.head _))) htl))) ?_; rintro _ _ ⟨_, ⟨rfl, rfl⟩, rfl⟩; refine ⟨(by first | exact .inl rfl | exact .inr Sb), D_n ?_⟩
    repeat' (first | refine go ?_ | intro _ | (apply cG; first | refine cT ?_ | refine cF ?_ | refine cS (fun _ => ?_) fun _ => ?_) | (apply gW; refine sW ?_) | (apply gI; refine sI ?_) | (apply gE; refine sE ?_) | (apply gP; refine sP ?_) | (apply gC; refine sC ?_) | (apply gD; refine sD ?_) | fail)
    refine E_res1 (by rfl) (by rfl) ⟨A1, c1, by rw [hap], by rw [hap]⟩ Sb
end
end Go.Proofs.Ytbjaecofccpahaa
