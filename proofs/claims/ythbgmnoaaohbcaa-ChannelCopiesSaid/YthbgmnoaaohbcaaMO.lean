/-
  Plain: readings that fail, lists read. No program.
-/
import Derived.Test.YthbgmnoaaohbcaaMN
import Derived.Test.YthbgmnoaaohbcaaMJ
namespace Go.Proofs.Ythbgmnoaaohbcaa
open Go Go.RowKit
set_option linter.unusedVariables false
set_option linter.unusedSimpArgs false
/-- errors stay -/
theorem rI_err {s : Rs} (h : s.2 ≠ 0) : rI s = (0, s) := by unfold rI; rw [rU_err h]; simp [unzig]
theorem rNext_err {s : Rs} (h : s.2 ≠ 0) : rNext s = (0, s) := by unfold rNext; rw [if_neg h]
theorem rB_err {s : Rs} (h : s.2 ≠ 0) : rB s = (false, s) := by unfold rB; rw [rNext_err h]; rfl
theorem rList_eq {α : Type} (f : Rs → α × Rs) (s : Rs) : rList f s = (if (rMany f (rU s).1 (if (rU s).2.1.length < (rU s).1 then rFail (rU s).2 3 else (rU s).2)).2.2 = 0 then (rMany f (rU s).1 (if (rU s).2.1.length < (rU s).1 then rFail (rU s).2 3 else (rU s).2)).1 else [], (rMany f (rU s).1 (if (rU s).2.1.length < (rU s).1 then rFail (rU s).2 3 else (rU s).2)).2) := rfl
theorem rList_err {α : Type} {f : Rs → α × Rs} {s : Rs} (h : s.2 ≠ 0) : rList f s = ([], s) := by
  rw [rList_eq, rU_err h]
  simp only [Nat.not_lt_zero, if_false, rMany, if_neg h]
theorem rFail_3 {b : List UInt8} : rFail (b, 0) 3 = (b, 3) := rfl
theorem rList_more {α : Type} {f : Rs → α × Rs} {s : Rs} {n : Nat} {b : List UInt8} (h1 : rU s = (n, (b, 0))) (h2 : b.length < n) : (rList f s).2.2 = 3 := by
  rw [rList_eq, h1]
  dsimp only
  rw [if_pos h2, rFail_3]
  rcases n with _ | n
  · omega
  · rfl
theorem rList_many {α : Type} {f : Rs → α × Rs} {s : Rs} {n : Nat} {b : List UInt8} (h1 : rU s = (n, (b, 0))) (h2 : n ≤ b.length) : (rList f s).2 = (rMany f n (b, 0)).2 := by
  rw [rList_eq, h1]
  dsimp only
  rw [if_neg (Nat.not_lt.2 h2)]
theorem rMany_err {α : Type} {f : Rs → α × Rs} : ∀ {n : Nat} {s : Rs}, s.2 ≠ 0 → rMany f n s = ([], s)
  | 0, _, _ => rfl
  | n + 1, s, h => by rw [rMany, if_neg h]
theorem rMany_len {α : Type} {f : Rs → α × Rs} (hf : ∀ s, (f s).2.1.length ≤ s.1.length) : ∀ (n : Nat) (s : Rs), (rMany f n s).2.1.length ≤ s.1.length
  | 0, s => Nat.le_refl _
  | n + 1, s => by
    rw [rMany]
    split
    · exact Nat.le_trans (rMany_len hf n (f s).2) (hf s)
    · exact Nat.le_refl _
theorem rList_len {α : Type} {f : Rs → α × Rs} (hf : ∀ s, (f s).2.1.length ≤ s.1.length) (s : Rs) : (rList f s).2.1.length ≤ s.1.length := by
  rw [rList_eq]
  refine Nat.le_trans (rMany_len hf _ _) ?_
  refine Nat.le_trans ?_ (rU_len s)
  split
  · unfold rFail; split <;> exact Nat.le_refl _
  · exact Nat.le_refl _
theorem rB_len (s : Rs) : (rB s).2.1.length ≤ s.1.length := by
  unfold rB
  refine Nat.le_trans ?_ (rNext_len s)
  dsimp only
  split
  · unfold rFail; split <;> exact Nat.le_refl _
  · exact Nat.le_refl _
theorem rList_cases {α : Type} {f : Rs → α × Rs} {bs b1 bs' : List UInt8} {e e1 e' : Int} {m : Nat} {l : List α} (hu : rU (bs, e) = (m, (b1, e1))) (h : rList f (bs, e) = (l, (bs', e'))) :
    (e1 ≠ 0 ∧ l = [] ∧ e' = e1) ∨ (e1 = 0 ∧ b1.length < m ∧ l = [] ∧ e' = 3) ∨ (e1 = 0 ∧ m ≤ b1.length ∧ (rMany f m (b1, 0)).2 = (bs', e') ∧ l = if e' = 0 then (rMany f m (b1, 0)).1 else []) := by
  rw [rList_eq, hu] at h
  dsimp only at h
  by_cases he : e1 = 0
  · subst he
    by_cases hl : b1.length < m
    · rw [if_pos hl, rFail_3, rMany_err (by show (3 : Int) ≠ 0; decide)] at h
      simp only [Prod.mk.injEq] at h
      exact .inr (.inl ⟨rfl, hl, by rw [← h.1]; simp, h.2.2.symm⟩)
    · rw [if_neg hl] at h
      simp only [Prod.mk.injEq] at h
      exact .inr (.inr ⟨rfl, by omega, h.2, by rw [← h.1, h.2]⟩)
  · have h5 : (if b1.length < m then rFail (b1, e1) 3 else (b1, e1)) = (b1, e1) := by
      split
      · simp only [rFail, if_neg he]
      · rfl
    rw [h5, rMany_err he] at h
    simp only [Prod.mk.injEq] at h
    exact .inl ⟨he, by rw [← h.1]; simp, h.2.2.symm⟩
theorem rMany_take : ∀ (n : Nat) (b : List UInt8), n ≤ b.length → rMany rNext n (b, 0) = (b.take n, (b.drop n, 0))
  | 0, b, _ => rfl
  | n + 1, [], h => by simp at h
  | n + 1, c :: r, h => by
    rw [rMany, if_pos rfl]
    have e : rNext (c :: r, 0) = (c, (r, 0)) := rfl
    rw [e]
    dsimp only
    rw [rMany_take n r (by simpa using h)]
    rfl
theorem rUi_step {i n : Nat} {c : UInt8} {r : List UInt8} (h1 : ¬ ((i = 9 ∧ 1 < c.toNat) ∨ (0 < i ∧ c.toNat = 0))) (h2 : ¬ c.toNat < 128) : rUi i n (c :: r) = rUi (i + 1) (n + c.toNat % 128 * 128 ^ i) r := by
  rw [rUi, if_neg h1, if_neg h2]
  have : c.toNat - 128 = c.toNat % 128 := by have := c.toNat_lt; omega
  rw [this]
theorem drop_get {α : Type} {l : List α} {i : Nat} {x : α} (h : l[i]? = some x) : l.drop i = x :: l.drop (i + 1) := by
  obtain ⟨hlt, rfl⟩ := List.getElem?_eq_some_iff.1 h
  exact List.drop_eq_getElem_cons hlt
end Go.Proofs.Ythbgmnoaaohbcaa
namespace Go.Proofs.Ythbgmnoaaohbcaa
open Go Go.RowKit
set_option linter.unusedVariables false
set_option linter.unusedSimpArgs false
def lblF : ByteArray := ⟨#[102, 114, 97, 109, 101]⟩
def coreF (i : Int) (x : List UInt8) : List UInt8 := varint (zig i) ++ (varint x.length ++ x)
def sumF (i : Int) (x : List UInt8) : Nat := (bytesW lblF.data.toList (coreF i x)).toNat
def frameF (i : Int) (x : List UInt8) : List UInt8 := varint (coreF i x).length ++ coreF i x ++ varint (sumF i x)
/-- the bytes that record looks at -/
def cutF (b : List UInt8) : List UInt8 := b.take (min b.length (10 + min (rU (b.take 10, 0)).1 b.length))
def recF (b : List UInt8) : List UInt8 := (rList rNext (rI ((rList rNext (cutF b, 0)).1, 0)).2).1
def isF (i : Int) (b : List UInt8) : Bool := (frameF i (recF b)).isPrefixOf b
def scanF : Nat → Int → List UInt8 → List (List UInt8) × Nat
  | 0, _, _ => ([], 0)
  | n + 1, i, b => if b = [] then ([], 0) else if isF i b = true then ((recF b) :: (scanF n (i + 1) (b.drop (frameF i (recF b)).length)).1, (frameF i (recF b)).length + (scanF n (i + 1) (b.drop (frameF i (recF b)).length)).2) else ([], 0)
theorem sumF_lt (i : Int) (x : List UInt8) : sumF i x < 18446744073709551616 := UInt64.toNat_lt _
theorem coreF_len {i : Int} {x : List UInt8} (h1 : -9223372036854775808 ≤ i) (h2 : i ≤ 9223372036854775807) (hx : x.length ≤ 1000000000) : (coreF i x).length ≤ x.length + 20 := by
  have a := vlen (zig_lt h1 h2)
  have b := vlen (m := x.length) (by omega)
  unfold coreF
  simp only [List.length_append]; omega
theorem frameF_len {i : Int} {x : List UInt8} (h1 : -9223372036854775808 ≤ i) (h2 : i ≤ 9223372036854775807) (hx : x.length ≤ 1000000000) : (frameF i x).length ≤ x.length + 40 := by
  have a := coreF_len h1 h2 hx
  have b := vlen (m := (coreF i x).length) (by omega)
  have c := vlen (sumF_lt i x)
  unfold frameF
  simp only [List.length_append]; omega
theorem frameF_min (i : Int) (x : List UInt8) : x.length + 4 ≤ (frameF i x).length := by
  have a := varint_pos (zig i)
  have b := varint_pos x.length
  have c := varint_pos (coreF i x).length
  have d := varint_pos (sumF i x)
  have e : (coreF i x).length = (varint (zig i)).length + ((varint x.length).length + x.length) := by unfold coreF; simp
  unfold frameF
  simp only [List.length_append]; omega
/-- a frame is read back -/
theorem raw_pre {c t : List UInt8} (hc : c.length < 18446744073709551616) : rList rNext (varint c.length ++ c ++ t, 0) = (c, (t, 0)) := rRaw_enc hc t
theorem core_back {i : Int} {x : List UInt8} (h1 : -9223372036854775808 ≤ i) (h2 : i ≤ 9223372036854775807) (hx : x.length ≤ 1000000000) : rI (coreF i x, 0) = (i, (varint x.length ++ x, 0)) := by
  unfold coreF
  exact rI_zig h1 h2 _
theorem rest_back {x : List UInt8} (hx : x.length ≤ 1000000000) : rList rNext (varint x.length ++ x, 0) = (x, ([], 0)) := by
  have := rRaw_enc (l := x) (by omega) []
  rwa [List.append_nil] at this
theorem cutF_frame {i : Int} {x t : List UInt8} (h1 : -9223372036854775808 ≤ i) (h2 : i ≤ 9223372036854775807) (hx : x.length ≤ 1000000000) : ∃ t', cutF (frameF i x ++ t) = varint (coreF i x).length ++ coreF i x ++ t' := by
  have hcl := coreF_len h1 h2 hx
  obtain ⟨c, hc⟩ : ∃ c, coreF i x = c := ⟨_, rfl⟩
  obtain ⟨s, hs⟩ : ∃ s, varint (sumF i x) ++ t = s := ⟨_, rfl⟩
  have hf : frameF i x ++ t = varint c.length ++ (c ++ s) := by unfold frameF; rw [hc, ← hs]; simp
  rw [hf, hc]
  rw [hc] at hcl
  have hv := vlen (m := c.length) (by omega)
  have h10 : (varint c.length ++ (c ++ s)).take 10 = varint c.length ++ (c ++ s).take (10 - (varint c.length).length) := by
    rw [List.take_append, List.take_of_length_le hv]
  unfold cutF
  rw [h10, rU_varint (by omega)]
  dsimp only
  have hm : (varint c.length ++ c).length ≤ min (varint c.length ++ (c ++ s)).length (10 + min c.length (varint c.length ++ (c ++ s)).length) := by
    simp only [List.length_append]; omega
  refine ⟨s.take (min (varint c.length ++ (c ++ s)).length (10 + min c.length (varint c.length ++ (c ++ s)).length) - (varint c.length ++ c).length), ?_⟩
  rw [← List.append_assoc, List.take_append, List.take_of_length_le (by rw [← List.append_assoc] at hm; exact hm)]
theorem recF_frame {i : Int} {x t : List UInt8} (h1 : -9223372036854775808 ≤ i) (h2 : i ≤ 9223372036854775807) (hx : x.length ≤ 1000000000) : recF (frameF i x ++ t) = x := by
  obtain ⟨t', ht⟩ := cutF_frame (t := t) h1 h2 hx
  have hcl := coreF_len h1 h2 hx
  unfold recF
  rw [ht, raw_pre (by omega)]
  dsimp only
  rw [core_back h1 h2 hx, rest_back hx]
theorem isF_iff {i : Int} {b : List UInt8} : isF i b = true ↔ ∃ t, frameF i (recF b) ++ t = b := by
  unfold isF
  rw [List.isPrefixOf_iff_prefix]
  exact Iff.rfl
theorem isF_frame {i : Int} {x t : List UInt8} (h1 : -9223372036854775808 ≤ i) (h2 : i ≤ 9223372036854775807) (hx : x.length ≤ 1000000000) : isF i (frameF i x ++ t) = true := by
  rw [isF_iff, recF_frame h1 h2 hx]
  exact ⟨t, rfl⟩
/-- what the reference's first finds -/
theorem first_iff {i : Int} {b x : List UInt8} (h1 : -9223372036854775808 ≤ i) (h2 : i ≤ 9223372036854775807) (hx : x.length ≤ 1000000000) (hp : ∃ t, frameF i x ++ t = b) : isF i b = true ∧ recF b = x := by
  obtain ⟨t, rfl⟩ := hp
  exact ⟨isF_frame h1 h2 hx, recF_frame h1 h2 hx⟩
theorem rRaw_len (s : Rs) : (rList rNext s).1.length ≤ s.1.length := by
  obtain ⟨bs, e⟩ := s
  obtain ⟨m, b1, e1, hu⟩ : ∃ m b1 e1, rU (bs, e) = (m, (b1, e1)) := ⟨_, _, _, rfl⟩
  have hl := rU_len (bs, e)
  rw [hu] at hl
  dsimp only at hl ⊢
  rcases rList_cases (f := rNext) (l := (rList rNext (bs, e)).1) (bs' := (rList rNext (bs, e)).2.1) (e' := (rList rNext (bs, e)).2.2) hu rfl with ⟨_, h, _⟩ | ⟨_, _, h, _⟩ | ⟨_, hm, _, h⟩
  · rw [h]; simp
  · rw [h]; simp
  · rw [h]
    split
    · rw [rMany_take m b1 hm, List.length_take]; omega
    · simp
theorem recF_len (b : List UInt8) : (recF b).length ≤ b.length := by
  unfold recF
  refine Nat.le_trans (rRaw_len _) ?_
  have h1 : (rI ((rList rNext (cutF b, 0)).1, 0)).2.1.length ≤ (rList rNext (cutF b, 0)).1.length := rU_len _
  refine Nat.le_trans h1 (Nat.le_trans (rRaw_len _) ?_)
  unfold cutF
  exact List.length_take_le' _ _
theorem scanF_nil (n : Nat) (i : Int) : scanF n i [] = ([], 0) := by
  cases n <;> rfl
theorem scanF_yes {n : Nat} {i : Int} {b : List UInt8} (hb : b ≠ []) (h : isF i b = true) : scanF (n + 1) i b = ((recF b) :: (scanF n (i + 1) (b.drop (frameF i (recF b)).length)).1, (frameF i (recF b)).length + (scanF n (i + 1) (b.drop (frameF i (recF b)).length)).2) := by
  rw [scanF, if_neg hb, if_pos h]
theorem scanF_no {n : Nat} {i : Int} {b : List UInt8} (h : isF i b = false) : scanF (n + 1) i b = ([], 0) := by
  rw [scanF]
  split
  · rfl
  · rw [if_neg (by rw [h]; decide)]
/-- all frames of some records -/
def framesF : Int → List (List UInt8) → List UInt8
  | _, [] => []
  | i, x :: r => frameF i x ++ framesF (i + 1) r
theorem scanF_frames : ∀ (xs : List (List UInt8)) (n : Nat) (i : Int) (t : List UInt8), (∀ x ∈ xs, x.length ≤ 1000000) → -9223372036854775808 ≤ i → i + xs.length ≤ 9223372036854775807 → xs.length ≤ n →
    scanF n i (framesF i xs ++ t) = (xs ++ (scanF (n - xs.length) (i + xs.length) t).1, (framesF i xs).length + (scanF (n - xs.length) (i + xs.length) t).2)
  | [], n, i, t, _, _, _, _ => by simp [framesF]
  | x :: r, n, i, t, hx, h1, h2, hn => by
    simp only [List.length_cons] at h2 hn
    push_cast at h2
    obtain ⟨k, rfl⟩ : ∃ k, n = k + 1 := ⟨n - 1, by omega⟩
    have hxl := hx x (.head _)
    have e : framesF i (x :: r) ++ t = frameF i x ++ (framesF (i + 1) r ++ t) := by simp [framesF]
    have hmin := frameF_min i x
    rw [e, scanF_yes (by intro h; have := congrArg List.length h; simp only [List.length_append, List.length_nil] at this; omega) (isF_frame h1 (by omega) (by omega)), recF_frame h1 (by omega) (by omega), List.drop_left]
    rw [scanF_frames r k (i + 1) t (fun y hy => hx y (.tail _ hy)) (by omega) (by omega) (by omega)]
    have e1 : i + 1 + (r.length : Int) = i + ((r.length + 1 : Nat) : Int) := by push_cast; omega
    have e2 : k + 1 - (r.length + 1) = k - r.length := by omega
    simp only [List.length_cons, framesF, List.length_append, e1, e2, List.cons_append, Prod.mk.injEq, true_and]
    omega
end Go.Proofs.Ythbgmnoaaohbcaa
namespace Go.Proofs.Ythbgmnoaaohbcaa
open Go Go.RowKit
set_option linter.unusedVariables false
set_option linter.unusedSimpArgs false
set_option maxRecDepth 20000
set_option synthInstance.maxSize 100000
set_option synthInstance.maxHeartbeats 400000
def okP (s a : Int) (b : List UInt8) : Bool := decide (0 ≤ s ∧ 0 ≤ a ∧ b.length ≤ 65536 ∧ (0 < s ∨ b.length = 0))
/-- what Decode returns: the error, and the packet -/
def decP (b : List UInt8) : Int × Int × Int × List UInt8 :=
  if rEnd (rU (rList rNext (b, 0)).2).2 ≠ 0 then (2, 0, 0, [])
  else if (rU (rList rNext (b, 0)).2).1 ≠ (bytesW lblP.data.toList (rList rNext (b, 0)).1).toNat then (15, 0, 0, [])
  else if rEnd (rList rNext (rI (rI ((rList rNext (b, 0)).1, 0)).2).2).2 ≠ 0 then (2, 0, 0, [])
  else if okP (rI ((rList rNext (b, 0)).1, 0)).1 (rI (rI ((rList rNext (b, 0)).1, 0)).2).1 (rList rNext (rI (rI ((rList rNext (b, 0)).1, 0)).2).2).1 = false then (2, 0, 0, [])
  else (0, (rI ((rList rNext (b, 0)).1, 0)).1, (rI (rI ((rList rNext (b, 0)).1, 0)).2).1, (rList rNext (rI (rI ((rList rNext (b, 0)).1, 0)).2).2).1)
section
variable {W0 : World} {L : List HP}
theorem Decode_ct {v : Value} {b x : List UInt8} {e s a : Int} (hv : Src L eB v b) (hl : b.length ≤ 1000000) (h : decP b = (e, s, a, x)) :
    CT Try.prog 32 #[v] W0 L fun r L' => ∃ A c, r = .tuple #[.agg #[.int .i64 s, .int .i64 a, .slice A x.length c], .int .i64 e] ∧ L' = rd eB (.slice A x.length c) x :: L := by
  obtain ⟨core, b1, e1, hr1⟩ : ∃ core b1 e1, rList rNext (b, 0) = (core, (b1, e1)) := ⟨_, _, _, rfl⟩
  have hcore : core.length ≤ 1000000 := by have := rRaw_len (b, 0); rw [hr1] at this; dsimp only at this; omega
  have hb1 : b1.length ≤ 1000000 := by have := rList_len (f := rNext) rNext_len (b, 0); rw [hr1] at this; dsimp only at this; omega
  obtain ⟨m, b2, e2, hr2⟩ : ∃ m b2 e2, rU (b1, e1) = (m, (b2, e2)) := ⟨_, _, _, rfl⟩
  have hb2 : b2.length ≤ 1000000 := by have := rU_len (b1, e1); rw [hr2] at this; dsimp only at this; omega
  obtain ⟨q1, c1, f1, hr3⟩ : ∃ q1 c1 f1, rI (core, 0) = (q1, (c1, f1)) := ⟨_, _, _, rfl⟩
  have hc1 : c1.length ≤ 1000000 := by have := rI_len (core, 0); rw [hr3] at this; dsimp only at this; omega
  obtain ⟨q2, c2, f2, hr4⟩ : ∃ q2 c2 f2, rI (c1, f1) = (q2, (c2, f2)) := ⟨_, _, _, rfl⟩
  have hc2 : c2.length ≤ 1000000 := by have := rI_len (c1, f1); rw [hr4] at this; dsimp only at this; omega
  obtain ⟨y, c3, f3, hr5⟩ : ∃ y c3 f3, rList rNext (c2, f2) = (y, (c3, f3)) := ⟨_, _, _, rfl⟩
  have hc3 : c3.length ≤ 1000000 := by have := rList_len (f := rNext) rNext_len (c2, f2); rw [hr5] at this; dsimp only at this; omega
  have hy : y.length ≤ 1000000 := by have := rRaw_len (c2, f2); rw [hr5] at this; dsimp only at this; omega
  obtain ⟨bw, hbw⟩ : ∃ bw, bytesW lblP.data.toList core = bw := ⟨_, rfl⟩
  unfold decP at h
  rw [hr1] at h
  dsimp only at h
  rw [hr2, hr3, hbw] at h
  dsimp only at h
  rw [hr4] at h
  dsimp only at h
  rw [hr5] at h
  dsimp only at h
  refine CT_enter Try.func32 rfl ?_; (simp only [Try.ntmps32, List.size_toArray, List.length_cons, List.length_nil, Nat.reduceAdd, Nat.reduceSub, Array.replicate_succ, Array.replicate_zero, List.push_toArray, List.append_toArray, List.nil_append, List.cons_append])
  repeat' (first | refine go ?_ | intro _ | (apply cG; first | refine cT ?_ | refine cF ?_ | refine cS (fun _ => ?_) fun _ => ?_) | (apply gW; refine sW ?_) | (apply gI; refine sI ?_) | (apply gE; refine sE ?_) | (apply gP; refine sP ?_) | (apply gC; refine sC ?_) | (apply gD; refine sD ?_) | fail)
  refine O_d (dy_call ArgsI.pf (by first | exact rfl | trivial | (intro a b; rfl)) (Read_ct (l := b) hv.c (by omega))) ?_; rintro _ _ ⟨_, ⟨p1, rfl, rfl⟩, rfl⟩; refine O_n ?_
  repeat' (first | refine go ?_ | intro _ | (apply cG; first | refine cT ?_ | refine cF ?_ | refine cS (fun _ => ?_) fun _ => ?_) | (apply gW; refine sW ?_) | (apply gI; refine sI ?_) | (apply gE; refine sE ?_) | (apply gP; refine sP ?_) | (apply gC; refine sC ?_) | (apply gD; refine sD ?_) | fail)
  refine O_d (dy_call ArgsI.pf (by first | exact rfl | trivial | (intro a b; rfl)) (Raw_ct hr1 (by omega))) ?_; rintro _ _ ⟨_, ⟨A1, k1, rfl, rfl⟩, rfl⟩; refine O_n ?_
  repeat' (first | refine go ?_ | intro _ | (apply cG; first | refine cT ?_ | refine cF ?_ | refine cS (fun _ => ?_) fun _ => ?_) | (apply gW; refine sW ?_) | (apply gI; refine sI ?_) | (apply gE; refine sE ?_) | (apply gP; refine sP ?_) | (apply gC; refine sC ?_) | (apply gD; refine sD ?_) | fail)
  refine O_d (dy_call ArgsI.pf (by first | exact rfl | trivial | (intro a b; rfl)) (CT.pull (i := 1) (by rfl) (Uint_ct hr2 (by omega)))) ?_; rintro _ _ ⟨_, ⟨rfl, rfl⟩, rfl⟩; refine O_n ?_
  repeat' (first | refine go ?_ | intro _ | (apply cG; first | refine cT ?_ | refine cF ?_ | refine cS (fun _ => ?_) fun _ => ?_) | (apply gW; refine sW ?_) | (apply gI; refine sI ?_) | (apply gE; refine sE ?_) | (apply gP; refine sP ?_) | (apply gC; refine sC ?_) | (apply gD; refine sD ?_) | fail)
  obtain ⟨x1, hx1⟩ : ∃ x1, rEnd (b2, e2) = x1 := ⟨_, rfl⟩
  rw [hx1] at h
  refine O_d (dy_call ArgsI.pf (by first | exact rfl | trivial | (intro a b; rfl)) (End_ct hx1 (by omega))) ?_; rintro _ _ ⟨_, ⟨rfl, rfl⟩, rfl⟩; refine O_n ?_
  by_cases hz : x1 ≠ 0
  · rw [if_pos hz] at h
    simp only [Prod.mk.injEq] at h
    obtain ⟨rfl, rfl, rfl, rfl⟩ := h
    repeat' (first | refine go ?_ | intro _ | (apply cG; first | refine cT ?_ | refine cF ?_ | refine cS (fun _ => ?_) fun _ => ?_) | (apply gW; refine sW ?_) | (apply gI; refine sI ?_) | (apply gE; refine sE ?_) | (apply gP; refine sP ?_) | (apply gC; refine sC ?_) | (apply gD; refine sD ?_) | fail)
    refine E_rdnil eB none 0 ?_
    refine E_res2 (by rfl) (by rfl) ⟨none, 0, rfl, rfl⟩ Sb
  rw [if_neg hz] at h
  repeat' (first | refine go ?_ | intro _ | (apply cG; first | refine cT ?_ | refine cF ?_ | refine cS (fun _ => ?_) fun _ => ?_) | (apply gW; refine sW ?_) | (apply gI; refine sI ?_) | (apply gE; refine sE ?_) | (apply gP; refine sP ?_) | (apply gC; refine sC ?_) | (apply gD; refine sD ?_) | fail)
  refine O_d (dy_call ArgsI.pf (by first | exact rfl | trivial | (intro a b; rfl)) (hBytes_ct (s := lblP) (l := core) Sc.pf (by decide) (by omega) hbw)) ?_; rintro _ _ ⟨_, ⟨rfl, hLL⟩, rfl⟩; replace hLL := hLL.symm; subst hLL; refine O_n ?_
  by_cases hs : m ≠ bw.toNat
  · rw [if_pos hs] at h
    simp only [Prod.mk.injEq] at h
    obtain ⟨rfl, rfl, rfl, rfl⟩ := h
    repeat' (first | refine go ?_ | intro _ | (apply cG; first | refine cT ?_ | refine cF ?_ | refine cS (fun _ => ?_) fun _ => ?_) | (apply gW; refine sW ?_) | (apply gI; refine sI ?_) | (apply gE; refine sE ?_) | (apply gP; refine sP ?_) | (apply gC; refine sC ?_) | (apply gD; refine sD ?_) | fail)
    refine E_rdnil eB none 0 ?_
    refine E_res2 (by rfl) (by rfl) ⟨none, 0, rfl, rfl⟩ Sb
  rw [if_neg hs] at h
  repeat' (first | refine go ?_ | intro _ | (apply cG; first | refine cT ?_ | refine cF ?_ | refine cS (fun _ => ?_) fun _ => ?_) | (apply gW; refine sW ?_) | (apply gI; refine sI ?_) | (apply gE; refine sE ?_) | (apply gP; refine sP ?_) | (apply gC; refine sC ?_) | (apply gD; refine sD ?_) | fail)
  refine O_d (dy_call ArgsI.pf (by first | exact rfl | trivial | (intro a b; rfl)) (Read_ct (l := core) Sc.pf (by omega))) ?_; rintro _ _ ⟨_, ⟨p2, rfl, rfl⟩, rfl⟩; refine O_n ?_
  repeat' (first | refine go ?_ | intro _ | (apply cG; first | refine cT ?_ | refine cF ?_ | refine cS (fun _ => ?_) fun _ => ?_) | (apply gW; refine sW ?_) | (apply gI; refine sI ?_) | (apply gE; refine sE ?_) | (apply gP; refine sP ?_) | (apply gC; refine sC ?_) | (apply gD; refine sD ?_) | fail)
  refine O_d (dy_call ArgsI.pf (by first | exact rfl | trivial | (intro a b; rfl)) (Int_ct hr3 (by omega))) ?_; rintro _ _ ⟨_, ⟨rfl, rfl⟩, rfl⟩; refine O_n ?_
  repeat' (first | refine go ?_ | intro _ | (apply cG; first | refine cT ?_ | refine cF ?_ | refine cS (fun _ => ?_) fun _ => ?_) | (apply gW; refine sW ?_) | (apply gI; refine sI ?_) | (apply gE; refine sE ?_) | (apply gP; refine sP ?_) | (apply gC; refine sC ?_) | (apply gD; refine sD ?_) | fail)
  refine O_d (dy_call ArgsI.pf (by first | exact rfl | trivial | (intro a b; rfl)) (CT.pull (i := 1) (by rfl) (Int_ct hr4 (by omega)))) ?_; rintro _ _ ⟨_, ⟨rfl, rfl⟩, rfl⟩; refine O_n ?_
  repeat' (first | refine go ?_ | intro _ | (apply cG; first | refine cT ?_ | refine cF ?_ | refine cS (fun _ => ?_) fun _ => ?_) | (apply gW; refine sW ?_) | (apply gI; refine sI ?_) | (apply gE; refine sE ?_) | (apply gP; refine sP ?_) | (apply gC; refine sC ?_) | (apply gD; refine sD ?_) | fail)
  refine O_d (dy_call ArgsI.pf (by first | exact rfl | trivial | (intro a b; rfl)) (Raw_ct hr5 (by omega))) ?_; rintro _ _ ⟨_, ⟨A2, k2, rfl, rfl⟩, rfl⟩; refine O_n ?_
  refine O_frz 0 ?_
  repeat' (first | refine go ?_ | intro _ | (apply cG; first | refine cT ?_ | refine cF ?_ | refine cS (fun _ => ?_) fun _ => ?_) | (apply gW; refine sW ?_) | (apply gI; refine sI ?_) | (apply gE; refine sE ?_) | (apply gP; refine sP ?_) | (apply gC; refine sC ?_) | (apply gD; refine sD ?_) | fail)
  obtain ⟨x2, hx2⟩ : ∃ x2, rEnd (c3, f3) = x2 := ⟨_, rfl⟩
  rw [hx2] at h
  refine O_d (dy_call ArgsI.pf (by first | exact rfl | trivial | (intro a b; rfl)) (CT.pull (i := 1) (by rfl) (End_ct hx2 (by omega)))) ?_; rintro _ _ ⟨_, ⟨rfl, rfl⟩, rfl⟩; refine O_n ?_
  by_cases hz2 : x2 ≠ 0
  · rw [if_pos hz2] at h
    simp only [Prod.mk.injEq] at h
    obtain ⟨rfl, rfl, rfl, rfl⟩ := h
    repeat' (first | refine go ?_ | intro _ | (apply cG; first | refine cT ?_ | refine cF ?_ | refine cS (fun _ => ?_) fun _ => ?_) | (apply gW; refine sW ?_) | (apply gI; refine sI ?_) | (apply gE; refine sE ?_) | (apply gP; refine sP ?_) | (apply gC; refine sC ?_) | (apply gD; refine sD ?_) | fail)
    refine E_rdnil eB none 0 ?_
    refine E_res2 (by rfl) (by rfl) ⟨none, 0, rfl, rfl⟩ Sb
  rw [if_neg hz2] at h
  obtain ⟨q, hq⟩ : ∃ q, okP q1 q2 y = q := ⟨_, rfl⟩
  rw [hq] at h
  repeat' (first | refine go ?_ | intro _ | (apply cG; first | refine cT ?_ | refine cF ?_ | refine cS (fun _ => ?_) fun _ => ?_) | (apply gW; refine sW ?_) | (apply gI; refine sI ?_) | (apply gE; refine sE ?_) | (apply gP; refine sP ?_) | (apply gC; refine sC ?_) | (apply gD; refine sD ?_) | fail)
  refine O_d (dy_call ArgsI.pf (by first | exact rfl | trivial | (intro a b; rfl)) (valid_ct (b := y) (s := q1) (a := q2) (q := q) Sc.pf hq)) ?_; rintro _ _ ⟨_, ⟨rfl, hLL⟩, rfl⟩; replace hLL := hLL.symm; subst hLL; refine O_n ?_
  cases q
  · rw [if_pos rfl] at h
    simp only [Prod.mk.injEq] at h
    obtain ⟨rfl, rfl, rfl, rfl⟩ := h
    repeat' (first | refine go ?_ | intro _ | (apply cG; first | refine cT ?_ | refine cF ?_ | refine cS (fun _ => ?_) fun _ => ?_) | (apply gW; refine sW ?_) | (apply gI; refine sI ?_) | (apply gE; refine sE ?_) | (apply gP; refine sP ?_) | (apply gC; refine sC ?_) | (apply gD; refine sD ?_) | fail)
    refine E_rdnil eB none 0 ?_
    refine E_res2 (by rfl) (by rfl) ⟨none, 0, rfl, rfl⟩ Sb
  · rw [if_neg (by decide)] at h
    simp only [Prod.mk.injEq] at h
    obtain ⟨rfl, rfl, rfl, rfl⟩ := h
    repeat' (first | refine go ?_ | intro _ | (apply cG; first | refine cT ?_ | refine cF ?_ | refine cS (fun _ => ?_) fun _ => ?_) | (apply gW; refine sW ?_) | (apply gI; refine sI ?_) | (apply gE; refine sE ?_) | (apply gP; refine sP ?_) | (apply gC; refine sC ?_) | (apply gD; refine sD ?_) | fail)
    refine E_res2 (by rfl) (by rfl) ⟨_, _, rfl, rfl⟩ Sb
end
end Go.Proofs.Ythbgmnoaaohbcaa
namespace Go.Proofs.Ythbgmnoaaohbcaa
open Go Go.RowKit
set_option linter.unusedVariables false
set_option linter.unusedSimpArgs false
set_option maxRecDepth 20000
set_option synthInstance.maxSize 100000
set_option synthInstance.maxHeartbeats 400000
/-- a slice of bytes with its value -/
structure SB where
  v : Value
  b : List UInt8
theorem Sl.one2 {α : Type} {m : Hp} {R : Enc α} {v : Value} {l : List α} (h : Sl m R v l) : v.oneCell' = true := by
  obtain ⟨A, cap, css, hv, _⟩ := h
  rw [hv]; rfl
def eSB : Enc SB :=
  ⟨1, fun m x cs => cs = [x.v] ∧ Sl m eB x.v x.b, fun hm ⟨e, h1⟩ => ⟨e, h1.mono hm⟩, fun ⟨e, _⟩ => by subst e; rfl,
    fun {_ x _} ⟨e, h1⟩ u hu => by
      subst e
      simp only [List.mem_cons, List.not_mem_nil, or_false] at hu
      subst hu
      exact h1.one2⟩
instance : Sz eSB 1 := ⟨rfl⟩
instance {x : SB} : EncC eSB x [x.v] := ⟨fun _ _ h => h.1⟩
theorem All2.openS {m : Hp} : ∀ {l : List (List UInt8)} {css : List (List Value)}, All2 ((eSl eB).r m) l css → ∃ l' : List SB, l'.map SB.b = l ∧ All2 (eSB.r m) l' css
  | [], [], _ => ⟨[], rfl, trivial⟩
  | b :: l, c :: css, ⟨⟨v, e, h⟩, t⟩ => by
    obtain ⟨l', h1, h2⟩ := All2.openS t
    exact ⟨⟨v, b⟩ :: l', by rw [List.map_cons, h1], ⟨e, h⟩, h2⟩
  | [], _ :: _, h => h.elim
  | _ :: _, [], h => h.elim
theorem Sl.openS {m : Hp} {v : Value} {l : List (List UInt8)} (h : Sl m (eSl eB) v l) : ∃ l' : List SB, l'.map SB.b = l ∧ Sl m eSB v l' := by
  obtain ⟨A, cap, css, hv, hc, ha, hr⟩ := h
  obtain ⟨l', h1, h2⟩ := ha.openS
  have hl : l'.length = l.length := by rw [← h1, List.length_map]
  refine ⟨l', h1, A, cap, css, by rw [hl]; exact hv, by rw [hl]; exact hc, h2, ?_⟩
  rcases hr with h | h
  · left
    subst h
    exact List.length_eq_zero_iff.1 hl
  · exact .inr h
section
variable {P : Program} {W0 : World} {L : List HP}
theorem CT_openS {f : FuncId} {args : Array Value} {R : Value → List HP → Prop} {v : Value} {l : List (List UInt8)} (hv : rd (eSl eB) v l ∈ L) (k : ∀ l' : List SB, l'.map SB.b = l → CT P f args W0 (rd eSB v l' :: L) R) : CT P f args W0 L R := ⟨fun w s => by
  obtain ⟨h1, h2, h3, h4, m, h, hm, hw, hh, d, hL⟩ := s
  obtain ⟨a, _, hs⟩ := hL.mem hv
  obtain ⟨l', e, hs'⟩ := Sl.openS hs
  exact (k l' e).run w ⟨h1, h2, h3, h4, m, h, hm, hw, hh, d, Hp.none, h, Hp.none_dj _, Hp.none_le _, Hp.le_refl _, hs', hL⟩⟩
theorem sub_peekSB {v : Value} {l : List SB} {j : Nat} {x : SB} (hm : rd eSB v l ∈ L) (hx : l[j]? = some x) : Sub L (rd eB x.v x.b :: L) := fun m h s => by
  obtain ⟨a, _, A, cap, css, _, _, ha, _⟩ := s.mem hm
  obtain ⟨cs, _, hc⟩ := ha.get hx
  exact ⟨Hp.none, h, Hp.none_dj _, Hp.none_le _, Hp.le_refl _, hc.2, s⟩
end
end Go.Proofs.Ythbgmnoaaohbcaa
namespace Go.Proofs.Ythbgmnoaaohbcaa
open Go Go.RowKit
set_option linter.unusedVariables false
set_option linter.unusedSimpArgs false
set_option maxRecDepth 20000
set_option synthInstance.maxSize 100000
set_option synthInstance.maxHeartbeats 400000
def mSB : MEnc SB := ⟨SB.v, fun x => slI eB x.v x.b⟩
section
variable {W0 : World} {L : List HP}
/-- an end at block p -/
def endo (p : Nat) (w acked got : Int) (wait : List (List UInt8)) (held : List (Int × SB)) (ow : Bool) : HP :=
  ex fun v => ex fun b => sp [cel p [.int .i64 w, v, .int .i64 acked, .int .i64 got, .map (some b), .bool ow] 85, own 31 (eSl eB) v wait, mapo mSB b held]
theorem endo_sub {p b : Nat} {v : Value} {w acked got : Int} {wait : List (List UInt8)} {held : List (Int × SB)} {ow : Bool} :
    Sub (cel p [.int .i64 w, v, .int .i64 acked, .int .i64 got, .map (some b), .bool ow] 85 :: own 31 (eSl eB) v wait :: mapo mSB b held :: L) (endo p w acked got wait held ow :: L) :=
  ((sub_close (Ls := [cel p [.int .i64 w, v, .int .i64 acked, .int .i64 got, .map (some b), .bool ow] 85, own 31 (eSl eB) v wait, mapo mSB b held])).trans
    (sub_ex (F := fun b => sp [cel p [.int .i64 w, v, .int .i64 acked, .int .i64 got, .map (some b), .bool ow] 85, own 31 (eSl eB) v wait, mapo mSB b held]) b)).trans
    (sub_ex (F := fun v => ex fun b => sp [cel p [.int .i64 w, v, .int .i64 acked, .int .i64 got, .map (some b), .bool ow] 85, own 31 (eSl eB) v wait, mapo mSB b held]) v)
theorem endo_ct {f : FuncId} {args : Array Value} {R : Value → List HP → Prop} {p : Nat} {w acked got : Int} {wait : List (List UInt8)} {held : List (Int × SB)} {ow : Bool}
    (k : ∀ A c b, wait.length ≤ c → CT Try.prog f args W0 (cel p [.int .i64 w, .slice A wait.length c, .int .i64 acked, .int .i64 got, .map (some b), .bool ow] 85 :: own 31 (eSl eB) (.slice A wait.length c) wait :: mapo mSB b held :: L) R) :
    CT Try.prog f args W0 (endo p w acked got wait held ow :: L) R := by
  refine ⟨fun w st => ?_⟩
  obtain ⟨v, h⟩ := st.ex_
  obtain ⟨b, h⟩ := h.ex_
  have h := h.open_
  obtain ⟨A, c, rfl, hc⟩ := (h.rdo (.tail _ (.head _))).form
  exact (k A c b hc).run w h
theorem New_ct {w : Int} (h1 : 1 ≤ w) (h2 : w ≤ 16) : CT Try.prog 25 #[.int .i64 w] W0 L fun r L' => ∃ p, r = .tuple #[.pointer (some ⟨p, 0, none⟩), .int .i64 0] ∧ L' = endo p w 0 0 [] [] false :: L := by
  refine CT_enter Try.func25 rfl ?_; (simp only [Try.ntmps25, List.size_toArray, List.length_cons, List.length_nil, Nat.reduceAdd, Nat.reduceSub, Array.replicate_succ, Array.replicate_zero, List.push_toArray, List.append_toArray, List.nil_append, List.cons_append])
  repeat' (first | refine go ?_ | intro _ | (apply cG; first | refine cT ?_ | refine cF ?_ | refine cS (fun _ => ?_) fun _ => ?_) | (apply gW; refine sW ?_) | (apply gI; refine sI ?_) | (apply gE; refine sE ?_) | (apply gP; refine sP ?_) | (apply gC; refine sC ?_) | (apply gD; refine sD ?_) | fail)
  refine O_d (dy_mkmap mSB) ?_; rintro _ _ ⟨b, rfl, rfl⟩; refine O_n ?_
  repeat' (first | refine go ?_ | intro _ | (apply cG; first | refine cT ?_ | refine cF ?_ | refine cS (fun _ => ?_) fun _ => ?_) | (apply gW; refine sW ?_) | (apply gI; refine sI ?_) | (apply gE; refine sE ?_) | (apply gP; refine sP ?_) | (apply gC; refine sC ?_) | (apply gD; refine sD ?_) | fail)
  refine E_ownnil 31 (eSl eB) ?_
  rename_i p
  refine E_sub (S := cel p [.int .i64 w, .slice none 0 0, .int .i64 0, .int .i64 0, .map (some b), .bool false] 85 :: own 31 (eSl eB) (.slice none 0 0) [] :: mapo mSB b [] :: L) Sb ?_
  refine E_sub endo_sub ?_
  refine E_res2 (by rfl) (by rfl) ⟨_, rfl, rfl⟩ Sb
theorem New_no {w : Int} (h0 : -9223372036854775808 ≤ w ∧ w ≤ 9223372036854775807) (h1 : w < 1 ∨ 16 < w) : CT Try.prog 25 #[.int .i64 w] W0 L fun r L' => r = .tuple #[.pointer none, .int .i64 1] ∧ L' = L := by
  refine CT_enter Try.func25 rfl ?_; (simp only [Try.ntmps25, List.size_toArray, List.length_cons, List.length_nil, Nat.reduceAdd, Nat.reduceSub, Array.replicate_succ, Array.replicate_zero, List.push_toArray, List.append_toArray, List.nil_append, List.cons_append])
  by_cases h : w < 1
  · repeat' (first | refine go ?_ | intro _ | (apply cG; first | refine cT ?_ | refine cF ?_ | refine cS (fun _ => ?_) fun _ => ?_) | (apply gW; refine sW ?_) | (apply gI; refine sI ?_) | (apply gE; refine sE ?_) | (apply gP; refine sP ?_) | (apply gC; refine sC ?_) | (apply gD; refine sD ?_) | fail)
    refine E_res2 (by rfl) (by rfl) ⟨rfl, rfl⟩ Sb
  · repeat' (first | refine go ?_ | intro _ | (apply cG; first | refine cT ?_ | refine cF ?_ | refine cS (fun _ => ?_) fun _ => ?_) | (apply gW; refine sW ?_) | (apply gI; refine sI ?_) | (apply gE; refine sE ?_) | (apply gP; refine sP ?_) | (apply gC; refine sC ?_) | (apply gD; refine sD ?_) | fail)
    refine E_res2 (by rfl) (by rfl) ⟨rfl, rfl⟩ Sb
theorem D_fr0 {P : Program} {S : List HP} {n : Nat} {l : List Oper} {Q : Exit → Act → World → Prop} {br : Bool} {pl : List (Nat × Nat)} {a : Act} {E : TypeId} {v : Value} {x : List UInt8} (i : Nat) {L' : List HP} (h : L[i]? = some (own E eB v x)) (hL : L.set i (rd eB v x) = L') (k : DL P W0 S n l Q br pl L' a) : DL P W0 S n l Q br pl L a := by
  subst hL
  exact ⟨fun w s => k.run w ((s.at_ h).own_rd.back h)⟩
theorem Send_ct {p : Nat} {v : Value} {b : List UInt8} {w acked got : Int} {wait : List (List UInt8)} {held : List (Int × SB)} {ow : Bool} (hv : Src L eB v b) (hb : b.length ≤ 65536) (hw : wait.length < 1000) :
    CT Try.prog 13 #[.pointer (some ⟨p, 0, none⟩), v] W0 (endo p w acked got wait held ow :: L) fun r L' => r = .int .i64 0 ∧ L' = endo p w acked got (wait ++ [b]) held ow :: L := by
  have hv : Sc L v eB b := ⟨hv⟩
  refine endo_ct fun A c bm hc => ?_
  refine CT_fact (fun w s => ((Sc.pf : Src _ eB v b).sl s).form) ?_
  rintro ⟨A0, c0, rfl, hc0⟩
  refine CT_enter Try.func13 rfl ?_; (simp only [Try.ntmps13, List.size_toArray, List.length_cons, List.length_nil, Nat.reduceAdd, Nat.reduceSub, Array.replicate_succ, Array.replicate_zero, List.push_toArray, List.append_toArray, List.nil_append, List.cons_append])
  repeat' (first | refine go ?_ | intro _ | (apply cG; first | refine cT ?_ | refine cF ?_ | refine cS (fun _ => ?_) fun _ => ?_) | (apply gW; refine sW ?_) | (apply gI; refine sI ?_) | (apply gE; refine sE ?_) | (apply gP; refine sP ?_) | (apply gC; refine sC ?_) | (apply gD; refine sD ?_) | fail)
  refine C_draw (n := 8) [cel p [.int .i64 w, .slice A wait.length c, .int .i64 acked, .int .i64 got, .map (some bm), .bool ow] 85] [(0, 2), (1, 1), (2, 1), (3, 1), (4, 1), (5, 1), (6, 0), (7, 0), (8, 0), (9, 2), (10, 2), (11, 0)] (by kernel_rfl) (by kernel_rfl) Sb ?_
  repeat' (first | refine go ?_ | intro _ | (apply cG; first | refine cT ?_ | refine cF ?_ | refine cS (fun _ => ?_) fun _ => ?_) | (apply gW; refine sW ?_) | (apply gI; refine sI ?_) | (apply gE; refine sE ?_) | (apply gP; refine sP ?_) | (apply gC; refine sC ?_) | (apply gD; refine sD ?_) | fail)
  refine D_op rfl ?_; refine X_d (dy_call ArgsI.pf (by first | exact rfl | trivial | (intro a b; rfl)) (Clone_ct (l := b) Sc.pf (by omega))) ?_; rintro _ _ ⟨_, ⟨A1, c1, rfl, rfl⟩, rfl⟩; refine ⟨(by first | exact .inl rfl | exact .inr Sb), D_n ?_⟩
  refine D_fr0 0 rfl SAt.pf ?_
  repeat' (first | refine go ?_ | intro _ | (apply cG; first | refine cT ?_ | refine cF ?_ | refine cS (fun _ => ?_) fun _ => ?_) | (apply gW; refine sW ?_) | (apply gI; refine sI ?_) | (apply gE; refine sE ?_) | (apply gP; refine sP ?_) | (apply gC; refine sC ?_) | (apply gD; refine sD ?_) | fail)
  refine D_op rfl ?_; refine X_d (dy_litS (R := eSl eB) [b] [.slice A1 b.length c1] (by rfl) (fun m h hs => ⟨⟨_, rfl, rd_mem hs (by repeat (first | exact .head _ | refine .tail _ ?_))⟩, trivial⟩)) ?_; rintro _ _ ⟨_, rfl, rfl⟩; refine ⟨(by first | exact .inl rfl | exact .inr Sb), D_n ?_⟩
  refine D_op rfl ?_; refine X_d dy_append ?_; rintro _ _ ⟨A2, c2, rfl, rfl⟩; refine ⟨(by first | exact .inl rfl | exact .inr Sb), D_n ?_⟩
  repeat' (first | refine go ?_ | intro _ | (apply cG; first | refine cT ?_ | refine cF ?_ | refine cS (fun _ => ?_) fun _ => ?_) | (apply gW; refine sW ?_) | (apply gI; refine sI ?_) | (apply gE; refine sE ?_) | (apply gP; refine sP ?_) | (apply gC; refine sC ?_) | (apply gD; refine sD ?_) | fail)
  have hwl : wait.length + 1 = (wait ++ [b]).length := by rw [List.length_append]; rfl
  refine E_sub (S := cel p [.int .i64 w, .slice A2 (wait.length + 1) c2, .int .i64 acked, .int .i64 got, .map (some bm), .bool ow] 85 :: own 31 (eSl eB) (.slice A2 (wait.length + 1) c2) (wait ++ [b]) :: mapo mSB bm held :: L) Sb ?_
  refine E_sub endo_sub ?_
  refine E_res1 (by rfl) (by rfl) ⟨rfl, rfl⟩ Sb
end
end Go.Proofs.Ythbgmnoaaohbcaa
