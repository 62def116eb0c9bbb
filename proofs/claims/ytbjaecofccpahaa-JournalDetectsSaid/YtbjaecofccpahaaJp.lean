/-
  Plain: frames, and what a scan finds. No program.
-/
import Derived.Test.YtbjaecofccpahaaWx
import Derived.Test.YtbjaecofccpahaaHp
namespace Go.Proofs.Ytbjaecofccpahaa
open Go Go.RowKit
set_option linter.unusedVariables false
set_option linter.unusedSimpArgs false
def lblF : ByteArray := ⟨#[102, 114, 97, 109, 101]⟩
def coreF (i : Int) (x : List UInt8) : List UInt8 := varint (zig i) ++ (varint x.length ++ x)
def sumF (i : Int) (x : List UInt8) : Nat := (bytesW lblF.data.toList (coreF i x)).toNat
def frameF (i : Int) (x : List UInt8) : List UInt8 := varint (coreF i x).length ++ coreF i x ++ varint (sumF i x)
/-- the bytes that record looks at -/
def cutF (b : List UInt8) : List UInt8 := b.take (min b.length (10 + min (rU (b.take 10, 0)).1 b.length))
def recF (b : List UInt8) : List UInt8 := (rList rNext (rI ((rList rNext (cutF b, 0)).1, 0)).2).1
def isF (i : Int) (b : List UInt8) : Bool := (frameF i (recF b)).isPrefixOf b
def scanF : Nat → Int → List UInt8 → List (List UInt8) × Nat
  | 0, _, _ => ([], 0)
  | n + 1, i, b => if b = [] then ([], 0) else if isF i b = true then ((recF b) :: (scanF n (i + 1) (b.drop (frameF i (recF b)).length)).1, (frameF i (recF b)).length + (scanF n (i + 1) (b.drop (frameF i (recF b)).length)).2) else ([], 0)
theorem sumF_lt (i : Int) (x : List UInt8) : sumF i x < 18446744073709551616 := UInt64.toNat_lt _
theorem coreF_len {i : Int} {x : List UInt8} (h1 : -9223372036854775808 ≤ i) (h2 : i ≤ 9223372036854775807) (hx : x.length ≤ 1000000000) : (coreF i x).length ≤ x.length + 20 := by
  have a := vlen (zig_lt h1 h2)
  have b := vlen (m := x.length) (by omega)
  unfold coreF
  simp only [List.length_append]; omega
theorem frameF_len {i : Int} {x : List UInt8} (h1 : -9223372036854775808 ≤ i) (h2 : i ≤ 9223372036854775807) (hx : x.length ≤ 1000000000) : (frameF i x).length ≤ x.length + 40 := by
  have a := coreF_len h1 h2 hx
  have b := vlen (m := (coreF i x).length) (by omega)
  have c := vlen (sumF_lt i x)
  unfold frameF
  simp only [List.length_append]; omega
theorem frameF_min (i : Int) (x : List UInt8) : x.length + 4 ≤ (frameF i x).length := by
  have a := varint_pos (zig i)
  have b := varint_pos x.length
  have c := varint_pos (coreF i x).length
  have d := varint_pos (sumF i x)
  have e : (coreF i x).length = (varint (zig i)).length + ((varint x.length).length + x.length) := by unfold coreF; simp
  unfold frameF
  simp only [List.length_append]; omega
/-- a frame is read back -/
theorem raw_pre {c t : List UInt8} (hc : c.length < 18446744073709551616) : rList rNext (varint c.length ++ c ++ t, 0) = (c, (t, 0)) := rRaw_enc hc t
theorem core_back {i : Int} {x : List UInt8} (h1 : -9223372036854775808 ≤ i) (h2 : i ≤ 9223372036854775807) (hx : x.length ≤ 1000000000) : rI (coreF i x, 0) = (i, (varint x.length ++ x, 0)) := by
  unfold coreF
  exact rI_zig h1 h2 _
theorem rest_back {x : List UInt8} (hx : x.length ≤ 1000000000) : rList rNext (varint x.length ++ x, 0) = (x, ([], 0)) := by
  have := rRaw_enc (l := x) (by omega) []
  rwa [List.append_nil] at this
theorem cutF_frame {i : Int} {x t : List UInt8} (h1 : -9223372036854775808 ≤ i) (h2 : i ≤ 9223372036854775807) (hx : x.length ≤ 1000000000) : ∃ t', cutF (frameF i x ++ t) = varint (coreF i x).length ++ coreF i x ++ t' := by
  have hcl := coreF_len h1 h2 hx
  obtain ⟨c, hc⟩ : ∃ c, coreF i x = c := ⟨_, rfl⟩
  obtain ⟨s, hs⟩ : ∃ s, varint (sumF i x) ++ t = s := ⟨_, rfl⟩
  have hf : frameF i x ++ t = varint c.length ++ (c ++ s) := by unfold frameF; rw [hc, ← hs]; simp
  rw [hf, hc]
  rw [hc] at hcl
  have hv := vlen (m := c.length) (by omega)
  have h10 : (varint c.length ++ (c ++ s)).take 10 = varint c.length ++ (c ++ s).take (10 - (varint c.length).length) := by
    rw [List.take_append, List.take_of_length_le hv]
  unfold cutF
  rw [h10, rU_varint (by omega)]
  dsimp only
  have hm : (varint c.length ++ c).length ≤ min (varint c.length ++ (c ++ s)).length (10 + min c.length (varint c.length ++ (c ++ s)).length) := by
    simp only [List.length_append]; omega
  refine ⟨s.take (min (varint c.length ++ (c ++ s)).length (10 + min c.length (varint c.length ++ (c ++ s)).length) - (varint c.length ++ c).length), ?_⟩
  rw [← List.append_assoc, List.take_append, List.take_of_length_le (by rw [← List.append_assoc] at hm; exact hm)]
theorem recF_frame {i : Int} {x t : List UInt8} (h1 : -9223372036854775808 ≤ i) (h2 : i ≤ 9223372036854775807) (hx : x.length ≤ 1000000000) : recF (frameF i x ++ t) = x := by
  obtain ⟨t', ht⟩ := cutF_frame (t := t) h1 h2 hx
  have hcl := coreF_len h1 h2 hx
  unfold recF
  rw [ht, raw_pre (by omega)]
  dsimp only
  rw [core_back h1 h2 hx, rest_back hx]
theorem isF_iff {i : Int} {b : List UInt8} : isF i b = true ↔ ∃ t, frameF i (recF b) ++ t = b := by
  unfold isF
  rw [List.isPrefixOf_iff_prefix]
  exact Iff.rfl
theorem isF_frame {i : Int} {x t : List UInt8} (h1 : -9223372036854775808 ≤ i) (h2 : i ≤ 9223372036854775807) (hx : x.length ≤ 1000000000) : isF i (frameF i x ++ t) = true := by
  rw [isF_iff, recF_frame h1 h2 hx]
  exact ⟨t, rfl⟩
/-- what the reference's first finds -/
theorem first_iff {i : Int} {b x : List UInt8} (h1 : -9223372036854775808 ≤ i) (h2 : i ≤ 9223372036854775807) (hx : x.length ≤ 1000000000) (hp : ∃ t, frameF i x ++ t = b) : isF i b = true ∧ recF b = x := by
  obtain ⟨t, rfl⟩ := hp
  exact ⟨isF_frame h1 h2 hx, recF_frame h1 h2 hx⟩
theorem rRaw_len (s : Rs) : (rList rNext s).1.length ≤ s.1.length := by
  obtain ⟨bs, e⟩ := s
  obtain ⟨m, b1, e1, hu⟩ : ∃ m b1 e1, rU (bs, e) = (m, (b1, e1)) := ⟨_, _, _, rfl⟩
  have hl := rU_len (bs, e)
  rw [hu] at hl
  dsimp only at hl ⊢
  rcases rList_cases (f := rNext) (l := (rList rNext (bs, e)).1) (bs' := (rList rNext (bs, e)).2.1) (e' := (rList rNext (bs, e)).2.2) hu rfl with ⟨_, h, _⟩ | ⟨_, _, h, _⟩ | ⟨_, hm, _, h⟩
  · rw [h]; simp
  · rw [h]; simp
  · rw [h]
    split
    · rw [rMany_take m b1 hm, List.length_take]; omega
    · simp
theorem recF_len (b : List UInt8) : (recF b).length ≤ b.length := by
  unfold recF
  refine Nat.le_trans (rRaw_len _) ?_
  have h1 : (rI ((rList rNext (cutF b, 0)).1, 0)).2.1.length ≤ (rList rNext (cutF b, 0)).1.length := rU_len _
  refine Nat.le_trans h1 (Nat.le_trans (rRaw_len _) ?_)
  unfold cutF
  exact List.length_take_le' _ _
theorem scanF_nil (n : Nat) (i : Int) : scanF n i [] = ([], 0) := by
  cases n <;> rfl
theorem scanF_yes {n : Nat} {i : Int} {b : List UInt8} (hb : b ≠ []) (h : isF i b = true) : scanF (n + 1) i b = ((recF b) :: (scanF n (i + 1) (b.drop (frameF i (recF b)).length)).1, (frameF i (recF b)).length + (scanF n (i + 1) (b.drop (frameF i (recF b)).length)).2) := by
  rw [scanF, if_neg hb, if_pos h]
theorem scanF_no {n : Nat} {i : Int} {b : List UInt8} (h : isF i b = false) : scanF (n + 1) i b = ([], 0) := by
  rw [scanF]
  split
  · rfl
  · rw [if_neg (by rw [h]; decide)]
/-- all frames of some records -/
def framesF : Int → List (List UInt8) → List UInt8
  | _, [] => []
  | i, x :: r => frameF i x ++ framesF (i + 1) r
theorem scanF_frames : ∀ (xs : List (List UInt8)) (n : Nat) (i : Int) (t : List UInt8), (∀ x ∈ xs, x.length ≤ 1000000) → -9223372036854775808 ≤ i → i + xs.length ≤ 9223372036854775807 → xs.length ≤ n →
    scanF n i (framesF i xs ++ t) = (xs ++ (scanF (n - xs.length) (i + xs.length) t).1, (framesF i xs).length + (scanF (n - xs.length) (i + xs.length) t).2)
  | [], n, i, t, _, _, _, _ => by simp [framesF]
  | x :: r, n, i, t, hx, h1, h2, hn => by
    simp only [List.length_cons] at h2 hn
    push_cast at h2
    obtain ⟨k, rfl⟩ : ∃ k, n = k + 1 := ⟨n - 1, by omega⟩
    have hxl := hx x (.head _)
    have e : framesF i (x :: r) ++ t = frameF i x ++ (framesF (i + 1) r ++ t) := by simp [framesF]
    have hmin := frameF_min i x
    rw [e, scanF_yes (by intro h; have := congrArg List.length h; simp only [List.length_append, List.length_nil] at this; omega) (isF_frame h1 (by omega) (by omega)), recF_frame h1 (by omega) (by omega), List.drop_left]
    rw [scanF_frames r k (i + 1) t (fun y hy => hx y (.tail _ hy)) (by omega) (by omega) (by omega)]
    have e1 : i + 1 + (r.length : Int) = i + ((r.length + 1 : Nat) : Int) := by push_cast; omega
    have e2 : k + 1 - (r.length + 1) = k - r.length := by omega
    simp only [List.length_cons, framesF, List.length_append, e1, e2, List.cons_append, Prod.mk.injEq, true_and]
    omega
end Go.Proofs.Ytbjaecofccpahaa
