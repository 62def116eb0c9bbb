/-
  The reference of the index: Blocks, Find.
-/
import Derived.Test.YtnjjifikogblpaaMW
namespace Go.Proofs.Ytnjjifikogblpaa
open Go Go.RowKit
set_option linter.unusedVariables false
set_option linter.unusedSimpArgs false
set_option maxRecDepth 20000
set_option synthInstance.maxSize 100000
set_option synthInstance.maxHeartbeats 400000
def eBk : Enc Blk :=
  ⟨3, fun m e cs => cs = [.int .i64 (e.1 : Int), .int .i64 (e.2.1 : Int), .int .i64 (e.2.2 : Int)], fun hm e => e, fun e => by subst e; rfl,
    fun {_ x _} e u hu => by
      subst e
      simp only [List.mem_cons, List.not_mem_nil, or_false] at hu
      rcases hu with rfl | rfl | rfl <;> rfl⟩
instance : Sz eBk 3 := ⟨rfl⟩
instance {e : Blk} : EncC eBk e [.int .i64 (e.1 : Int), .int .i64 (e.2.1 : Int), .int .i64 (e.2.2 : Int)] := ⟨fun _ _ h => h⟩
theorem blks_take {l : List Ent} {i : Nat} {e : Ent} (h : l[i]? = some e) : blkL (l.take (i + 1)) = (ancs e.2.b).foldl addB (blkL (l.take i)) := by
  unfold blkL
  rw [List.take_add_one, h, List.foldl_append]
  rfl
theorem ancs_get {b : BX} {m : Nat} (h : lvB b + m ≤ 32) : (ancs b)[m]? = some (lvB b + m, blkB b (lvB b + m)) := by
  unfold ancs
  rw [List.getElem?_map, List.getElem?_range (by omega)]
  rfl
theorem ancs_len (b : BX) : (ancs b).length = 33 - lvB b := by
  unfold ancs
  rw [List.length_map, List.length_range]
theorem ancs_take {b : BX} {m : Nat} {out : List Blk} (h : lvB b + m ≤ 32) : ((ancs b).take (m + 1)).foldl addB out = addB (((ancs b).take m).foldl addB out) (lvB b + m, blkB b (lvB b + m)) := by
  rw [List.take_add_one, ancs_get h, List.foldl_append]
  rfl
section
variable {P : Program} {W0 : World} {L : List HP}
set_option maxHeartbeats 4000000 in
theorem rBlocks_ct {R : RM} (hg : ∀ e ∈ R.l, e.2.b.good) (hl : R.l.length ≤ 65536) : CT Try.prog 40 #[.pointer (some ⟨R.p, 0, none⟩)] W0 (rtA R :: L) fun r L' => ∃ A c, r = .slice A (blkL R.l).length c ∧ L' = own 88 eBk (.slice A (blkL R.l).length c) (blkL R.l) :: rtA R :: L := by
  refine CT.sub ?_ rtA_open
  obtain ⟨p, A, c, l, lk⟩ := R
  dsimp only at hl hg ⊢
  refine CT_enter Try.func40 rfl ?_; (simp only [Try.ntmps40, List.size_toArray, List.length_cons, List.length_nil, Nat.reduceAdd, Nat.reduceSub, Array.replicate_succ, Array.replicate_zero, List.push_toArray, List.append_toArray, List.nil_append, List.cons_append])
  repeat' (first | refine go ?_ | intro _ | (apply cG; first | refine cT ?_ | refine cF ?_ | refine cS (fun _ => ?_) fun _ => ?_) | (apply gW; refine sW ?_) | (apply gI; refine sI ?_) | (apply gE; refine sE ?_) | (apply gP; refine sP ?_) | (apply gC; refine sC ?_) | (apply gD; refine sD ?_) | fail)
  refine C_ownnil 88 eBk ?_
  refine C_loopS (κ := Nat × Option Addr × Nat × List Blk) [false, false, false, true, true, true, true, true, true, true, true, true, true, true, true, true, true, true, true, true, true, true, true, true, true, true, true, true, true, true, true, true, true, true, true, true, true, true, true, true, true, true, true, true, true, true, true, true, true, true, true, true, true, true, true, true, true, true, true, true, true, true, true, true, true, true, false] (fun k => [(3, .slice k.2.1 k.2.2.2.length k.2.2.1), (4, .int .i64 (k.1 : Int))]) (fun k => [(0, own 88 eBk (.slice k.2.1 k.2.2.2.length k.2.2.1) k.2.2.2)]) (fun k => k.1 ≤ l.length ∧ k.2.2.2 = blkL (l.take k.1)) (fun k => l.length - k.1) (0, none, 0, []) ⟨Nat.zero_le _, rfl⟩ ⟨rfl, rfl, trivial⟩ ?_
  rintro ⟨i, A1, c1, o1⟩ u1 ⟨hi, ho1⟩
  dsimp only at hi ho1
  dsimp only
  ((try dsimp only); refine C_n ?_; (try simp only [Nat.reduceAdd, Nat.zero_add]))
  have hlen1 : o1.length ≤ 33 * i := by
    have h1 : (blkL (l.take i)).length ≤ 0 + 33 * (l.take i).length := blks_len
    rw [← ho1, List.length_take] at h1
    omega
  by_cases hil : i < l.length
  rotate_left
  · obtain rfl : i = l.length := by omega
    rw [List.take_length] at ho1
    subst ho1
    repeat' (first | refine go ?_ | intro _ | (apply cG; first | refine cT ?_ | refine cF ?_ | refine cS (fun _ => ?_) fun _ => ?_) | (apply gW; refine sW ?_) | (apply gI; refine sI ?_) | (apply gE; refine sE ?_) | (apply gP; refine sP ?_) | (apply gC; refine sC ?_) | (apply gD; refine sD ?_) | fail)
    refine E_res1 (by rfl) (by rfl) ⟨A1, c1, rfl, rfl⟩ ?_
    exact Sub.trans (B := cel p [.slice A l.length c, .int .i64 lk] 36 :: rd eTh (.slice A l.length c) l :: own 88 eBk (.slice A1 (blkL l).length c1) (blkL l) :: L) Sb (Sub.trans (rtA_close (R := ⟨p, A, c, l, lk⟩)) Sb)
  obtain ⟨x, hx⟩ : ∃ x, l[i]? = some x := ⟨_, List.getElem?_eq_getElem hil⟩
  have hax : At l i x := ⟨hx⟩
  have hxg := hg x (List.mem_of_getElem? hx)
  have hlv := lv_le x.2.b
  have hlen := ancs_len x.2.b
  obtain ⟨g1, g2, g3, g4, _⟩ := id hxg
  have e1 : (x.2.b.x0 + 1073741824).toNat = X0 x.2.b := rfl
  have e2 : (x.2.b.y0 + 1073741824).toNat = Y0 x.2.b := rfl
  repeat' (first | refine go ?_ | intro _ | (apply cG; first | refine cT ?_ | refine cF ?_ | refine cS (fun _ => ?_) fun _ => ?_) | (apply gW; refine sW ?_) | (apply gI; refine sI ?_) | (apply gE; refine sE ?_) | (apply gP; refine sP ?_) | (apply gC; refine sC ?_) | (apply gD; refine sD ?_) | fail)
  refine O_d (dy_call ArgsI.pf (by first | exact rfl | trivial | (intro a b; rfl)) (rOf_ct (b := x.2.b) hxg)) ?_; rintro _ _ ⟨_, ⟨rfl, hLL⟩, rfl⟩; replace hLL := hLL.symm; subst hLL; refine O_n ?_
  repeat' (first | refine go ?_ | intro _ | (apply cG; first | refine cT ?_ | refine cF ?_ | refine cS (fun _ => ?_) fun _ => ?_) | (apply gW; refine sW ?_) | (apply gI; refine sI ?_) | (apply gE; refine sE ?_) | (apply gP; refine sP ?_) | (apply gC; refine sC ?_) | (apply gD; refine sD ?_) | fail)
  rename_i pw
  refine C_loopS (κ := Nat × Option Addr × Nat × List Blk) [false, false, false, true, false, false, true, true, true, true, false, false, false, false, false, false, false, false, false, false, false, false, false, false, false, false, false, false, false, false, true, true, true, true, true, true, true, true, true, true, true, true, true, true, true, true, true, true, true, true, true, true, true, true, true, true, true, true, true, true, true, true, true, true, true, true, false] (fun k => [(3, .slice k.2.1 k.2.2.2.length k.2.2.1), (6, .int .i64 ((lvB x.2.b + k.1 : Nat) : Int))]) (fun k => [(1, own 88 eBk (.slice k.2.1 k.2.2.2.length k.2.2.1) k.2.2.2)]) (fun k => lvB x.2.b + k.1 ≤ 33 ∧ k.2.2.2 = ((ancs x.2.b).take k.1).foldl addB o1) (fun k => 33 - (lvB x.2.b + k.1)) (0, A1, c1, o1) ⟨by omega, rfl⟩ ⟨rfl, rfl, trivial⟩ ?_
  rintro ⟨m, A2, c2, o2⟩ u2 ⟨hm, ho2⟩
  dsimp only at hm ho2
  dsimp only
  ((try dsimp only); refine C_n ?_; (try simp only [Nat.reduceAdd, Nat.zero_add]))
  have hlen2 : o2.length ≤ 33 * i + m := by
    have h1 := adds_len (xs := (ancs x.2.b).take m) (out := o1)
    rw [← ho2, List.length_take] at h1
    omega
  by_cases hmn : lvB x.2.b + m ≤ 32
  rotate_left
  · have hmn' : lvB x.2.b + m = 33 := by omega
    have : (ancs x.2.b).take m = ancs x.2.b := List.take_of_length_le (by omega)
    rw [this, ho1, ← blks_take hx] at ho2
    repeat' (first | refine go ?_ | intro _ | (apply cG; first | refine cT ?_ | refine cF ?_ | refine cS (fun _ => ?_) fun _ => ?_) | (apply gW; refine sW ?_) | (apply gI; refine sI ?_) | (apply gE; refine sE ?_) | (apply gP; refine sP ?_) | (apply gC; refine sC ?_) | (apply gD; refine sD ?_) | fail)
    exact E_round (i + 1, A2, c2, o2) ⟨hil, ho2⟩ (by dsimp only; omega) ⟨rfl, rfl, trivial⟩ Sb
  have hst := ancs_take (out := o1) hmn
  rw [← ho2] at hst
  obtain ⟨n, hn⟩ : ∃ n, lvB x.2.b + m = n := ⟨_, rfl⟩
  rw [hn] at hst hmn
  rw [hn]
  repeat' (first | refine go ?_ | intro _ | (apply cG; first | refine cT ?_ | refine cF ?_ | refine cS (fun _ => ?_) fun _ => ?_) | (apply gW; refine sW ?_) | (apply gI; refine sI ?_) | (apply gE; refine sE ?_) | (apply gP; refine sP ?_) | (apply gC; refine sC ?_) | (apply gD; refine sD ?_) | fail)
  refine O_d (dy_call ArgsI.pf (by first | exact rfl | trivial | (intro a b; rfl)) (rAt_ct (n := n) g1 g2 hmn)) ?_; rintro _ _ ⟨_, ⟨rfl, hLL⟩, rfl⟩; replace hLL := hLL.symm; subst hLL; refine O_n ?_
  rw [e1, e2]
  obtain ⟨y, hy⟩ : ∃ y : Blk, (n, blkB x.2.b n) = y := ⟨_, rfl⟩
  have hyv : bkV n (X0 x.2.b / 2 ^ n) (Y0 x.2.b / 2 ^ n) = blV y := by rw [← hy]; rfl
  rw [hyv]
  rw [hy] at hst
  repeat' (first | refine go ?_ | intro _ | (apply cG; first | refine cT ?_ | refine cF ?_ | refine cS (fun _ => ?_) fun _ => ?_) | (apply gW; refine sW ?_) | (apply gI; refine sI ?_) | (apply gE; refine sE ?_) | (apply gP; refine sP ?_) | (apply gC; refine sC ?_) | (apply gD; refine sD ?_) | fail)
  rename_i py
  refine C_loopS (κ := Nat) [false, false, false, false, false, false, false, false, true, true, false, false, false, false, false, false, false, false, false, false, false, false, false, false, false, false, false, false, false, false, false, false, false, false, false, false, false, false, false, false, false, false, false, false, false, true, true, true, true, true, true, true, true, true, true, true, true, true, true, true, false, false, false, false, false, false, false] (fun k => [(8, .bool (decide (y ∈ o2.take k))), (9, .int .i64 (k : Int))]) (fun k => []) (fun k => k ≤ o2.length) (fun k => o2.length - k) 0 (Nat.zero_le _) ⟨rfl, rfl, trivial⟩ ?_
  rintro k u3 hk
  ((try dsimp only); refine C_n ?_; (try simp only [Nat.reduceAdd, Nat.zero_add]))
  by_cases hko : k < o2.length
  · obtain ⟨z, hz⟩ : ∃ z, o2[k]? = some z := ⟨_, List.getElem?_eq_getElem hko⟩
    have haz : At o2 k z := ⟨hz⟩
    have hmem : (y ∈ o2.take (k + 1)) ↔ (y ∈ o2.take k ∨ z = y) := by
      rw [List.take_add_one, hz, List.mem_append, show (some z).toList = [z] from rfl, List.mem_singleton]
      exact ⟨fun h => h.imp id Eq.symm, fun h => h.imp id Eq.symm⟩
    by_cases hin : y ∈ o2.take k
    · rw [decide_eq_true hin]
      repeat' (first | refine go ?_ | intro _ | (apply cG; first | refine cT ?_ | refine cF ?_ | refine cS (fun _ => ?_) fun _ => ?_) | (apply gW; refine sW ?_) | (apply gI; refine sI ?_) | (apply gE; refine sE ?_) | (apply gP; refine sP ?_) | (apply gC; refine sC ?_) | (apply gD; refine sD ?_) | fail)
      refine C_draw (n := 99) [own 88 eBk (.slice A2 o2.length c2) o2, cel py [.int .i64 (y.1 : Int), .int .i64 (y.2.1 : Int), .int .i64 (y.2.2 : Int)] 88] [(0, 1), (1, 1), (2, 1), (3, 1), (4, 1), (5, 1), (6, 1), (7, 1), (8, 1), (9, 1)] (by kernel_rfl) (by kernel_rfl) Sb ?_
      repeat' (first | refine go ?_ | intro _ | (apply cG; first | refine cT ?_ | refine cF ?_ | refine cS (fun _ => ?_) fun _ => ?_) | (apply gW; refine sW ?_) | (apply gI; refine sI ?_) | (apply gE; refine sE ?_) | (apply gP; refine sP ?_) | (apply gC; refine sC ?_) | (apply gD; refine sD ?_) | fail)
      exact E_round (k + 1) (by omega) (by omega) ⟨by rw [decide_eq_true (hmem.2 (.inl hin))]; rfl, rfl, trivial⟩ Sb
    · rw [decide_eq_false hin]
      repeat' (first | refine go ?_ | intro _ | (apply cG; first | refine cT ?_ | refine cF ?_ | refine cS (fun _ => ?_) fun _ => ?_) | (apply gW; refine sW ?_) | (apply gI; refine sI ?_) | (apply gE; refine sE ?_) | (apply gP; refine sP ?_) | (apply gC; refine sC ?_) | (apply gD; refine sD ?_) | fail)
      refine C_draw (n := 99) [own 88 eBk (.slice A2 o2.length c2) o2, cel py [.int .i64 (y.1 : Int), .int .i64 (y.2.1 : Int), .int .i64 (y.2.2 : Int)] 88] [(0, 1), (1, 1), (2, 1), (3, 1), (4, 1), (5, 1), (6, 1), (7, 1), (8, 1), (9, 1)] (by kernel_rfl) (by kernel_rfl) Sb ?_
      repeat' (first | refine go ?_ | intro _ | (apply cG; first | refine cT ?_ | refine cF ?_ | refine cS (fun _ => ?_) fun _ => ?_) | (apply gW; refine sW ?_) | (apply gI; refine sI ?_) | (apply gE; refine sE ?_) | (apply gP; refine sP ?_) | (apply gC; refine sC ?_) | (apply gD; refine sD ?_) | fail)
      refine D_op rfl ?_; refine X_s (sv_eqR (h := fun w => eq_bk z y w)) ?_
      have hd : decide (y ∈ o2.take (k + 1)) = decide (z = y) := decide_eq_decide.2 (by rw [hmem]; exact ⟨fun h => h.resolve_left hin, .inr⟩)
      repeat' (first | refine go ?_ | intro _ | (apply cG; first | refine cT ?_ | refine cF ?_ | refine cS (fun _ => ?_) fun _ => ?_) | (apply gW; refine sW ?_) | (apply gI; refine sI ?_) | (apply gE; refine sE ?_) | (apply gP; refine sP ?_) | (apply gC; refine sC ?_) | (apply gD; refine sD ?_) | fail)
      exact E_round (k + 1) (by omega) (by omega) ⟨by rw [hd]; rfl, rfl, trivial⟩ Sb
  obtain rfl : k = o2.length := by omega
  rw [List.take_length]
  by_cases hin : y ∈ o2
  · rw [decide_eq_true hin]
    have hadd : addB o2 y = o2 := if_pos hin
    rw [hadd] at hst
    repeat' (first | refine go ?_ | intro _ | (apply cG; first | refine cT ?_ | refine cF ?_ | refine cS (fun _ => ?_) fun _ => ?_) | (apply gW; refine sW ?_) | (apply gI; refine sI ?_) | (apply gE; refine sE ?_) | (apply gP; refine sP ?_) | (apply gC; refine sC ?_) | (apply gD; refine sD ?_) | fail)
    exact E_round (m + 1, A2, c2, o2) ⟨by dsimp only; omega, hst.symm⟩ (by dsimp only; omega) ⟨rfl, by rw [← hn]; rfl, trivial⟩ Sb
  · rw [decide_eq_false hin]
    have hadd : addB o2 y = o2 ++ [y] := if_neg hin
    rw [hadd] at hst
    repeat' (first | refine go ?_ | intro _ | (apply cG; first | refine cT ?_ | refine cF ?_ | refine cS (fun _ => ?_) fun _ => ?_) | (apply gW; refine sW ?_) | (apply gI; refine sI ?_) | (apply gE; refine sE ?_) | (apply gP; refine sP ?_) | (apply gC; refine sC ?_) | (apply gD; refine sD ?_) | fail)
    refine O_d (dy_lit1 (R := eBk) y (hcs := by rfl) (hel := fun _ _ _ => by rfl)) ?_; rintro _ _ ⟨_, rfl, rfl⟩; refine O_n ?_
    repeat' (first | refine go ?_ | intro _ | (apply cG; first | refine cT ?_ | refine cF ?_ | refine cS (fun _ => ?_) fun _ => ?_) | (apply gW; refine sW ?_) | (apply gI; refine sI ?_) | (apply gE; refine sE ?_) | (apply gP; refine sP ?_) | (apply gC; refine sC ?_) | (apply gD; refine sD ?_) | fail)
    rename_i A3 c3
    refine E_round (m + 1, A3, c3, o2 ++ [y]) ⟨by dsimp only; omega, hst.symm⟩ (by dsimp only; omega) ⟨by dsimp only; rw [List.length_append]; rfl, by rw [← hn]; rfl, trivial⟩ ?_
    dsimp only
    rw [List.length_append]
    exact Sb
end
end Go.Proofs.Ytnjjifikogblpaa
namespace Go.Proofs.Ytnjjifikogblpaa
open Go Go.RowKit
set_option linter.unusedVariables false
set_option linter.unusedSimpArgs false
set_option maxRecDepth 20000
set_option synthInstance.maxSize 100000
set_option synthInstance.maxHeartbeats 400000
theorem blk_bd {l : List Ent} (hg : ∀ e ∈ l, e.2.b.good) {x : Blk} (hx : x ∈ blkL l) : x.1 ≤ 32 ∧ (x.2.1 + 1) * 2 ^ x.1 ≤ 8589934592 ∧ (x.2.2 + 1) * 2 ^ x.1 ≤ 8589934592 := by
  obtain ⟨e, he, h1, h2, h3⟩ := blkL_mem.1 hx
  obtain ⟨_, _, _, _, g1, g2, g3, g4⟩ := (hg e he).nums
  have h32 : 2 ^ x.1 ≤ 4294967296 := Nat.pow_le_pow_right (by decide) h2
  have k1 := Nat.div_mul_le_self (X0 e.2.b) (2 ^ x.1)
  have k2 := Nat.div_mul_le_self (Y0 e.2.b) (2 ^ x.1)
  rw [h3, show blkB e.2.b x.1 = (X0 e.2.b / 2 ^ x.1, Y0 e.2.b / 2 ^ x.1) from rfl]
  dsimp only
  rw [Nat.succ_mul, Nat.succ_mul]
  exact ⟨h2, by omega, by omega⟩
theorem hits_take {l : List Ent} {b : BX} {d : Int} {i : Nat} {e : Ent} (h : l[i]? = some e) : hitsF b d (l.take (i + 1)) = hitsF b d (l.take i) ++ if hitF b d e = true then [e.1] else [] := by
  rw [List.take_add_one, h, hits_app]
  congr 1
  show hitsF b d [e] = _
  unfold hitsF
  by_cases hh : hitF b d e = true
  · rw [List.filter_cons_of_pos hh, if_pos hh]; rfl
  · rw [List.filter_cons_of_neg hh, if_neg hh]; rfl
section
variable {P : Program} {W0 : World} {L : List HP}
set_option maxHeartbeats 4000000 in
theorem rFind_ct {R : RM} {b : BX} {d : Int} (hl : WFL R.l) : CT Try.prog 15 #[.pointer (some ⟨R.p, 0, none⟩), bxV b, .int .i64 d] W0 (rtA R :: L) fun r L' => ∃ A c lk, (lk = if fokB b d = true then (lookF R.l b : Int) else R.lk) ∧ r = .tuple #[.slice A (findL R.l b d).length c, .int .i64 (findE b d)] ∧ L' = own 3 eI (.slice A (findL R.l b d).length c) (findL R.l b d) :: rtA { R with lk := lk } :: L := by
  have hno : fokB b d = false → findE b d = 1 ∧ findL R.l b d = [] := fun h => ⟨if_neg (by rw [h]; decide), if_neg (by rw [h]; decide)⟩
  by_cases c3 : b.good
  rotate_left
  · have hf : fokB b d = false := by unfold fokB; rw [decide_eq_false c3]; rfl
    obtain ⟨e1, e2⟩ := hno hf
    rw [e1, e2, hf]
    refine CT_enter Try.func15 rfl ?_; (simp only [Try.ntmps15, List.size_toArray, List.length_cons, List.length_nil, Nat.reduceAdd, Nat.reduceSub, Array.replicate_succ, Array.replicate_zero, List.push_toArray, List.append_toArray, List.nil_append, List.cons_append])
    repeat' (first | refine go ?_ | intro _ | (apply cG; first | refine cT ?_ | refine cF ?_ | refine cS (fun _ => ?_) fun _ => ?_) | (apply gW; refine sW ?_) | (apply gI; refine sI ?_) | (apply gE; refine sE ?_) | (apply gP; refine sP ?_) | (apply gC; refine sC ?_) | (apply gD; refine sD ?_) | fail)
    refine O_d (dy_call ArgsI.pf (by first | exact rfl | trivial | (intro a b; rfl)) (rValid_ct (b := b))) ?_; rintro _ _ ⟨_, ⟨rfl, hLL⟩, rfl⟩; replace hLL := hLL.symm; subst hLL; refine O_n ?_
    rw [decide_eq_false c3]
    repeat' (first | refine go ?_ | intro _ | (apply cG; first | refine cT ?_ | refine cF ?_ | refine cS (fun _ => ?_) fun _ => ?_) | (apply gW; refine sW ?_) | (apply gI; refine sI ?_) | (apply gE; refine sE ?_) | (apply gP; refine sP ?_) | (apply gC; refine sC ?_) | (apply gD; refine sD ?_) | fail)
    refine E_ownnil 3 eI ?_
    refine E_res2 (by rfl) (by rfl) ⟨none, 0, R.lk, rfl, rfl, rfl⟩ Sb
  cases c4 : inF d 0 73048 with
  | false =>
    have hf : fokB b d = false := by
      unfold fokB daysF
      rw [Bool.and_eq_false_iff]
      exact .inr (decide_eq_false fun h => of_decide_eq_false c4 ⟨h.1, h.2.2⟩)
    obtain ⟨e1, e2⟩ := hno hf
    rw [e1, e2, hf]
    refine CT_enter Try.func15 rfl ?_; (simp only [Try.ntmps15, List.size_toArray, List.length_cons, List.length_nil, Nat.reduceAdd, Nat.reduceSub, Array.replicate_succ, Array.replicate_zero, List.push_toArray, List.append_toArray, List.nil_append, List.cons_append])
    repeat' (first | refine go ?_ | intro _ | (apply cG; first | refine cT ?_ | refine cF ?_ | refine cS (fun _ => ?_) fun _ => ?_) | (apply gW; refine sW ?_) | (apply gI; refine sI ?_) | (apply gE; refine sE ?_) | (apply gP; refine sP ?_) | (apply gC; refine sC ?_) | (apply gD; refine sD ?_) | fail)
    refine O_d (dy_call ArgsI.pf (by first | exact rfl | trivial | (intro a b; rfl)) (rValid_ct (b := b))) ?_; rintro _ _ ⟨_, ⟨rfl, hLL⟩, rfl⟩; replace hLL := hLL.symm; subst hLL; refine O_n ?_
    rw [decide_eq_true c3]
    repeat' (first | refine go ?_ | intro _ | (apply cG; first | refine cT ?_ | refine cF ?_ | refine cS (fun _ => ?_) fun _ => ?_) | (apply gW; refine sW ?_) | (apply gI; refine sI ?_) | (apply gE; refine sE ?_) | (apply gP; refine sP ?_) | (apply gC; refine sC ?_) | (apply gD; refine sD ?_) | fail)
    refine O_d (dy_call ArgsI.pf (by first | exact rfl | trivial | (intro a b; rfl)) (rwithin_ct)) ?_; rintro _ _ ⟨_, ⟨rfl, hLL⟩, rfl⟩; replace hLL := hLL.symm; subst hLL; refine O_n ?_
    rw [c4]
    repeat' (first | refine go ?_ | intro _ | (apply cG; first | refine cT ?_ | refine cF ?_ | refine cS (fun _ => ?_) fun _ => ?_) | (apply gW; refine sW ?_) | (apply gI; refine sI ?_) | (apply gE; refine sE ?_) | (apply gP; refine sP ?_) | (apply gC; refine sC ?_) | (apply gD; refine sD ?_) | fail)
    refine E_ownnil 3 eI ?_
    refine E_res2 (by rfl) (by rfl) ⟨none, 0, R.lk, rfl, rfl, rfl⟩ Sb
  | true =>
  have hf : fokB b d = true := by
    have h4 := of_decide_eq_true c4
    unfold fokB daysF
    rw [decide_eq_true c3, decide_eq_true ⟨h4.1, Int.le_refl _, h4.2⟩]
    rfl
  rw [show findE b d = 0 from if_pos hf, show findL R.l b d = hitsF b d R.l from if_pos hf, if_pos hf]
  have hln := hl.n
  have hgd := fun e he => (hl.g e he).1
  have hlook := look_le R.l b
  refine CT_enter Try.func15 rfl ?_; (simp only [Try.ntmps15, List.size_toArray, List.length_cons, List.length_nil, Nat.reduceAdd, Nat.reduceSub, Array.replicate_succ, Array.replicate_zero, List.push_toArray, List.append_toArray, List.nil_append, List.cons_append])
  repeat' (first | refine go ?_ | intro _ | (apply cG; first | refine cT ?_ | refine cF ?_ | refine cS (fun _ => ?_) fun _ => ?_) | (apply gW; refine sW ?_) | (apply gI; refine sI ?_) | (apply gE; refine sE ?_) | (apply gP; refine sP ?_) | (apply gC; refine sC ?_) | (apply gD; refine sD ?_) | fail)
  refine O_d (dy_call ArgsI.pf (by first | exact rfl | trivial | (intro a b; rfl)) (rValid_ct (b := b))) ?_; rintro _ _ ⟨_, ⟨rfl, hLL⟩, rfl⟩; replace hLL := hLL.symm; subst hLL; refine O_n ?_
  rw [decide_eq_true c3]
  repeat' (first | refine go ?_ | intro _ | (apply cG; first | refine cT ?_ | refine cF ?_ | refine cS (fun _ => ?_) fun _ => ?_) | (apply gW; refine sW ?_) | (apply gI; refine sI ?_) | (apply gE; refine sE ?_) | (apply gP; refine sP ?_) | (apply gC; refine sC ?_) | (apply gD; refine sD ?_) | fail)
  refine O_d (dy_call ArgsI.pf (by first | exact rfl | trivial | (intro a b; rfl)) (rwithin_ct)) ?_; rintro _ _ ⟨_, ⟨rfl, hLL⟩, rfl⟩; replace hLL := hLL.symm; subst hLL; refine O_n ?_
  rw [c4]
  repeat' (first | refine go ?_ | intro _ | (apply cG; first | refine cT ?_ | refine cF ?_ | refine cS (fun _ => ?_) fun _ => ?_) | (apply gW; refine sW ?_) | (apply gI; refine sI ?_) | (apply gE; refine sE ?_) | (apply gP; refine sP ?_) | (apply gC; refine sC ?_) | (apply gD; refine sD ?_) | fail)
  rename_i pb
  refine C_sub (S := rtA R :: cel pb [.int .i64 b.x0, .int .i64 b.y0, .int .i64 b.x1, .int .i64 b.y1] 31 :: L) Sb ?_
  refine C_sub rtA_open ?_
  obtain ⟨p, A, c, l, lk⟩ := R
  dsimp only at *
  refine C_ownnil 3 eI ?_
  refine C_loopS (κ := Nat × Option Addr × Nat × List Int) [false, false, false, false, false, false, false, false, false, true, true, true, false, false, false, false, false, false, false, false, false, false, false, true, true, true, true, true, true, true, true, true, true, true, true, true, true, true, true, true, true, true, true, true, true, true, true, true, true, true, true, true, true, true, true, true, false, false, false, false, false, false, false, false, false, false, false, false, false, false, false, false, false, false, false, false, false, false, false, false, false] (fun k => [(9, .slice k.2.1 k.2.2.2.length k.2.2.1), (10, .int .i64 (k.1 : Int))]) (fun k => [(0, own 3 eI (.slice k.2.1 k.2.2.2.length k.2.2.1) k.2.2.2)]) (fun k => k.1 ≤ l.length ∧ k.2.2.2 = hitsF b d (l.take k.1)) (fun k => l.length - k.1) (0, none, 0, []) ⟨Nat.zero_le _, rfl⟩ ⟨rfl, rfl, trivial⟩ ?_
  rintro ⟨i, A1, c1, o1⟩ u1 ⟨hi, ho1⟩
  dsimp only at hi ho1
  dsimp only
  ((try dsimp only); refine C_n ?_; (try simp only [Nat.reduceAdd, Nat.zero_add]))
  have hol : o1.length ≤ l.length := by
    rw [ho1]
    unfold hitsF
    rw [List.length_map]
    exact Nat.le_trans (List.length_filter_le _ _) (by rw [List.length_take]; omega)
  by_cases hil : i < l.length
  · obtain ⟨x, hx⟩ : ∃ x, l[i]? = some x := ⟨_, List.getElem?_eq_getElem hil⟩
    have hax : At l i x := ⟨hx⟩
    have hst := hits_take (b := b) (d := d) hx
    rw [← ho1] at hst
    have hhf : hitF b d x = (inF d x.2.f x.2.t && meetF x.2.b b) := rfl
    repeat' (first | refine go ?_ | intro _ | (apply cG; first | refine cT ?_ | refine cF ?_ | refine cS (fun _ => ?_) fun _ => ?_) | (apply gW; refine sW ?_) | (apply gI; refine sI ?_) | (apply gE; refine sE ?_) | (apply gP; refine sP ?_) | (apply gC; refine sC ?_) | (apply gD; refine sD ?_) | fail)
    refine O_d (dy_call ArgsI.pf (by first | exact rfl | trivial | (intro a b; rfl)) (rwithin_ct)) ?_; rintro _ _ ⟨_, ⟨rfl, hLL⟩, rfl⟩; replace hLL := hLL.symm; subst hLL; refine O_n ?_
    cases w1 : inF d x.2.f x.2.t with
    | false =>
      rw [hhf, w1, Bool.false_and, if_neg (by decide), List.append_nil] at hst
      repeat' (first | refine go ?_ | intro _ | (apply cG; first | refine cT ?_ | refine cF ?_ | refine cS (fun _ => ?_) fun _ => ?_) | (apply gW; refine sW ?_) | (apply gI; refine sI ?_) | (apply gE; refine sE ?_) | (apply gP; refine sP ?_) | (apply gC; refine sC ?_) | (apply gD; refine sD ?_) | fail)
      exact E_round (i + 1, A1, c1, o1) ⟨hil, hst.symm⟩ (by dsimp only; omega) ⟨rfl, rfl, trivial⟩ Sb
    | true =>
      repeat' (first | refine go ?_ | intro _ | (apply cG; first | refine cT ?_ | refine cF ?_ | refine cS (fun _ => ?_) fun _ => ?_) | (apply gW; refine sW ?_) | (apply gI; refine sI ?_) | (apply gE; refine sE ?_) | (apply gP; refine sP ?_) | (apply gC; refine sC ?_) | (apply gD; refine sD ?_) | fail)
      refine O_d (dy_call ArgsI.pf (by first | exact rfl | trivial | (intro a b; rfl)) (rMeets_ct (a := x.2.b) (c := b))) ?_; rintro _ _ ⟨_, ⟨rfl, hLL⟩, rfl⟩; replace hLL := hLL.symm; subst hLL; refine O_n ?_
      cases w2 : meetF x.2.b b with
      | false =>
        rw [hhf, w2, Bool.and_false, if_neg (by decide), List.append_nil] at hst
        repeat' (first | refine go ?_ | intro _ | (apply cG; first | refine cT ?_ | refine cF ?_ | refine cS (fun _ => ?_) fun _ => ?_) | (apply gW; refine sW ?_) | (apply gI; refine sI ?_) | (apply gE; refine sE ?_) | (apply gP; refine sP ?_) | (apply gC; refine sC ?_) | (apply gD; refine sD ?_) | fail)
        exact E_round (i + 1, A1, c1, o1) ⟨hil, hst.symm⟩ (by dsimp only; omega) ⟨rfl, rfl, trivial⟩ Sb
      | true =>
        rw [hhf, w1, w2, Bool.and_self, if_pos rfl] at hst
        repeat' (first | refine go ?_ | intro _ | (apply cG; first | refine cT ?_ | refine cF ?_ | refine cS (fun _ => ?_) fun _ => ?_) | (apply gW; refine sW ?_) | (apply gI; refine sI ?_) | (apply gE; refine sE ?_) | (apply gP; refine sP ?_) | (apply gC; refine sC ?_) | (apply gD; refine sD ?_) | fail)
        refine O_d (dy_lit1 (R := eI) x.1 (hcs := by rfl) (hel := fun _ _ _ => by rfl)) ?_; rintro _ _ ⟨_, rfl, rfl⟩; refine O_n ?_
        repeat' (first | refine go ?_ | intro _ | (apply cG; first | refine cT ?_ | refine cF ?_ | refine cS (fun _ => ?_) fun _ => ?_) | (apply gW; refine sW ?_) | (apply gI; refine sI ?_) | (apply gE; refine sE ?_) | (apply gP; refine sP ?_) | (apply gC; refine sC ?_) | (apply gD; refine sD ?_) | fail)
        rename_i A2 c2
        refine E_round (i + 1, A2, c2, o1 ++ [x.1]) ⟨hil, hst.symm⟩ (by dsimp only; omega) ⟨by dsimp only; rw [List.length_append]; rfl, rfl, trivial⟩ ?_
        dsimp only
        rw [List.length_append]
        exact Sb
  obtain rfl : i = l.length := by omega
  rw [List.take_length] at ho1
  subst ho1
  repeat' (first | refine go ?_ | intro _ | (apply cG; first | refine cT ?_ | refine cF ?_ | refine cS (fun _ => ?_) fun _ => ?_) | (apply gW; refine sW ?_) | (apply gI; refine sI ?_) | (apply gE; refine sE ?_) | (apply gP; refine sP ?_) | (apply gC; refine sC ?_) | (apply gD; refine sD ?_) | fail)
  refine O_sub (S := rtA ⟨p, A, c, l, 0⟩ :: own 3 eI (.slice A1 (hitsF b d l).length c1) (hitsF b d l) :: cel pb [.int .i64 b.x0, .int .i64 b.y0, .int .i64 b.x1, .int .i64 b.y1] 31 :: L) (Sub.trans (B := cel p [.slice A l.length c, .int .i64 0] 36 :: rd eTh (.slice A l.length c) l :: own 3 eI (.slice A1 (hitsF b d l).length c1) (hitsF b d l) :: cel pb [.int .i64 b.x0, .int .i64 b.y0, .int .i64 b.x1, .int .i64 b.y1] 31 :: L) Sb (rtA_close (R := ⟨p, A, c, l, 0⟩))) ?_
  refine O_d (dy_call ArgsI.pf (by first | exact rfl | trivial | (intro a b; rfl)) (rBlocks_ct (R := ⟨p, A, c, l, 0⟩) hgd hln)) ?_; rintro _ _ ⟨_, ⟨A2, c2, rfl, rfl⟩, rfl⟩; refine O_n ?_
  dsimp only
  have hbl : (blkL l).length ≤ 0 + 33 * l.length := blks_len
  refine O_sub (S := cel p [.slice A l.length c, .int .i64 0] 36 :: rd eTh (.slice A l.length c) l :: own 88 eBk (.slice A2 (blkL l).length c2) (blkL l) :: own 3 eI (.slice A1 (hitsF b d l).length c1) (hitsF b d l) :: cel pb [.int .i64 b.x0, .int .i64 b.y0, .int .i64 b.x1, .int .i64 b.y1] 31 :: L) (Sub.trans (B := rtA ⟨p, A, c, l, 0⟩ :: own 88 eBk (.slice A2 (blkL l).length c2) (blkL l) :: own 3 eI (.slice A1 (hitsF b d l).length c1) (hitsF b d l) :: cel pb [.int .i64 b.x0, .int .i64 b.y0, .int .i64 b.x1, .int .i64 b.y1] 31 :: L) Sb rtA_open) ?_
  have hbd := fun x (hx : x ∈ blkL l) => blk_bd hgd hx
  have hlk : lookF l b = (blkL l).countP (covB b) := rfl
  rw [hlk]
  obtain ⟨bl, hble⟩ : ∃ bl, blkL l = bl := ⟨_, rfl⟩
  rw [hble] at hbl hbd ⊢
  repeat' (first | refine go ?_ | intro _ | (apply cG; first | refine cT ?_ | refine cF ?_ | refine cS (fun _ => ?_) fun _ => ?_) | (apply gW; refine sW ?_) | (apply gI; refine sI ?_) | (apply gE; refine sE ?_) | (apply gP; refine sP ?_) | (apply gC; refine sC ?_) | (apply gD; refine sD ?_) | fail)
  refine C_loopS (κ := Nat) [false, false, false, false, false, false, false, false, false, false, false, false, false, true, false, false, false, false, false, false, false, false, false, false, false, false, false, false, false, false, false, false, false, false, false, false, false, false, false, false, false, false, false, false, false, false, false, false, false, false, false, false, false, false, false, false, false, false, false, false, false, true, true, true, true, true, true, true, true, true, true, true, true, true, true, true, true, true, true, true, false] (fun k => [(13, .int .i64 (k : Int))]) (fun k => [(0, cel p [.slice A l.length c, .int .i64 (((bl.take k).countP (covB b) : Nat) : Int)] 36)]) (fun k => k ≤ bl.length) (fun k => bl.length - k) 0 (Nat.zero_le _) ⟨rfl, trivial⟩ ?_
  rintro k u2 hk
  ((try dsimp only); refine C_n ?_; (try simp only [Nat.reduceAdd, Nat.zero_add]))
  by_cases hkl : k < bl.length
  rotate_left
  · obtain rfl : k = bl.length := by omega
    rw [List.take_length]
    repeat' (first | refine go ?_ | intro _ | (apply cG; first | refine cT ?_ | refine cF ?_ | refine cS (fun _ => ?_) fun _ => ?_) | (apply gW; refine sW ?_) | (apply gI; refine sI ?_) | (apply gE; refine sE ?_) | (apply gP; refine sP ?_) | (apply gC; refine sC ?_) | (apply gD; refine sD ?_) | fail)
    refine E_res2 (by rfl) (by rfl) ⟨A1, c1, _, rfl, rfl, rfl⟩ ?_
    exact Sub.trans (B := cel p [.slice A l.length c, .int .i64 ((bl.countP (covB b) : Nat) : Int)] 36 :: rd eTh (.slice A l.length c) l :: own 3 eI (.slice A1 (hitsF b d l).length c1) (hitsF b d l) :: L) Sb (Sub.trans (rtA_close (R := ⟨p, A, c, l, ((bl.countP (covB b) : Nat) : Int)⟩)) Sb)
  obtain ⟨y, hy⟩ : ∃ y, bl[k]? = some y := ⟨_, List.getElem?_eq_getElem hkl⟩
  have hay : At bl k y := ⟨hy⟩
  obtain ⟨b1, b2, b3⟩ := hbd y (List.mem_of_getElem? hy)
  have hct : (bl.take (k + 1)).countP (covB b) = (bl.take k).countP (covB b) + if covB b y = true then 1 else 0 := by
    rw [List.take_add_one, hy, List.countP_append, show (some y).toList = [y] from rfl, List.countP_singleton]
  have hcl : (bl.take k).countP (covB b) ≤ bl.length := Nat.le_trans List.countP_le_length (by rw [List.length_take]; omega)
  obtain ⟨cn, hcn⟩ : ∃ cn, (bl.take k).countP (covB b) = cn := ⟨_, rfl⟩
  rw [hcn] at hct hcl ⊢
  repeat' (first | refine go ?_ | intro _ | (apply cG; first | refine cT ?_ | refine cF ?_ | refine cS (fun _ => ?_) fun _ => ?_) | (apply gW; refine sW ?_) | (apply gI; refine sI ?_) | (apply gE; refine sE ?_) | (apply gP; refine sP ?_) | (apply gC; refine sC ?_) | (apply gD; refine sD ?_) | fail)
  refine C_draw (n := 99) [own 88 eBk (.slice A2 bl.length c2) bl, cel pb [.int .i64 b.x0, .int .i64 b.y0, .int .i64 b.x1, .int .i64 b.y1] 31] [(0, 1), (1, 1), (2, 1), (3, 1), (4, 1), (5, 0)] (by kernel_rfl) (by kernel_rfl) Sb ?_
  repeat' (first | refine go ?_ | intro _ | (apply cG; first | refine cT ?_ | refine cF ?_ | refine cS (fun _ => ?_) fun _ => ?_) | (apply gW; refine sW ?_) | (apply gI; refine sI ?_) | (apply gE; refine sE ?_) | (apply gP; refine sP ?_) | (apply gC; refine sC ?_) | (apply gD; refine sD ?_) | fail)
  refine D_op rfl ?_; refine X_d (dy_call ArgsI.pf (by first | exact rfl | trivial | (intro a b; rfl)) (rCovers_ct (n := y.1) (i := y.2.1) (j := y.2.2) c3 b1 b2 b3)) ?_; rintro _ _ ⟨_, ⟨rfl, hLL⟩, rfl⟩; replace hLL := hLL.symm; subst hLL; refine ⟨(by first | exact .inl rfl | exact .inr Sb), D_n ?_⟩
  cases hcv : covB b (y.1, y.2.1, y.2.2) with
  | false =>
    rw [show covB b y = false from hcv, if_neg (by decide), Nat.add_zero] at hct
    repeat' (first | refine go ?_ | intro _ | (apply cG; first | refine cT ?_ | refine cF ?_ | refine cS (fun _ => ?_) fun _ => ?_) | (apply gW; refine sW ?_) | (apply gI; refine sI ?_) | (apply gE; refine sE ?_) | (apply gP; refine sP ?_) | (apply gC; refine sC ?_) | (apply gD; refine sD ?_) | fail)
    refine E_round (k + 1) (by omega) (by omega) ⟨rfl, trivial⟩ ?_
    rw [hct]
    exact Sb
  | true =>
    rw [show covB b y = true from hcv, if_pos rfl] at hct
    repeat' (first | refine go ?_ | intro _ | (apply cG; first | refine cT ?_ | refine cF ?_ | refine cS (fun _ => ?_) fun _ => ?_) | (apply gW; refine sW ?_) | (apply gI; refine sI ?_) | (apply gE; refine sE ?_) | (apply gP; refine sP ?_) | (apply gC; refine sC ?_) | (apply gD; refine sD ?_) | fail)
    refine E_round (k + 1) (by omega) (by omega) ⟨rfl, trivial⟩ ?_
    rw [hct]
    exact Sb
end
end Go.Proofs.Ytnjjifikogblpaa
