/-
  The law IndexMeets.
-/
import Derived.Test.YtnjjifikogblpaaMZ
namespace Go.Proofs.Ytnjjifikogblpaa
open Go Go.RowKit
set_option linter.unusedVariables false
set_option linter.unusedSimpArgs false
set_option maxRecDepth 20000
set_option synthInstance.maxSize 100000
set_option synthInstance.maxHeartbeats 400000
def memB (l : List Int) (x : Int) : Bool := decide (x ∈ l)
theorem mem_hits {l : List Ent} {b : BX} {d n : Int} : n ∈ hitsF b d l ↔ ∃ e ∈ l, hitF b d e = true ∧ e.1 = n := by
  unfold hitsF
  rw [List.mem_map]
  exact ⟨fun ⟨e, he, h⟩ => ⟨e, (List.mem_filter.1 he).1, (List.mem_filter.1 he).2, h⟩, fun ⟨e, he, h1, h2⟩ => ⟨e, List.mem_filter.2 ⟨he, h1⟩, h2⟩⟩
theorem memB_hit {l : List Ent} {b : BX} {d : Int} {x : Ent} (hu : KeysU l) (hx : x ∈ l) : memB (hitsF b d l) x.1 = hitF b d x := by
  unfold memB
  cases h : hitF b d x with
  | true => exact decide_eq_true (mem_hits.2 ⟨x, hx, h, rfl⟩)
  | false =>
    refine decide_eq_false fun hm => ?_
    obtain ⟨e, he, h1, h2⟩ := mem_hits.1 hm
    rw [hu.one he hx h2] at h1
    rw [h] at h1
    cases h1
section
variable {P : Program} {W0 : World} {L : List HP}
theorem Has_ct {A : Option Addr} {c : Nat} {l : List Int} {n : Int} (hv : Src L eI (.slice A l.length c) l) (hl : l.length ≤ 1000000000000) :
    CT Try.prog 25 #[.slice A l.length c, .int .i64 n] W0 L fun r L' => r = .bool (memB l n) ∧ L' = L := by
  have hs : ScA A L l.length c eI l := ⟨hv⟩
  refine CT_enter Try.func25 rfl ?_; (simp only [Try.ntmps25, List.size_toArray, List.length_cons, List.length_nil, Nat.reduceAdd, Nat.reduceSub, Array.replicate_succ, Array.replicate_zero, List.push_toArray, List.append_toArray, List.nil_append, List.cons_append])
  repeat' (first | refine go ?_ | intro _ | (apply cG; first | refine cT ?_ | refine cF ?_ | refine cS (fun _ => ?_) fun _ => ?_) | (apply gW; refine sW ?_) | (apply gI; refine sI ?_) | (apply gE; refine sE ?_) | (apply gP; refine sP ?_) | (apply gC; refine sC ?_) | (apply gD; refine sD ?_) | fail)
  refine C_loopS (κ := Nat) [false, false, false, false, true, true, true, true, true, true, true, true, true, true, true, true, true, true] (fun k => [(5, .int .i64 (k : Int))]) (fun k => []) (fun k => k ≤ l.length ∧ ∀ j, j < k → l[j]? ≠ some n) (fun k => l.length - k) 0 ⟨Nat.zero_le _, fun j h => absurd h (Nat.not_lt_zero _)⟩ ⟨rfl, trivial⟩ ?_
  rintro i u ⟨hi, hf⟩
  ((try dsimp only); refine C_n ?_; (try simp only [Nat.reduceAdd, Nat.zero_add]))
  by_cases hil : i < l.length
  rotate_left
  · have : memB l n = false := decide_eq_false fun h => by
      obtain ⟨j, hj⟩ := List.getElem?_of_mem h
      exact hf j (by have := (List.getElem?_eq_some_iff.1 hj).1; omega) hj
    rw [this]
    repeat' (first | refine go ?_ | intro _ | (apply cG; first | refine cT ?_ | refine cF ?_ | refine cS (fun _ => ?_) fun _ => ?_) | (apply gW; refine sW ?_) | (apply gI; refine sI ?_) | (apply gE; refine sE ?_) | (apply gP; refine sP ?_) | (apply gC; refine sC ?_) | (apply gD; refine sD ?_) | fail)
    refine E_res1 (by rfl) (by rfl) ⟨rfl, rfl⟩ Sb
  obtain ⟨g, hg⟩ : ∃ g, l[i]? = some g := ⟨_, List.getElem?_eq_getElem (by omega)⟩
  have hag : At l i g := ⟨hg⟩
  by_cases h0 : g = n
  · have : memB l n = true := decide_eq_true (h0 ▸ List.mem_of_getElem? hg)
    rw [this]
    repeat' (first | refine go ?_ | intro _ | (apply cG; first | refine cT ?_ | refine cF ?_ | refine cS (fun _ => ?_) fun _ => ?_) | (apply gW; refine sW ?_) | (apply gI; refine sI ?_) | (apply gE; refine sE ?_) | (apply gP; refine sP ?_) | (apply gC; refine sC ?_) | (apply gD; refine sD ?_) | fail)
    refine E_res1 (by rfl) (by rfl) ⟨rfl, rfl⟩ Sb
  · repeat' (first | refine go ?_ | intro _ | (apply cG; first | refine cT ?_ | refine cF ?_ | refine cS (fun _ => ?_) fun _ => ?_) | (apply gW; refine sW ?_) | (apply gI; refine sI ?_) | (apply gE; refine sE ?_) | (apply gP; refine sP ?_) | (apply gC; refine sC ?_) | (apply gD; refine sD ?_) | fail)
    exact E_round (i + 1) ⟨hil, fun j hj => by
      rcases Nat.lt_or_eq_of_le (Nat.le_of_lt_succ hj) with h | rfl
      · exact hf j h
      · rw [hg]
        exact fun e => h0 (Option.some.inj e)⟩ (by omega) ⟨rfl, trivial⟩ Sb
set_option maxHeartbeats 2000000 in
theorem IndexMeets_ct {v : Value} {l : List Int} {n m day : Int} (hv : rd eI v l ∈ L) (hl : l.length ≤ 9223372036854775807) (hr : ∀ n ∈ l, I64 n) (hn : I64 n) (hm : I64 m) (hday : I64 day) :
    CT Try.prog 5 #[v, .int .i64 n, .int .i64 m, .int .i64 day] W0 L fun r L' => r = .bool true ∧ L' = L := by
  refine CT_fact (fun w s => ((Src.sl (.inl hv) s).form)) ?_
  rintro ⟨A0, c0, rfl, hc0⟩
  refine CT_enter Try.func5 rfl ?_; (simp only [Try.ntmps5, List.size_toArray, List.length_cons, List.length_nil, Nat.reduceAdd, Nat.reduceSub, Array.replicate_succ, Array.replicate_zero, List.push_toArray, List.append_toArray, List.nil_append, List.cons_append])
  repeat' (first | refine go ?_ | intro _ | (apply cG; first | refine cT ?_ | refine cF ?_ | refine cS (fun _ => ?_) fun _ => ?_) | (apply gW; refine sW ?_) | (apply gI; refine sI ?_) | (apply gE; refine sE ?_) | (apply gP; refine sP ?_) | (apply gC; refine sC ?_) | (apply gD; refine sD ?_) | fail)
  refine O_d (dy_call ArgsI.pf (by first | exact rfl | trivial | (intro a b; rfl)) (filled_ct (l := l) (most := 16) hv hr hl (by decide))) ?_; rintro _ _ ⟨_, ⟨T, R, hB, hk, hlk, hf, hlen, rfl, rfl⟩, rfl⟩; refine O_n ?_
  have hgd := fun e he => (hB.w.g e he).1
  repeat' (first | refine go ?_ | intro _ | (apply cG; first | refine cT ?_ | refine cF ?_ | refine cS (fun _ => ?_) fun _ => ?_) | (apply gW; refine sW ?_) | (apply gI; refine sI ?_) | (apply gE; refine sE ?_) | (apply gP; refine sP ?_) | (apply gC; refine sC ?_) | (apply gD; refine sD ?_) | fail)
  refine O_d (dy_call ArgsI.pf (by first | exact rfl | trivial | (intro a b; rfl)) (rBox_ct hn hm)) ?_; rintro _ _ ⟨_, ⟨b, hb, rfl, rfl⟩, rfl⟩; refine O_n ?_
  repeat' (first | refine go ?_ | intro _ | (apply cG; first | refine cT ?_ | refine cF ?_ | refine cS (fun _ => ?_) fun _ => ?_) | (apply gW; refine sW ?_) | (apply gI; refine sI ?_) | (apply gE; refine sE ?_) | (apply gP; refine sP ?_) | (apply gC; refine sC ?_) | (apply gD; refine sD ?_) | fail)
  rename_i pb
  have hd := around_in (n := day) (most := 9) (by decide)
  refine O_d (dy_call ArgsI.pf (by first | exact rfl | trivial | (intro a b; rfl)) (Around_ct (n := day) (most := 9) hday.1 hday.2 (by decide) (by decide))) ?_; rintro _ _ ⟨_, ⟨rfl, hLL⟩, rfl⟩; replace hLL := hLL.symm; subst hLL; refine O_n ?_
  obtain ⟨d, hde⟩ : ∃ d, around day 9 = d := ⟨_, rfl⟩
  rw [hde] at hd ⊢
  have hfk : fokB b d = true := by
    unfold fokB daysF
    rw [decide_eq_true hb, decide_eq_true ⟨hd.1, Int.le_refl _, by omega⟩]
    rfl
  repeat' (first | refine go ?_ | intro _ | (apply cG; first | refine cT ?_ | refine cF ?_ | refine cS (fun _ => ?_) fun _ => ?_) | (apply gW; refine sW ?_) | (apply gI; refine sI ?_) | (apply gE; refine sE ?_) | (apply gP; refine sP ?_) | (apply gC; refine sC ?_) | (apply gD; refine sD ?_) | fail)
  refine O_d (dy_call ArgsI.pf (by first | exact rfl | trivial | (intro a b; rfl)) (CT.pull (i := 1) (by rfl) (Find2_ct (b := b) (d := d) hB.t hB.w))) ?_; rintro _ _ ⟨_, ⟨A1, c1, T1, hp1, hT1, hlk1, rfl, rfl⟩, rfl⟩; refine O_n ?_
  rw [show findE b d = 0 from if_pos hfk, show findL R.l b d = hitsF b d R.l from if_pos hfk]
  have hml := fun x hx => memB_hit (b := b) (d := d) (x := x) hB.w.keys hx
  have hsrt := hits_sorted (b := b) (d := d) hB.w
  have hin : ∀ z ∈ hitsF b d R.l, 0 ≤ z ∧ z ≤ 11 := fun z hz => by
    obtain ⟨e, he, _, rfl⟩ := mem_hits.1 hz
    exact (hf e he).1
  have hol : (hitsF b d R.l).length ≤ R.l.length := by unfold hitsF; rw [List.length_map]; exact List.length_filter_le _ _
  obtain ⟨o1, ho1⟩ : ∃ o, hitsF b d R.l = o := ⟨_, rfl⟩
  rw [ho1] at hml hsrt hin hol ⊢
  repeat' (first | refine go ?_ | intro _ | (apply cG; first | refine cT ?_ | refine cF ?_ | refine cS (fun _ => ?_) fun _ => ?_) | (apply gW; refine sW ?_) | (apply gI; refine sI ?_) | (apply gE; refine sE ?_) | (apply gP; refine sP ?_) | (apply gC; refine sC ?_) | (apply gD; refine sD ?_) | fail)
  refine C_sub (S := cel R.p [.slice R.A R.l.length R.c, .int .i64 R.lk] 36 :: rd eTh (.slice R.A R.l.length R.c) R.l :: own 3 eI (.slice A1 o1.length c1) o1 :: cel pb [.int .i64 b.x0, .int .i64 b.y0, .int .i64 b.x1, .int .i64 b.y1] 31 :: L) (Sub.trans (B := rtA R :: own 3 eI (.slice A1 o1.length c1) o1 :: cel pb [.int .i64 b.x0, .int .i64 b.y0, .int .i64 b.x1, .int .i64 b.y1] 31 :: L) Sb rtA_open) ?_
  refine C_loopS (κ := Nat) [false, false, false, false, false, false, false, false, true, false, false, false, false, false, false, false, true, true, true, false, false, false, false, false, false, false, false, false, false, false, false, false, false, false, false, false, false, false, false, false, false, false, true, true, true, true, true, true, true, true, true, true, true, true, true, true, true, true, true, true, true, true, true, true, true, true, true, true, true, true, true, true, true, true, true, true, true, true, true, true, false, false, false, false, false, false, false, false, false, false, false, false, false, false, false, false, false, false, false, false, false, false, false, false, false, false, false, false, false, false, false, false, false, false, false] (fun k => [(16, .int .i64 (k : Int))]) (fun k => []) (fun k => k ≤ R.l.length) (fun k => R.l.length - k) 0 (Nat.zero_le _) ⟨rfl, trivial⟩ ?_
  rintro i u hi
  ((try dsimp only); refine C_n ?_; (try simp only [Nat.reduceAdd, Nat.zero_add]))
  by_cases hil : i < R.l.length
  · obtain ⟨x, hx⟩ : ∃ x, R.l[i]? = some x := ⟨_, List.getElem?_eq_getElem hil⟩
    have hax : At R.l i x := ⟨hx⟩
    have hxm := List.mem_of_getElem? hx
    have hmx := hml x hxm
    have hme := meets_eq (hgd x hxm) hb
    have hhf : hitF b d x = (decide (x.2.f ≤ d ∧ d ≤ x.2.t) && meetF x.2.b b) := rfl
    obtain ⟨q, hq⟩ : ∃ q, hitF b d x = q := ⟨_, rfl⟩
    rw [hq] at hmx hhf
    by_cases f1 : x.2.f ≤ d
    rotate_left
    · rw [decide_eq_false (fun h => f1 h.1), Bool.false_and] at hhf
      subst hhf
      repeat' (first | refine go ?_ | intro _ | (apply cG; first | refine cT ?_ | refine cF ?_ | refine cS (fun _ => ?_) fun _ => ?_) | (apply gW; refine sW ?_) | (apply gI; refine sI ?_) | (apply gE; refine sE ?_) | (apply gP; refine sP ?_) | (apply gC; refine sC ?_) | (apply gD; refine sD ?_) | fail)
      refine O_d (dy_call ArgsI.pf (by first | exact rfl | trivial | (intro a b; rfl)) (Has_ct (l := o1) (n := x.1) (.inr ⟨_, .tail _ (.tail _ (.tail _ (.head _)))⟩) (by omega))) ?_; rintro _ _ ⟨_, ⟨rfl, hLL⟩, rfl⟩; replace hLL := hLL.symm; subst hLL; refine O_n ?_
      rw [hmx]
      repeat' (first | refine go ?_ | intro _ | (apply cG; first | refine cT ?_ | refine cF ?_ | refine cS (fun _ => ?_) fun _ => ?_) | (apply gW; refine sW ?_) | (apply gI; refine sI ?_) | (apply gE; refine sE ?_) | (apply gP; refine sP ?_) | (apply gC; refine sC ?_) | (apply gD; refine sD ?_) | fail)
      exact E_round (i + 1) hil (by omega) ⟨rfl, trivial⟩ Sb
    by_cases f2 : d ≤ x.2.t
    rotate_left
    · rw [decide_eq_false (fun h => f2 h.2), Bool.false_and] at hhf
      subst hhf
      repeat' (first | refine go ?_ | intro _ | (apply cG; first | refine cT ?_ | refine cF ?_ | refine cS (fun _ => ?_) fun _ => ?_) | (apply gW; refine sW ?_) | (apply gI; refine sI ?_) | (apply gE; refine sE ?_) | (apply gP; refine sP ?_) | (apply gC; refine sC ?_) | (apply gD; refine sD ?_) | fail)
      refine O_d (dy_call ArgsI.pf (by first | exact rfl | trivial | (intro a b; rfl)) (Has_ct (l := o1) (n := x.1) (.inr ⟨_, .tail _ (.tail _ (.tail _ (.head _)))⟩) (by omega))) ?_; rintro _ _ ⟨_, ⟨rfl, hLL⟩, rfl⟩; replace hLL := hLL.symm; subst hLL; refine O_n ?_
      rw [hmx]
      repeat' (first | refine go ?_ | intro _ | (apply cG; first | refine cT ?_ | refine cF ?_ | refine cS (fun _ => ?_) fun _ => ?_) | (apply gW; refine sW ?_) | (apply gI; refine sI ?_) | (apply gE; refine sE ?_) | (apply gP; refine sP ?_) | (apply gC; refine sC ?_) | (apply gD; refine sD ?_) | fail)
      exact E_round (i + 1) hil (by omega) ⟨rfl, trivial⟩ Sb
    rw [decide_eq_true ⟨f1, f2⟩, Bool.true_and] at hhf
    repeat' (first | refine go ?_ | intro _ | (apply cG; first | refine cT ?_ | refine cF ?_ | refine cS (fun _ => ?_) fun _ => ?_) | (apply gW; refine sW ?_) | (apply gI; refine sI ?_) | (apply gE; refine sE ?_) | (apply gP; refine sP ?_) | (apply gC; refine sC ?_) | (apply gD; refine sD ?_) | fail)
    refine O_d (dy_call ArgsI.pf (by first | exact rfl | trivial | (intro a b; rfl)) (Meets_ct (a := x.2.b) (c := b))) ?_; rintro _ _ ⟨_, ⟨rfl, hLL⟩, rfl⟩; replace hLL := hLL.symm; subst hLL; refine O_n ?_
    rw [hme, ← hhf]
    repeat' (first | refine go ?_ | intro _ | (apply cG; first | refine cT ?_ | refine cF ?_ | refine cS (fun _ => ?_) fun _ => ?_) | (apply gW; refine sW ?_) | (apply gI; refine sI ?_) | (apply gE; refine sE ?_) | (apply gP; refine sP ?_) | (apply gC; refine sC ?_) | (apply gD; refine sD ?_) | fail)
    refine O_d (dy_call ArgsI.pf (by first | exact rfl | trivial | (intro a b; rfl)) (Has_ct (l := o1) (n := x.1) (.inr ⟨_, .tail _ (.tail _ (.tail _ (.head _)))⟩) (by omega))) ?_; rintro _ _ ⟨_, ⟨rfl, hLL⟩, rfl⟩; replace hLL := hLL.symm; subst hLL; refine O_n ?_
    rw [hmx]
    cases q
    · repeat' (first | refine go ?_ | intro _ | (apply cG; first | refine cT ?_ | refine cF ?_ | refine cS (fun _ => ?_) fun _ => ?_) | (apply gW; refine sW ?_) | (apply gI; refine sI ?_) | (apply gE; refine sE ?_) | (apply gP; refine sP ?_) | (apply gC; refine sC ?_) | (apply gD; refine sD ?_) | fail)
      exact E_round (i + 1) hil (by omega) ⟨rfl, trivial⟩ Sb
    · repeat' (first | refine go ?_ | intro _ | (apply cG; first | refine cT ?_ | refine cF ?_ | refine cS (fun _ => ?_) fun _ => ?_) | (apply gW; refine sW ?_) | (apply gI; refine sI ?_) | (apply gE; refine sE ?_) | (apply gP; refine sP ?_) | (apply gC; refine sC ?_) | (apply gD; refine sD ?_) | fail)
      exact E_round (i + 1) hil (by omega) ⟨rfl, trivial⟩ Sb
  repeat' (first | refine go ?_ | intro _ | (apply cG; first | refine cT ?_ | refine cF ?_ | refine cS (fun _ => ?_) fun _ => ?_) | (apply gW; refine sW ?_) | (apply gI; refine sI ?_) | (apply gE; refine sE ?_) | (apply gP; refine sP ?_) | (apply gC; refine sC ?_) | (apply gD; refine sD ?_) | fail)
  refine C_loopS (κ := Nat) [false, false, false, false, false, false, false, false, true, false, false, false, false, false, false, false, false, false, false, true, false, false, false, false, false, false, false, false, false, false, false, false, false, false, false, false, false, false, false, false, false, false, false, false, false, false, false, false, false, false, false, false, false, false, false, false, false, false, false, false, false, false, false, false, false, false, false, false, false, false, false, false, false, false, false, false, false, false, false, false, true, true, true, true, true, true, true, true, true, true, true, true, true, true, true, true, true, true, true, true, true, true, true, true, true, true, true, true, true, true, true, true, true, true, false] (fun k => [(19, .int .i64 (k : Int))]) (fun k => []) (fun k => k ≤ o1.length) (fun k => o1.length - k) 0 (Nat.zero_le _) ⟨rfl, trivial⟩ ?_
  rintro j u2 hj
  ((try dsimp only); refine C_n ?_; (try simp only [Nat.reduceAdd, Nat.zero_add]))
  by_cases hjl : j < o1.length
  rotate_left
  · repeat' (first | refine go ?_ | intro _ | (apply cG; first | refine cT ?_ | refine cF ?_ | refine cS (fun _ => ?_) fun _ => ?_) | (apply gW; refine sW ?_) | (apply gI; refine sI ?_) | (apply gE; refine sE ?_) | (apply gP; refine sP ?_) | (apply gC; refine sC ?_) | (apply gD; refine sD ?_) | fail)
    refine O_d (dy_call ArgsI.pf (by first | exact rfl | trivial | (intro a b; rfl)) (lives_ct)) ?_; rintro _ _ ⟨_, ⟨rfl, hLL⟩, rfl⟩; replace hLL := hLL.symm; subst hLL; refine O_n ?_
    repeat' (first | refine go ?_ | intro _ | (apply cG; first | refine cT ?_ | refine cF ?_ | refine cS (fun _ => ?_) fun _ => ?_) | (apply gW; refine sW ?_) | (apply gI; refine sI ?_) | (apply gE; refine sE ?_) | (apply gP; refine sP ?_) | (apply gC; refine sC ?_) | (apply gD; refine sD ?_) | fail)
    refine E_res1 (by rfl) (by rfl) ⟨rfl, rfl⟩ Sb
  obtain ⟨y, hy⟩ : ∃ y, o1[j]? = some y := ⟨_, List.getElem?_eq_getElem hjl⟩
  have hay : At o1 j y := ⟨hy⟩
  have hyb := hin y (List.mem_of_getElem? hy)
  by_cases hj0 : j = 0
  · subst hj0
    repeat' (first | refine go ?_ | intro _ | (apply cG; first | refine cT ?_ | refine cF ?_ | refine cS (fun _ => ?_) fun _ => ?_) | (apply gW; refine sW ?_) | (apply gI; refine sI ?_) | (apply gE; refine sE ?_) | (apply gP; refine sP ?_) | (apply gC; refine sC ?_) | (apply gD; refine sD ?_) | fail)
    refine C_draw (n := 99) [own 3 eI (.slice A1 o1.length c1) o1] [(0, 1), (1, 1), (2, 1), (3, 1), (4, 1), (5, 1), (6, 1), (7, 1), (8, 1), (9, 1), (10, 1), (11, 1), (12, 1), (13, 1), (14, 1), (15, 1), (16, 1), (17, 1), (18, 1), (19, 1), (20, 1), (21, 1), (22, 1), (23, 1), (24, 1), (25, 1), (26, 1), (27, 1)] (by kernel_rfl) (by kernel_rfl) Sb ?_
    repeat' (first | refine go ?_ | intro _ | (apply cG; first | refine cT ?_ | refine cF ?_ | refine cS (fun _ => ?_) fun _ => ?_) | (apply gW; refine sW ?_) | (apply gI; refine sI ?_) | (apply gE; refine sE ?_) | (apply gP; refine sP ?_) | (apply gC; refine sC ?_) | (apply gD; refine sD ?_) | fail)
    repeat' (first | refine go ?_ | intro _ | (apply cG; first | refine cT ?_ | refine cF ?_ | refine cS (fun _ => ?_) fun _ => ?_) | (apply gW; refine sW ?_) | (apply gI; refine sI ?_) | (apply gE; refine sE ?_) | (apply gP; refine sP ?_) | (apply gC; refine sC ?_) | (apply gD; refine sD ?_) | fail)
    exact E_round 1 (by omega) (by omega) ⟨rfl, trivial⟩ Sb
  obtain ⟨k, rfl⟩ : ∃ k, j = k + 1 := ⟨j - 1, by omega⟩
  obtain ⟨z, hz⟩ : ∃ z, o1[k]? = some z := ⟨_, List.getElem?_eq_getElem (by omega)⟩
  have hzy : z < y := by
    have h1 := (List.getElem?_eq_some_iff.1 hz).2
    have h2 := (List.getElem?_eq_some_iff.1 hy).2
    rw [← h1, ← h2]
    exact List.pairwise_iff_getElem.1 hsrt k (k + 1) _ _ (Nat.lt_succ_self k)
  have en : ((k + 1 : Nat) : Int) - 1 = (k : Int) := by omega
  have haz0 : At o1 (((k + 1 : Nat) : Int) - 1).toNat z := ⟨by rw [en, Int.toNat_natCast]; exact hz⟩
  have haz1 := haz0
  unfold Int.toNat at haz1
  repeat' (first | refine go ?_ | intro _ | (apply cG; first | refine cT ?_ | refine cF ?_ | refine cS (fun _ => ?_) fun _ => ?_) | (apply gW; refine sW ?_) | (apply gI; refine sI ?_) | (apply gE; refine sE ?_) | (apply gP; refine sP ?_) | (apply gC; refine sC ?_) | (apply gD; refine sD ?_) | fail)
  refine C_draw (n := 99) [own 3 eI (.slice A1 o1.length c1) o1] [(0, 1), (1, 1), (2, 1), (3, 1), (4, 1), (5, 1), (6, 1), (7, 1), (8, 1), (9, 1), (10, 1), (11, 1), (12, 1), (13, 1), (14, 1), (15, 1), (16, 1), (17, 1), (18, 1), (19, 1), (20, 1), (21, 1), (22, 1), (23, 1), (24, 1), (25, 1), (26, 1), (27, 1)] (by kernel_rfl) (by kernel_rfl) Sb ?_
  repeat' (first | refine go ?_ | intro _ | (apply cG; first | refine cT ?_ | refine cF ?_ | refine cS (fun _ => ?_) fun _ => ?_) | (apply gW; refine sW ?_) | (apply gI; refine sI ?_) | (apply gE; refine sE ?_) | (apply gP; refine sP ?_) | (apply gC; refine sC ?_) | (apply gD; refine sD ?_) | fail)
  repeat' (first | refine go ?_ | intro _ | (apply cG; first | refine cT ?_ | refine cF ?_ | refine cS (fun _ => ?_) fun _ => ?_) | (apply gW; refine sW ?_) | (apply gI; refine sI ?_) | (apply gE; refine sE ?_) | (apply gP; refine sP ?_) | (apply gC; refine sC ?_) | (apply gD; refine sD ?_) | fail)
  exact E_round (k + 2) (by omega) (by omega) ⟨rfl, trivial⟩ Sb
end
theorem IndexMeets_any {v : Value} {l : List Int} {n m day : Int} {w : World} (s : St w w [rd eI v l]) (hl : l.length ≤ 9223372036854775807) (hr : ∀ n ∈ l, I64 n) (hn : I64 n) (hm : I64 m) (hd : I64 day) :
    Calls Try.prog 5 #[v, .int .i64 n, .int .i64 m, .int .i64 day] w fun e w' => e = .returned (.bool true) ∧ Below w.heap.size w w' :=
  ((IndexMeets_ct (W0 := w) (.head _) hl hr hn hm hd).run w s).mono fun e w' h => by
    obtain ⟨v, L', rfl, ⟨rfl, rfl⟩, s⟩ := h
    exact ⟨rfl, s.below⟩
end Go.Proofs.Ytnjjifikogblpaa
