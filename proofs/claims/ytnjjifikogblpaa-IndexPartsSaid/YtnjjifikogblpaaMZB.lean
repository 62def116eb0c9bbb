/-
  The law IndexParts.
-/
import Derived.Test.YtnjjifikogblpaaMZA
import Derived.Test.YtnjjifikogblpaaMC
namespace Go.Proofs.Ytnjjifikogblpaa
open Go Go.RowKit
set_option linter.unusedVariables false
set_option linter.unusedSimpArgs false
set_option maxRecDepth 20000
set_option synthInstance.maxSize 100000
set_option synthInstance.maxHeartbeats 400000
/-- a box divided into two -/
structure PartOk (b o t : BX) : Prop where
  og : o.good
  tg : t.good
  so : b.x0 ≤ o.x0 ∧ o.x1 ≤ b.x1 ∧ b.y0 ≤ o.y0 ∧ o.y1 ≤ b.y1
  st : b.x0 ≤ t.x0 ∧ t.x1 ≤ b.x1 ∧ b.y0 ≤ t.y0 ∧ t.y1 ≤ b.y1
  m : ∀ e : BX, e.good → meetF e b = (meetF e o || meetF e t)
theorem part_x {b : BX} {x : Int} (hb : b.good) (h : b.x0 ≤ x ∧ x ≤ b.x1) : PartOk b ⟨b.x0, b.y0, x, b.y1⟩ ⟨x, b.y0, b.x1, b.y1⟩ := by
  obtain ⟨⟨h1, h2⟩, ⟨h3, h4⟩, ⟨h5, h6⟩, ⟨h7, h8⟩, h9, h10⟩ := hb
  refine ⟨by dsimp only [BX.good, inG]; omega, by dsimp only [BX.good, inG]; omega, by dsimp only; omega, by dsimp only; omega, fun e he => ?_⟩
  obtain ⟨_, _, _, _, g1, g2⟩ := he
  unfold meetF
  rw [← Bool.decide_or]
  refine decide_eq_decide.2 ?_
  dsimp only
  omega
theorem part_y {b : BX} {y : Int} (hb : b.good) (h : b.y0 ≤ y ∧ y ≤ b.y1) : PartOk b ⟨b.x0, b.y0, b.x1, y⟩ ⟨b.x0, y, b.x1, b.y1⟩ := by
  obtain ⟨⟨h1, h2⟩, ⟨h3, h4⟩, ⟨h5, h6⟩, ⟨h7, h8⟩, h9, h10⟩ := hb
  refine ⟨by dsimp only [BX.good, inG]; omega, by dsimp only [BX.good, inG]; omega, by dsimp only; omega, by dsimp only; omega, fun e he => ?_⟩
  obtain ⟨_, _, _, _, g1, g2⟩ := he
  unfold meetF
  rw [← Bool.decide_or]
  refine decide_eq_decide.2 ?_
  dsimp only
  omega
theorem look_mono {l : List Ent} {o b : BX} (ho : o.good) (hb : b.good) (h : b.x0 ≤ o.x0 ∧ o.x1 ≤ b.x1 ∧ b.y0 ≤ o.y0 ∧ o.y1 ≤ b.y1) : lookF l o ≤ lookF l b := by
  obtain ⟨n1, n2, n3, n4, _⟩ := ho.nums
  obtain ⟨k1, k2, k3, k4, _⟩ := hb.nums
  refine List.countP_mono_left fun x _ hx => ?_
  obtain ⟨h1, h2, h3, h4⟩ := of_decide_eq_true hx
  have d1 : X0 b / 2 ^ x.1 ≤ X0 o / 2 ^ x.1 := Nat.div_le_div_right (by omega)
  have d2 : X1 o / 2 ^ x.1 ≤ X1 b / 2 ^ x.1 := Nat.div_le_div_right (by omega)
  have d3 : Y0 b / 2 ^ x.1 ≤ Y0 o / 2 ^ x.1 := Nat.div_le_div_right (by omega)
  have d4 : Y1 o / 2 ^ x.1 ≤ Y1 b / 2 ^ x.1 := Nat.div_le_div_right (by omega)
  exact decide_eq_true ⟨Nat.le_trans d1 h1, Nat.le_trans h2 d2, Nat.le_trans d3 h3, Nat.le_trans h4 d4⟩
theorem PartOk.hit {b o t : BX} (h : PartOk b o t) {d : Int} {e : Ent} (he : e.2.b.good) : hitF b d e = (hitF o d e || hitF t d e) := by
  unfold hitF
  rw [h.m _ he]
  cases decide (e.2.f ≤ d ∧ d ≤ e.2.t) <;> rfl
theorem PartOk.mem {b o t : BX} (h : PartOk b o t) {d n : Int} {l : List Ent} (hg : ∀ e ∈ l, e.2.b.good) : memB (hitsF b d l) n = (memB (hitsF o d l) n || memB (hitsF t d l) n) := by
  unfold memB
  rw [← Bool.decide_or]
  refine decide_eq_decide.2 ?_
  rw [mem_hits, mem_hits, mem_hits]
  constructor
  · rintro ⟨e, he, h1, h2⟩
    rw [h.hit (hg e he), Bool.or_eq_true] at h1
    exact h1.imp (fun h => ⟨e, he, h, h2⟩) fun h => ⟨e, he, h, h2⟩
  · rintro (⟨e, he, h1, h2⟩ | ⟨e, he, h1, h2⟩)
    · exact ⟨e, he, by rw [h.hit (hg e he), h1]; rfl, h2⟩
    · exact ⟨e, he, by rw [h.hit (hg e he), h1, Bool.or_true], h2⟩
theorem hits_count {b : BX} {d : Int} {l : List Ent} : (hitsF b d l).length = l.countP (hitF b d) := by
  unfold hitsF
  rw [List.length_map, List.countP_eq_length_filter]
theorem PartOk.len {b o t : BX} (h : PartOk b o t) {d : Int} : ∀ {l : List Ent}, (∀ e ∈ l, e.2.b.good) → (hitsF o d l).length ≤ (hitsF b d l).length ∧ (hitsF t d l).length ≤ (hitsF b d l).length ∧ (hitsF b d l).length ≤ (hitsF o d l).length + (hitsF t d l).length := by
  intro l
  rw [hits_count, hits_count, hits_count]
  induction l with
  | nil => intro _; exact ⟨Nat.le_refl _, Nat.le_refl _, Nat.le_refl _⟩
  | cons e l ih =>
    intro hg
    have h1 := ih fun a ha => hg a (.tail _ ha)
    have h2 := h.hit (d := d) (hg e (.head _))
    rw [List.countP_cons, List.countP_cons, List.countP_cons, h2]
    cases hitF o d e <;> cases hitF t d e <;> simp <;> omega
section
variable {P : Program} {W0 : World} {L : List HP}
set_option maxHeartbeats 4000000 in
theorem IndexParts_ct {v : Value} {l : List Int} {n m cut day : Int} (hv : rd eI v l ∈ L) (hl : l.length ≤ 9223372036854775807) (hr : ∀ n ∈ l, I64 n) (hn : I64 n) (hm : I64 m) (hcut : I64 cut) (hday : I64 day) :
    CT Try.prog 7 #[v, .int .i64 n, .int .i64 m, .int .i64 cut, .int .i64 day] W0 L fun r L' => r = .bool true ∧ L' = L := by
  refine CT_fact (fun w s => ((Src.sl (.inl hv) s).form)) ?_
  rintro ⟨A0, c0, rfl, hc0⟩
  have hc2 := tdiv_bd (d := 2) (by decide) hcut
  refine CT_enter Try.func7 rfl ?_; (simp only [Try.ntmps7, List.size_toArray, List.length_cons, List.length_nil, Nat.reduceAdd, Nat.reduceSub, Array.replicate_succ, Array.replicate_zero, List.push_toArray, List.append_toArray, List.nil_append, List.cons_append])
  repeat' (first | refine go ?_ | intro _ | (apply cG; first | refine cT ?_ | refine cF ?_ | refine cS (fun _ => ?_) fun _ => ?_) | (apply gW; refine sW ?_) | (apply gI; refine sI ?_) | (apply gE; refine sE ?_) | (apply gP; refine sP ?_) | (apply gC; refine sC ?_) | (apply gD; refine sD ?_) | fail)
  refine O_d (dy_call ArgsI.pf (by first | exact rfl | trivial | (intro a b; rfl)) (filled_ct (l := l) (most := 16) hv hr hl (by decide))) ?_; rintro _ _ ⟨_, ⟨T, R, hB, hk, hlk, hf, hlen, rfl, rfl⟩, rfl⟩; refine O_n ?_
  have hgd := fun e he => (hB.w.g e he).1
  repeat' (first | refine go ?_ | intro _ | (apply cG; first | refine cT ?_ | refine cF ?_ | refine cS (fun _ => ?_) fun _ => ?_) | (apply gW; refine sW ?_) | (apply gI; refine sI ?_) | (apply gE; refine sE ?_) | (apply gP; refine sP ?_) | (apply gC; refine sC ?_) | (apply gD; refine sD ?_) | fail)
  refine O_d (dy_call ArgsI.pf (by first | exact rfl | trivial | (intro a b; rfl)) (rBox_ct hn hm)) ?_; rintro _ _ ⟨_, ⟨b, hb, rfl, rfl⟩, rfl⟩; refine O_n ?_
  repeat' (first | refine go ?_ | intro _ | (apply cG; first | refine cT ?_ | refine cF ?_ | refine cS (fun _ => ?_) fun _ => ?_) | (apply gW; refine sW ?_) | (apply gI; refine sI ?_) | (apply gE; refine sE ?_) | (apply gP; refine sP ?_) | (apply gC; refine sC ?_) | (apply gD; refine sD ?_) | fail)
  rename_i pb
  have hd := around_in (n := day) (most := 9) (by decide)
  refine O_d (dy_call ArgsI.pf (by first | exact rfl | trivial | (intro a b; rfl)) (Around_ct (n := day) (most := 9) hday.1 hday.2 (by decide) (by decide))) ?_; rintro _ _ ⟨_, ⟨rfl, hLL⟩, rfl⟩; replace hLL := hLL.symm; subst hLL; refine O_n ?_
  obtain ⟨d, hde⟩ : ∃ d, around day 9 = d := ⟨_, rfl⟩
  rw [hde] at hd ⊢
  have hdy : daysF d d = true := by unfold daysF; exact decide_eq_true ⟨hd.1, Int.le_refl _, by omega⟩
  have hfk : ∀ b : BX, b.good → fokB b d = true := fun b hb => by unfold fokB; rw [decide_eq_true hb, hdy]; rfl
  repeat' (first | ((fail_if_success apply AtE); refine go ?_) | intro _ | (apply cG; first | refine cT ?_ | refine cF ?_ | refine cS (fun _ => ?_) fun _ => ?_) | (apply gW; refine sW ?_) | (apply gI; refine sI ?_) | (apply gE; refine sE ?_) | (apply gP; refine sP ?_) | (apply gC; refine sC ?_) | (apply gD; refine sD ?_) | fail)
  refine go ?_
  repeat' (first | ((fail_if_success apply AtE); refine go ?_) | intro _ | (apply cG; first | refine cT ?_ | refine cF ?_ | refine cS (fun _ => ?_) fun _ => ?_) | (apply gW; refine sW ?_) | (apply gI; refine sI ?_) | (apply gE; refine sE ?_) | (apply gP; refine sP ?_) | (apply gC; refine sC ?_) | (apply gD; refine sD ?_) | fail)
  refine go ?_
  repeat' (first | ((fail_if_success apply AtE); refine go ?_) | intro _ | (apply cG; first | refine cT ?_ | refine cF ?_ | refine cS (fun _ => ?_) fun _ => ?_) | (apply gW; refine sW ?_) | (apply gI; refine sI ?_) | (apply gE; refine sE ?_) | (apply gP; refine sP ?_) | (apply gC; refine sC ?_) | (apply gD; refine sD ?_) | fail)
  rename_i p1 p2
  obtain ⟨⟨g1, g2⟩, ⟨g3, g4⟩, ⟨g5, g6⟩, ⟨g7, g8⟩, g9, g10⟩ := id hb
  refine go ?_; refine go ?_; refine C_join (κ := BX × BX) [false, false, false, false, false, false, false, false, false, false, false, false, false, false, false, false, false, false, true, true, false, false, false, false, false, false, false, false, false, false, false, false, false, false, false, false, false, false, false, false, false, false, false, false, false, true, true, true, true, true, true, true, true, true, true, true, true, true, true, true, true, true, true, true, true, true, true, true, true, true, true, true, true, true, true, true, true, true, true, true, true, true, true, true, true, true, true, true, true, true, false, false, false, false, false, false, false, false, false, false, false, false, false, false, false, false, false, false, false, false, false, false, false, false, false, false, false, false, false, false, false, false, false, false, false, false, false, false, false, false, false, false, false, false, false, false, false, false, false, false, false, false, false, false, false, false, false, false, false, false, false, false, false, false, false, false, false, false, false, false, false, false, false, false, false, false, false, false, false, false, false, false, false, false, false, false, false, false] (fun k => []) (fun k => [(0, cel p2 [.int .i64 k.2.x0, .int .i64 k.2.y0, .int .i64 k.2.x1, .int .i64 k.2.y1] 31), (1, cel p1 [.int .i64 k.1.x0, .int .i64 k.1.y0, .int .i64 k.1.x1, .int .i64 k.1.y1] 31)]) (fun k => PartOk b k.1 k.2) ?_ ?_
  · repeat' (first | refine go ?_ | intro _ | (apply cG; first | refine cT ?_ | refine cF ?_ | refine cS (fun _ => ?_) fun _ => ?_) | (apply gI; refine sI ?_) | (apply gE; refine sE ?_) | (apply gP; refine sP ?_) | (apply gC; refine sC ?_) | (apply gD; refine sD ?_) | fail)
    apply gW; refine sW (r := cut.tmod 2) ?_ ⟨by decide, rfl⟩
    by_cases h2 : cut.tmod 2 = 0
    rotate_left
    · repeat' (first | refine go ?_ | intro _ | (apply cG; first | refine cT ?_ | refine cF ?_ | refine cS (fun _ => ?_) fun _ => ?_) | (apply gW; refine sW ?_) | (apply gI; refine sI ?_) | (apply gE; refine sE ?_) | (apply gP; refine sP ?_) | (apply gC; refine sC ?_) | (apply gD; refine sD ?_) | fail)
      refine C_draw (n := 99) [cel pb [.int .i64 b.x0, .int .i64 b.y0, .int .i64 b.x1, .int .i64 b.y1] 31] [(0, 1), (1, 1), (2, 1), (3, 1), (4, 1), (5, 1), (6, 1), (7, 1), (8, 1), (9, 1), (10, 1), (11, 1), (12, 1), (13, 0), (14, 1), (15, 1)] (by kernel_rfl) (by kernel_rfl) Sb ?_
      repeat' (first | refine go ?_ | intro _ | (apply cG; first | refine cT ?_ | refine cF ?_ | refine cS (fun _ => ?_) fun _ => ?_) | (apply gW; refine sW ?_) | (apply gI; refine sI ?_) | (apply gE; refine sE ?_) | (apply gP; refine sP ?_) | (apply gC; refine sC ?_) | (apply gD; refine sD ?_) | fail)
      try rw [wr_i64 hc2.1 hc2.2]
      refine D_op rfl ?_; refine X_d (dy_call ArgsI.pf (by first | exact rfl | trivial | (intro a b; rfl)) (Around_ct (n := cut.tdiv 2) (most := b.y1 - b.y0 + 1) hc2.1 hc2.2 (by omega) (by omega))) ?_; rintro _ _ ⟨_, ⟨rfl, hLL⟩, rfl⟩; replace hLL := hLL.symm; subst hLL; refine ⟨(by first | exact .inl rfl | exact .inr Sb), D_n ?_⟩
      have hu := around_in (n := cut.tdiv 2) (most := b.y1 - b.y0 + 1) (by omega)
      obtain ⟨u, hue⟩ : ∃ u, around (cut.tdiv 2) (b.y1 - b.y0 + 1) = u := ⟨_, rfl⟩
      rw [hue] at hu ⊢
      repeat' (first | refine go ?_ | intro _ | (apply cG; first | refine cT ?_ | refine cF ?_ | refine cS (fun _ => ?_) fun _ => ?_) | (apply gW; refine sW ?_) | (apply gI; refine sI ?_) | (apply gE; refine sE ?_) | (apply gP; refine sP ?_) | (apply gC; refine sC ?_) | (apply gD; refine sD ?_) | fail)
      exact E_join (⟨b.x0, b.y0, b.x1, b.y0 + u⟩, ⟨b.x0, b.y0 + u, b.x1, b.y1⟩) (part_y hb (by omega)) trivial
    repeat' (first | refine go ?_ | intro _ | (apply cG; first | refine cT ?_ | refine cF ?_ | refine cS (fun _ => ?_) fun _ => ?_) | (apply gW; refine sW ?_) | (apply gI; refine sI ?_) | (apply gE; refine sE ?_) | (apply gP; refine sP ?_) | (apply gC; refine sC ?_) | (apply gD; refine sD ?_) | fail)
    refine C_draw (n := 99) [cel pb [.int .i64 b.x0, .int .i64 b.y0, .int .i64 b.x1, .int .i64 b.y1] 31] [(0, 1), (1, 1), (2, 1), (3, 1), (4, 1), (5, 1), (6, 1), (7, 1), (8, 1), (9, 1), (10, 1), (11, 1), (12, 1), (13, 0), (14, 1), (15, 1)] (by kernel_rfl) (by kernel_rfl) Sb ?_
    repeat' (first | refine go ?_ | intro _ | (apply cG; first | refine cT ?_ | refine cF ?_ | refine cS (fun _ => ?_) fun _ => ?_) | (apply gW; refine sW ?_) | (apply gI; refine sI ?_) | (apply gE; refine sE ?_) | (apply gP; refine sP ?_) | (apply gC; refine sC ?_) | (apply gD; refine sD ?_) | fail)
    try rw [wr_i64 hc2.1 hc2.2]
    refine D_op rfl ?_; refine X_d (dy_call ArgsI.pf (by first | exact rfl | trivial | (intro a b; rfl)) (Around_ct (n := cut.tdiv 2) (most := b.x1 - b.x0 + 1) hc2.1 hc2.2 (by omega) (by omega))) ?_; rintro _ _ ⟨_, ⟨rfl, hLL⟩, rfl⟩; replace hLL := hLL.symm; subst hLL; refine ⟨(by first | exact .inl rfl | exact .inr Sb), D_n ?_⟩
    have hu := around_in (n := cut.tdiv 2) (most := b.x1 - b.x0 + 1) (by omega)
    obtain ⟨u, hue⟩ : ∃ u, around (cut.tdiv 2) (b.x1 - b.x0 + 1) = u := ⟨_, rfl⟩
    rw [hue] at hu ⊢
    repeat' (first | refine go ?_ | intro _ | (apply cG; first | refine cT ?_ | refine cF ?_ | refine cS (fun _ => ?_) fun _ => ?_) | (apply gW; refine sW ?_) | (apply gI; refine sI ?_) | (apply gE; refine sE ?_) | (apply gP; refine sP ?_) | (apply gC; refine sC ?_) | (apply gD; refine sD ?_) | fail)
    exact E_join (⟨b.x0, b.y0, b.x0 + u, b.y1⟩, ⟨b.x0 + u, b.y0, b.x1, b.y1⟩) (part_x hb (by omega)) trivial
  rintro ⟨o, t⟩ u1 hP
  dsimp only at hP
  dsimp only
  ((try dsimp only); refine C_n ?_; (try simp only [Nat.reduceAdd, Nat.zero_add]))
  have hmono1 := look_mono (l := R.l) hP.og hb hP.so
  have hmono2 := look_mono (l := R.l) hP.tg hb hP.st
  have hmem := fun n => hP.mem (d := d) (n := n) hgd
  have hplen := hP.len (d := d) hgd
  have hllen : (hitsF b d R.l).length ≤ R.l.length := by unfold hitsF; rw [List.length_map]; exact List.length_filter_le _ _
  repeat' (first | refine go ?_ | intro _ | (apply cG; first | refine cT ?_ | refine cF ?_ | refine cS (fun _ => ?_) fun _ => ?_) | (apply gW; refine sW ?_) | (apply gI; refine sI ?_) | (apply gE; refine sE ?_) | (apply gP; refine sP ?_) | (apply gC; refine sC ?_) | (apply gD; refine sD ?_) | fail)
  refine O_d (dy_call ArgsI.pf (by first | exact rfl | trivial | (intro a b; rfl)) (CT.pull (i := 3) (by rfl) (Find2_ct (T := T) (b := o) (d := d) hB.t hB.w))) ?_; rintro _ _ ⟨_, ⟨A1, c1, T1, hp1, hT1, hlk1, rfl, rfl⟩, rfl⟩; refine O_n ?_
  rw [if_pos (hfk o hP.og)] at hlk1
  rw [show findE o d = 0 from if_pos (hfk o hP.og), show findL R.l o d = hitsF o d R.l from if_pos (hfk o hP.og)]
  obtain ⟨o1, ho1⟩ : ∃ zz, hitsF o d R.l = zz := ⟨_, rfl⟩
  obtain ⟨n1, hn1⟩ : ∃ zz, lookF R.l o = zz := ⟨_, rfl⟩
  rw [hn1] at hlk1
  rw [ho1, ← hp1]
  repeat' (first | refine go ?_ | intro _ | (apply cG; first | refine cT ?_ | refine cF ?_ | refine cS (fun _ => ?_) fun _ => ?_) | (apply gW; refine sW ?_) | (apply gI; refine sI ?_) | (apply gE; refine sE ?_) | (apply gP; refine sP ?_) | (apply gC; refine sC ?_) | (apply gD; refine sD ?_) | fail)
  refine O_d (dy_call ArgsI.pf (by first | exact rfl | trivial | (intro a b; rfl)) (CT.pull (i := 1) (by rfl) (Looks_ct (T := T1)))) ?_; rintro _ _ ⟨_, ⟨rfl, rfl⟩, rfl⟩; refine O_n ?_
  rw [hlk1]
  repeat' (first | refine go ?_ | intro _ | (apply cG; first | refine cT ?_ | refine cF ?_ | refine cS (fun _ => ?_) fun _ => ?_) | (apply gW; refine sW ?_) | (apply gI; refine sI ?_) | (apply gE; refine sE ?_) | (apply gP; refine sP ?_) | (apply gC; refine sC ?_) | (apply gD; refine sD ?_) | fail)
  refine O_d (dy_call ArgsI.pf (by first | exact rfl | trivial | (intro a b; rfl)) (CT.pull (i := 0) (by rfl) (Find2_ct (T := T1) (b := t) (d := d) hT1 hB.w))) ?_; rintro _ _ ⟨_, ⟨A2, c2, T2, hp2, hT2, hlk2, rfl, rfl⟩, rfl⟩; refine O_n ?_
  rw [if_pos (hfk t hP.tg)] at hlk2
  rw [show findE t d = 0 from if_pos (hfk t hP.tg), show findL R.l t d = hitsF t d R.l from if_pos (hfk t hP.tg)]
  obtain ⟨o2, ho2⟩ : ∃ zz, hitsF t d R.l = zz := ⟨_, rfl⟩
  obtain ⟨n2, hn2⟩ : ∃ zz, lookF R.l t = zz := ⟨_, rfl⟩
  rw [hn2] at hlk2
  rw [ho2, ← hp2]
  repeat' (first | refine go ?_ | intro _ | (apply cG; first | refine cT ?_ | refine cF ?_ | refine cS (fun _ => ?_) fun _ => ?_) | (apply gW; refine sW ?_) | (apply gI; refine sI ?_) | (apply gE; refine sE ?_) | (apply gP; refine sP ?_) | (apply gC; refine sC ?_) | (apply gD; refine sD ?_) | fail)
  refine O_d (dy_call ArgsI.pf (by first | exact rfl | trivial | (intro a b; rfl)) (CT.pull (i := 1) (by rfl) (Looks_ct (T := T2)))) ?_; rintro _ _ ⟨_, ⟨rfl, rfl⟩, rfl⟩; refine O_n ?_
  rw [hlk2]
  repeat' (first | refine go ?_ | intro _ | (apply cG; first | refine cT ?_ | refine cF ?_ | refine cS (fun _ => ?_) fun _ => ?_) | (apply gW; refine sW ?_) | (apply gI; refine sI ?_) | (apply gE; refine sE ?_) | (apply gP; refine sP ?_) | (apply gC; refine sC ?_) | (apply gD; refine sD ?_) | fail)
  refine O_d (dy_call ArgsI.pf (by first | exact rfl | trivial | (intro a b; rfl)) (CT.pull (i := 0) (by rfl) (Find2_ct (T := T2) (b := b) (d := d) hT2 hB.w))) ?_; rintro _ _ ⟨_, ⟨A3, c3, T3, hp3, hT3, hlk3, rfl, rfl⟩, rfl⟩; refine O_n ?_
  rw [if_pos (hfk b hb)] at hlk3
  rw [show findE b d = 0 from if_pos (hfk b hb), show findL R.l b d = hitsF b d R.l from if_pos (hfk b hb)]
  obtain ⟨o3, ho3⟩ : ∃ zz, hitsF b d R.l = zz := ⟨_, rfl⟩
  obtain ⟨n3, hn3⟩ : ∃ zz, lookF R.l b = zz := ⟨_, rfl⟩
  rw [hn3] at hlk3
  rw [ho3, ← hp3]
  repeat' (first | refine go ?_ | intro _ | (apply cG; first | refine cT ?_ | refine cF ?_ | refine cS (fun _ => ?_) fun _ => ?_) | (apply gW; refine sW ?_) | (apply gI; refine sI ?_) | (apply gE; refine sE ?_) | (apply gP; refine sP ?_) | (apply gC; refine sC ?_) | (apply gD; refine sD ?_) | fail)
  refine O_d (dy_call ArgsI.pf (by first | exact rfl | trivial | (intro a b; rfl)) (CT.pull (i := 1) (by rfl) (Looks_ct (T := T3)))) ?_; rintro _ _ ⟨_, ⟨rfl, rfl⟩, rfl⟩; refine O_n ?_
  rw [hlk3]
  repeat' (first | refine go ?_ | intro _ | (apply cG; first | refine cT ?_ | refine cF ?_ | refine cS (fun _ => ?_) fun _ => ?_) | (apply gW; refine sW ?_) | (apply gI; refine sI ?_) | (apply gE; refine sE ?_) | (apply gP; refine sP ?_) | (apply gC; refine sC ?_) | (apply gD; refine sD ?_) | fail)
  rw [hn1, hn3] at hmono1
  rw [hn2, hn3] at hmono2
  rw [ho1, ho2, ho3] at hplen
  rw [ho3] at hllen
  simp only [ho1, ho2, ho3] at hmem
  repeat' (first | refine go ?_ | intro _ | (apply cG; first | refine cT ?_ | refine cF ?_ | refine cS (fun _ => ?_) fun _ => ?_) | (apply gW; refine sW ?_) | (apply gI; refine sI ?_) | (apply gE; refine sE ?_) | (apply gP; refine sP ?_) | (apply gC; refine sC ?_) | (apply gD; refine sD ?_) | fail)
  refine C_loopS (κ := Nat) [false, false, false, false, false, false, false, false, false, false, true, false, false, false, false, false, false, false, false, false, false, false, false, false, false, false, false, false, false, true, false, false, false, false, false, false, false, false, false, false, false, false, false, false, false, false, false, false, false, false, false, false, false, false, false, false, false, false, false, false, false, false, false, false, false, false, false, false, false, false, false, false, false, false, false, false, false, false, false, false, false, false, false, false, false, false, false, false, false, false, false, false, false, false, false, false, false, false, false, false, false, false, false, false, false, false, false, false, false, false, false, false, false, false, false, false, false, false, false, false, false, false, false, false, false, false, false, false, false, false, false, false, false, false, false, false, false, true, true, true, true, true, true, true, true, true, true, true, true, true, true, true, true, false, false, false, false, false, false, false, false, false, false, false, false, false, false, false, false, false, false, false, false, false, false, false, false, false] (fun k => [(29, .int .i64 (k : Int))]) (fun k => []) (fun k => k ≤ 12) (fun k => 12 - k) 0 (Nat.zero_le _) ⟨rfl, trivial⟩ ?_
  rintro i u2 hi
  ((try dsimp only); refine C_n ?_; (try simp only [Nat.reduceAdd, Nat.zero_add]))
  by_cases hil : i < 12
  rotate_left
  · repeat' (first | refine go ?_ | intro _ | (apply cG; first | refine cT ?_ | refine cF ?_ | refine cS (fun _ => ?_) fun _ => ?_) | (apply gW; refine sW ?_) | (apply gI; refine sI ?_) | (apply gE; refine sE ?_) | (apply gP; refine sP ?_) | (apply gC; refine sC ?_) | (apply gD; refine sD ?_) | fail)
    refine O_d (dy_call ArgsI.pf (by first | exact rfl | trivial | (intro a b; rfl)) (lives_ct)) ?_; rintro _ _ ⟨_, ⟨rfl, hLL⟩, rfl⟩; replace hLL := hLL.symm; subst hLL; refine O_n ?_
    repeat' (first | refine go ?_ | intro _ | (apply cG; first | refine cT ?_ | refine cF ?_ | refine cS (fun _ => ?_) fun _ => ?_) | (apply gW; refine sW ?_) | (apply gI; refine sI ?_) | (apply gE; refine sE ?_) | (apply gP; refine sP ?_) | (apply gC; refine sC ?_) | (apply gD; refine sD ?_) | fail)
    refine E_res1 (by rfl) (by rfl) ⟨rfl, rfl⟩ Sb
  have hmi := hmem (i : Int)
  obtain ⟨q1, hq1⟩ : ∃ q, memB o1 (i : Int) = q := ⟨_, rfl⟩
  obtain ⟨q2, hq2⟩ : ∃ q, memB o2 (i : Int) = q := ⟨_, rfl⟩
  rw [hq1, hq2] at hmi
  repeat' (first | refine go ?_ | intro _ | (apply cG; first | refine cT ?_ | refine cF ?_ | refine cS (fun _ => ?_) fun _ => ?_) | (apply gW; refine sW ?_) | (apply gI; refine sI ?_) | (apply gE; refine sE ?_) | (apply gP; refine sP ?_) | (apply gC; refine sC ?_) | (apply gD; refine sD ?_) | fail)
  refine O_d (dy_call ArgsI.pf (by first | exact rfl | trivial | (intro a b; rfl)) (Has_ct (l := o3) (n := (i : Int)) (.inr ⟨_, .tail _ (.head _)⟩) (by omega))) ?_; rintro _ _ ⟨_, ⟨rfl, hLL⟩, rfl⟩; replace hLL := hLL.symm; subst hLL; refine O_n ?_
  rw [hmi]
  repeat' (first | refine go ?_ | intro _ | (apply cG; first | refine cT ?_ | refine cF ?_ | refine cS (fun _ => ?_) fun _ => ?_) | (apply gW; refine sW ?_) | (apply gI; refine sI ?_) | (apply gE; refine sE ?_) | (apply gP; refine sP ?_) | (apply gC; refine sC ?_) | (apply gD; refine sD ?_) | fail)
  refine O_d (dy_call ArgsI.pf (by first | exact rfl | trivial | (intro a b; rfl)) (Has_ct (l := o1) (n := (i : Int)) (.inr ⟨_, .tail _ (.tail _ (.tail _ (.head _)))⟩) (by omega))) ?_; rintro _ _ ⟨_, ⟨rfl, hLL⟩, rfl⟩; replace hLL := hLL.symm; subst hLL; refine O_n ?_
  rw [hq1]
  cases q1 with
  | true =>
    rw [Bool.true_or]
    repeat' (first | refine go ?_ | intro _ | (apply cG; first | refine cT ?_ | refine cF ?_ | refine cS (fun _ => ?_) fun _ => ?_) | (apply gW; refine sW ?_) | (apply gI; refine sI ?_) | (apply gE; refine sE ?_) | (apply gP; refine sP ?_) | (apply gC; refine sC ?_) | (apply gD; refine sD ?_) | fail)
    exact E_round (i + 1) (by omega) (by omega) ⟨rfl, trivial⟩ Sb
  | false =>
    rw [Bool.false_or]
    repeat' (first | refine go ?_ | intro _ | (apply cG; first | refine cT ?_ | refine cF ?_ | refine cS (fun _ => ?_) fun _ => ?_) | (apply gW; refine sW ?_) | (apply gI; refine sI ?_) | (apply gE; refine sE ?_) | (apply gP; refine sP ?_) | (apply gC; refine sC ?_) | (apply gD; refine sD ?_) | fail)
    refine O_d (dy_call ArgsI.pf (by first | exact rfl | trivial | (intro a b; rfl)) (Has_ct (l := o2) (n := (i : Int)) (.inr ⟨_, .tail _ (.tail _ (.head _))⟩) (by omega))) ?_; rintro _ _ ⟨_, ⟨rfl, hLL⟩, rfl⟩; replace hLL := hLL.symm; subst hLL; refine O_n ?_
    rw [hq2]
    cases q2 with
    | true =>
      repeat' (first | refine go ?_ | intro _ | (apply cG; first | refine cT ?_ | refine cF ?_ | refine cS (fun _ => ?_) fun _ => ?_) | (apply gW; refine sW ?_) | (apply gI; refine sI ?_) | (apply gE; refine sE ?_) | (apply gP; refine sP ?_) | (apply gC; refine sC ?_) | (apply gD; refine sD ?_) | fail)
      exact E_round (i + 1) (by omega) (by omega) ⟨rfl, trivial⟩ Sb
    | false =>
      repeat' (first | refine go ?_ | intro _ | (apply cG; first | refine cT ?_ | refine cF ?_ | refine cS (fun _ => ?_) fun _ => ?_) | (apply gW; refine sW ?_) | (apply gI; refine sI ?_) | (apply gE; refine sE ?_) | (apply gP; refine sP ?_) | (apply gC; refine sC ?_) | (apply gD; refine sD ?_) | fail)
      exact E_round (i + 1) (by omega) (by omega) ⟨rfl, trivial⟩ Sb
end
theorem IndexParts_any {v : Value} {l : List Int} {n m cut day : Int} {w : World} (s : St w w [rd eI v l]) (hl : l.length ≤ 9223372036854775807) (hr : ∀ n ∈ l, I64 n) (hn : I64 n) (hm : I64 m) (hc : I64 cut) (hd : I64 day) :
    Calls Try.prog 7 #[v, .int .i64 n, .int .i64 m, .int .i64 cut, .int .i64 day] w fun e w' => e = .returned (.bool true) ∧ Below w.heap.size w w' :=
  ((IndexParts_ct (W0 := w) (.head _) hl hr hn hm hc hd).run w s).mono fun e w' h => by
    obtain ⟨v, L', rfl, ⟨rfl, rfl⟩, s⟩ := h
    exact ⟨rfl, s.below⟩
end Go.Proofs.Ytnjjifikogblpaa
namespace Go.Proofs.Ytnjjifikogblpaa
open Go Go.RowKit
set_option linter.unusedVariables false
set_option linter.unusedSimpArgs false
def toB (n : Int) : UInt8 := UInt8.ofNat n.toNat
theorem toB_wf {n : Int} (h : (Lit.int .u8 n).wf = true) : ((toB n).toNat : Int) = n := by
  simp [Lit.wf, IntKind.min, IntKind.max, IntKind.signed, IntKind.bits] at h
  unfold toB
  simp
  omega
/-- a row of numbers of one kind, said as the rows' proofs say it -/
theorem row_sl {α : Type} {f : α → Value} {hf : ∀ a, (f a).oneCell' = true} {k : IntKind} {w : World} {a : Option Addr} {len cap : Nat} {zs : List Int} {l : List α} (hl : l.map f = (zs.take len).map (Value.int k)) (hz : zs.length = cap) (hlc : len ≤ cap)
    {x : Addr} (ha : a = some x) (hcell : ∀ i, i < zs.length → w.cell? (x.add i) = some (.int k (zs.getD i 0))) : Sl (Hp.of w) (e1 f hf) (.slice a len cap) l := by
  have hlen : l.length = len := by
    have := congrArg List.length hl
    simp at this
    omega
  subst hlen
  refine ⟨a, cap, l.map fun b => [f b], rfl, hlc, all2_e1.2 rfl, ?_⟩
  by_cases h0 : l = []
  · exact .inl h0
  · right
    have hpos : 0 < l.length := List.length_pos_iff.2 h0
    obtain ⟨b, off, spot⟩ := x
    have h1 := hcell 0 (by omega)
    have hspot : spot = none := by simpa [Addr.add] using World.cell?_spot h1
    subst hspot
    rw [flat_one]
    have hb : ∃ cs t fr, w.heap[b]? = some (.cells cs t fr) := by
      unfold World.cell? at h1
      simp only [Addr.add] at h1
      split at h1
      · rename_i cs t fr he; exact ⟨cs, t, fr, he⟩
      · cases h1
    obtain ⟨cs, t, fr, hb⟩ := hb
    refine ⟨b, off, cs, t, fr, ha, hb, ?_⟩
    intro j u hj
    rw [hl] at hj
    have hjl : j < l.length := by
      have := (List.getElem?_eq_some_iff.1 hj).1
      simp at this
      omega
    have h2 := hcell j (by omega)
    have h3 : w.cell? ⟨b, off + j, none⟩ = some (.int k (zs.getD j 0)) := by
      have e : (Addr.add ⟨b, off, none⟩ j) = ⟨b, off + j, none⟩ := by
        by_cases hj0 : j = 0
        · subst hj0; rfl
        · simp [Addr.add, hj0]
      rw [e] at h2
      exact h2
    have h4 : cs[off + j]? = some (.int k (zs.getD j 0)) := by simpa [World.cell?, hb] using h3
    rw [h4]
    rw [List.getElem?_map, List.getElem?_take, if_pos hjl] at hj
    rw [List.getD_eq_getElem?_getD]
    cases hzz : zs[j]? with
    | none => rw [hzz] at hj; cases hj
    | some z => rw [hzz] at hj; simpa using hj
theorem row_i64 {w : World} {a : Option Addr} {len cap : Nat} {zs : List Int} (h : (a = none ∧ len = 0 ∧ cap = 0 ∧ zs = []) ∨
    ∃ x, a = some x ∧ len ≤ cap ∧ cap ≤ maxLen ∧ zs.length = cap ∧ (∀ i, i < zs.length → w.cell? (x.add i) = some (.int .i64 (zs.getD i 0))) ∧ ∀ n ∈ zs, (Lit.int .i64 n).wf = true) :
    ∃ l : List Int, Sl (Hp.of w) eI (.slice a len cap) l ∧ l.length = len ∧ len ≤ 9223372036854775807 ∧ ∀ n ∈ l, -9223372036854775808 ≤ n ∧ n ≤ 9223372036854775807 := by
  rcases h with ⟨rfl, rfl, rfl, rfl⟩ | ⟨x, ha, hl, hm, hz, hc, hw⟩
  · exact ⟨[], ⟨none, 0, [], rfl, Nat.le_refl _, trivial, .inl rfl⟩, rfl, by omega, by simp⟩
  · unfold maxLen at hm
    refine ⟨zs.take len, row_sl rfl hz hl ha hc, by simp; omega, by omega, fun n hn => ?_⟩
    have := hw n (List.mem_of_mem_take hn)
    simpa [Lit.wf, IntKind.min, IntKind.max, IntKind.signed, IntKind.bits] using this
theorem row_u8 {w : World} {a : Option Addr} {len cap : Nat} {zs : List Int} (h : (a = none ∧ len = 0 ∧ cap = 0 ∧ zs = []) ∨
    ∃ x, a = some x ∧ len ≤ cap ∧ cap ≤ maxLen ∧ zs.length = cap ∧ (∀ i, i < zs.length → w.cell? (x.add i) = some (.int .u8 (zs.getD i 0))) ∧ ∀ n ∈ zs, (Lit.int .u8 n).wf = true) :
    ∃ l : List UInt8, Sl (Hp.of w) eB (.slice a len cap) l ∧ l.length = len ∧ len ≤ 9223372036854775807 := by
  rcases h with ⟨rfl, rfl, rfl, rfl⟩ | ⟨x, ha, hl, hm, hz, hc, hw⟩
  · exact ⟨[], ⟨none, 0, [], rfl, Nat.le_refl _, trivial, .inl rfl⟩, rfl, by omega⟩
  · unfold maxLen at hm
    refine ⟨(zs.take len).map toB, row_sl ?_ hz hl ha hc, by simp; omega, by omega⟩
    rw [List.map_map]
    refine List.map_congr_left fun n hn => ?_
    show bv (toB n) = _
    rw [bv, toB_wf (hw n (List.mem_of_mem_take hn))]
theorem St.mem_ {W : World} {α : Type} {R : Enc α} {v : Value} {l : List α} {L : List HP} (h : Sl (Hp.of W) R v l) (hS : St W W L) : St W W (Go.Proofs.Ytnjjifikogblpaa.rd R v l :: L) := hS.old h
end Go.Proofs.Ytnjjifikogblpaa
