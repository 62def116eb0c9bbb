/-
  Walks: Value of both.
-/
import Derived.Test.YteeapkfakehocaaMX
namespace Go.Proofs.Yteeapkfakehocaa
open Go Go.RowKit
set_option linter.unusedVariables false
set_option linter.unusedSimpArgs false
set_option maxRecDepth 20000
set_option synthInstance.maxSize 100000
set_option synthInstance.maxHeartbeats 400000
theorem sub_rdCut {L : List HP} {α : Type} {R : Enc α} {A : Option Addr} {n c k : Nat} {l : List α} (h : rd R (.slice A n c) l ∈ L) (hk : k ≤ n) : Sub L (rd R (.slice A k c) (l.take k) :: L) := fun m hp s => by
  obtain ⟨y, hy, q⟩ := s.mem h
  have q : Sl m R (.slice A n c) l := q
  exact ⟨Hp.none, hp, Hp.none_dj _, Hp.none_le _, Hp.le_refl _, q.cut0 hk, s⟩
theorem any_free (b : BX) (l : List BX) : l.any (ovF b) = !freeF b l := by
  unfold freeF
  rw [List.all_eq_not_any_not]
  simp
theorem collF_drop {l : List AK} {p : List Int} {k : Nat} {a : AK} {z : Int} {bx : List BX} {w : Int} (ha : l[k]? = some a) (hz : p[k]? = some z) : collF (l.drop k) (p.drop k) bx w = if z < 0 then collF (l.drop (k + 1)) (p.drop (k + 1)) bx w else if (boxF a z).2 = 0 then collF (l.drop (k + 1)) (p.drop (k + 1)) (bx ++ [(boxF a z).1]) (w + a.g) else (bx, w, (boxF a z).2) := by
  rw [List.drop_eq_getElem_cons (List.getElem?_eq_some_iff.1 ha).1, (List.getElem?_eq_some_iff.1 ha).2, List.drop_eq_getElem_cons (List.getElem?_eq_some_iff.1 hz).1, (List.getElem?_eq_some_iff.1 hz).2]
  rfl
theorem conF_drop {t bs : List BX} {j : Nat} {b : BX} (hb : bs[j]? = some b) : conF t (bs.take j) (bs.drop j) = (!freeF b t || !freeF b (bs.take j) || conF t (bs.take (j + 1)) (bs.drop (j + 1))) := by
  have e : bs.take (j + 1) = bs.take j ++ [b] := by rw [List.take_add_one, hb]; rfl
  rw [List.drop_eq_getElem_cons (List.getElem?_eq_some_iff.1 hb).1, (List.getElem?_eq_some_iff.1 hb).2, e]
  rfl
section
variable {W0 : World} {L : List HP}
theorem value1_ct {z : Int} : CT Try.prog 44 #[.int .i64 z] W0 L fun r L' => r = .bool (decide (z < -1 ∨ 3 < z)) ∧ L' = L := by
  by_cases h1 : z < -1
  · rw [decide_eq_true (.inl h1)]
    refine CT_enter Try.func44 rfl ?_; (simp only [Try.ntmps44, List.size_toArray, List.length_cons, List.length_nil, Nat.reduceAdd, Nat.reduceSub, Array.replicate_succ, Array.replicate_zero, List.push_toArray, List.append_toArray, List.nil_append, List.cons_append])
    repeat' (first | refine go ?_ | intro _ | (apply cG; first | refine cT ?_ | refine cF ?_ | refine cS (fun _ => ?_) fun _ => ?_) | (apply gW; refine sW ?_) | (apply gI; refine sI ?_) | (apply gE; refine sE ?_) | (apply gP; refine sP ?_) | (apply gC; refine sC ?_) | (apply gD; refine sD ?_) | fail)
    refine E_res1 (by rfl) (by rfl) ⟨rfl, rfl⟩ Sb
  by_cases h2 : 3 < z
  · rw [decide_eq_true (.inr h2)]
    refine CT_enter Try.func44 rfl ?_; (simp only [Try.ntmps44, List.size_toArray, List.length_cons, List.length_nil, Nat.reduceAdd, Nat.reduceSub, Array.replicate_succ, Array.replicate_zero, List.push_toArray, List.append_toArray, List.nil_append, List.cons_append])
    repeat' (first | refine go ?_ | intro _ | (apply cG; first | refine cT ?_ | refine cF ?_ | refine cS (fun _ => ?_) fun _ => ?_) | (apply gW; refine sW ?_) | (apply gI; refine sI ?_) | (apply gE; refine sE ?_) | (apply gP; refine sP ?_) | (apply gC; refine sC ?_) | (apply gD; refine sD ?_) | fail)
    refine E_res1 (by rfl) (by rfl) ⟨rfl, rfl⟩ Sb
  · rw [decide_eq_false (fun h => h.elim h1 h2)]
    refine CT_enter Try.func44 rfl ?_; (simp only [Try.ntmps44, List.size_toArray, List.length_cons, List.length_nil, Nat.reduceAdd, Nat.reduceSub, Array.replicate_succ, Array.replicate_zero, List.push_toArray, List.append_toArray, List.nil_append, List.cons_append])
    repeat' (first | refine go ?_ | intro _ | (apply cG; first | refine cT ?_ | refine cF ?_ | refine cS (fun _ => ?_) fun _ => ?_) | (apply gW; refine sW ?_) | (apply gI; refine sI ?_) | (apply gE; refine sE ?_) | (apply gP; refine sP ?_) | (apply gC; refine sC ?_) | (apply gD; refine sD ?_) | fail)
    refine E_res1 (by rfl) (by rfl) ⟨rfl, rfl⟩ Sb
theorem Value_ct {A A2 A3 : Option Addr} {c c2 c3 : Nat} {l : List AK} {t : List BX} {p : List Int} (hv : rd eAK (.slice A l.length c) l ∈ L) (hv2 : rd eBX (.slice A2 t.length c2) t ∈ L) (hv3 : rd eI (.slice A3 p.length c3) p ∈ L) (hpl : p.length ≤ 1000000000) :
    CT Try.prog 21 #[.slice A l.length c, .slice A2 t.length c2, .slice A3 p.length c3] W0 L fun r L' => r = .tuple #[.int .i64 (valF l t p).1, .int .i64 (valF l t p).2] ∧ L' = L := by
  have eg : Enters Try.prog 44 := by first | exact rfl | trivial | (intro a b; rfl)
  refine CT.sub ?_ (sub_dup hv3)
  refine CT.sub ?_ (sub_dup (.tail _ hv2))
  refine CT.sub ?_ (sub_dup (.tail _ (.tail _ hv)))
  by_cases hc : checkF l t = 0
  rotate_left
  · have hp : valF l t p = (0, checkF l t) := if_pos hc
    rw [hp]
    refine CT_enter Try.func21 rfl ?_; (simp only [Try.ntmps21, List.size_toArray, List.length_cons, List.length_nil, Nat.reduceAdd, Nat.reduceSub, Array.replicate_succ, Array.replicate_zero, List.push_toArray, List.append_toArray, List.nil_append, List.cons_append])
    repeat' (first | refine go ?_ | intro _ | (apply cG; first | refine cT ?_ | refine cF ?_ | refine cS (fun _ => ?_) fun _ => ?_) | (apply gW; refine sW ?_) | (apply gI; refine sI ?_) | (apply gE; refine sE ?_) | (apply gP; refine sP ?_) | (apply gC; refine sC ?_) | (apply gD; refine sD ?_) | fail)
    refine O_d (dy_call ArgsI.pf (by first | exact rfl | trivial | (intro a b; rfl)) (check_ct (l := l) (t := t) (by repeat (first | exact .head _ | refine .tail _ ?_)) (by repeat (first | exact .head _ | refine .tail _ ?_)))) ?_; rintro _ _ ⟨_, ⟨rfl, hLL⟩, rfl⟩; replace hLL := hLL.symm; subst hLL; refine O_n ?_
    repeat' (first | refine go ?_ | intro _ | (apply cG; first | refine cT ?_ | refine cF ?_ | refine cS (fun _ => ?_) fun _ => ?_) | (apply gW; refine sW ?_) | (apply gI; refine sI ?_) | (apply gE; refine sE ?_) | (apply gP; refine sP ?_) | (apply gC; refine sC ?_) | (apply gD; refine sD ?_) | fail)
    refine E_res2 (by rfl) (by rfl) ⟨rfl, rfl⟩ Sb
  obtain ⟨hl64, ht256, hg, _⟩ := checkF_0 hc
  by_cases hlen : p.length = l.length
  rotate_left
  · have hp : valF l t p = (0, 1) := by unfold valF; rw [if_neg (by simp [hc]), if_pos (.inl hlen)]
    rw [hp]
    refine CT_enter Try.func21 rfl ?_; (simp only [Try.ntmps21, List.size_toArray, List.length_cons, List.length_nil, Nat.reduceAdd, Nat.reduceSub, Array.replicate_succ, Array.replicate_zero, List.push_toArray, List.append_toArray, List.nil_append, List.cons_append])
    repeat' (first | refine go ?_ | intro _ | (apply cG; first | refine cT ?_ | refine cF ?_ | refine cS (fun _ => ?_) fun _ => ?_) | (apply gW; refine sW ?_) | (apply gI; refine sI ?_) | (apply gE; refine sE ?_) | (apply gP; refine sP ?_) | (apply gC; refine sC ?_) | (apply gD; refine sD ?_) | fail)
    refine O_d (dy_call ArgsI.pf (by first | exact rfl | trivial | (intro a b; rfl)) (check_ct (l := l) (t := t) (by repeat (first | exact .head _ | refine .tail _ ?_)) (by repeat (first | exact .head _ | refine .tail _ ?_)))) ?_; rintro _ _ ⟨_, ⟨rfl, hLL⟩, rfl⟩; replace hLL := hLL.symm; subst hLL; refine O_n ?_
    rw [hc]
    repeat' (first | refine go ?_ | intro _ | (apply cG; first | refine cT ?_ | refine cF ?_ | refine cS (fun _ => ?_) fun _ => ?_) | (apply gW; refine sW ?_) | (apply gI; refine sI ?_) | (apply gE; refine sE ?_) | (apply gP; refine sP ?_) | (apply gC; refine sC ?_) | (apply gD; refine sD ?_) | fail)
    refine E_res2 (by rfl) (by rfl) ⟨rfl, rfl⟩ Sb
  by_cases hin : ∀ z ∈ p, -1 ≤ z ∧ z ≤ 3
  rotate_left
  · have hex : ∃ q ∈ p, q < -1 ∨ 3 < q := Classical.byContradiction fun hn => hin fun z hz => Classical.byContradiction fun h => hn ⟨z, hz, by omega⟩
    have hp : valF l t p = (0, 1) := by unfold valF; rw [if_neg (by simp [hc]), if_pos (.inr hex)]
    have ha : p.any (fun z => decide (z < -1 ∨ 3 < z)) = true := by
      rw [List.any_eq_true]
      obtain ⟨q, hq, h⟩ := hex
      exact ⟨q, hq, decide_eq_true h⟩
    rw [hp]
    refine CT_enter Try.func21 rfl ?_; (simp only [Try.ntmps21, List.size_toArray, List.length_cons, List.length_nil, Nat.reduceAdd, Nat.reduceSub, Array.replicate_succ, Array.replicate_zero, List.push_toArray, List.append_toArray, List.nil_append, List.cons_append])
    repeat' (first | refine go ?_ | intro _ | (apply cG; first | refine cT ?_ | refine cF ?_ | refine cS (fun _ => ?_) fun _ => ?_) | (apply gW; refine sW ?_) | (apply gI; refine sI ?_) | (apply gE; refine sE ?_) | (apply gP; refine sP ?_) | (apply gC; refine sC ?_) | (apply gD; refine sD ?_) | fail)
    refine O_d (dy_call ArgsI.pf (by first | exact rfl | trivial | (intro a b; rfl)) (check_ct (l := l) (t := t) (by repeat (first | exact .head _ | refine .tail _ ?_)) (by repeat (first | exact .head _ | refine .tail _ ?_)))) ?_; rintro _ _ ⟨_, ⟨rfl, hLL⟩, rfl⟩; replace hLL := hLL.symm; subst hLL; refine O_n ?_
    rw [hc]
    repeat' (first | refine go ?_ | intro _ | (apply cG; first | refine cT ?_ | refine cF ?_ | refine cS (fun _ => ?_) fun _ => ?_) | (apply gW; refine sW ?_) | (apply gI; refine sI ?_) | (apply gE; refine sE ?_) | (apply gP; refine sP ?_) | (apply gC; refine sC ?_) | (apply gD; refine sD ?_) | fail)
    refine O_d (dy_call ArgsI.pf (by first | exact rfl | trivial | (intro a b; rfl)) (ConI_ct (φ := fun z => decide (z < -1 ∨ 3 < z)) eg (by repeat (first | exact .head _ | refine .tail _ ?_)) (by omega) (fun x _ => value1_ct))) ?_; rintro _ _ ⟨_, ⟨rfl, hLL⟩, rfl⟩; replace hLL := hLL.symm; subst hLL; refine O_n ?_
    rw [ha]
    repeat' (first | refine go ?_ | intro _ | (apply cG; first | refine cT ?_ | refine cF ?_ | refine cS (fun _ => ?_) fun _ => ?_) | (apply gW; refine sW ?_) | (apply gI; refine sI ?_) | (apply gE; refine sE ?_) | (apply gP; refine sP ?_) | (apply gC; refine sC ?_) | (apply gD; refine sD ?_) | fail)
    refine E_res2 (by rfl) (by rfl) ⟨rfl, rfl⟩ Sb
  have ha : p.any (fun z => decide (z < -1 ∨ 3 < z)) = false := by
    rw [List.any_eq_false]
    intro q hq
    have := hin q hq
    rw [decide_eq_false (by omega)]
    decide
  obtain ⟨R, hR⟩ : ∃ R, collF l p [] 0 = R := ⟨_, rfl⟩
  have hp : valF l t p = if R.2.2 ≠ 0 then (0, R.2.2) else if conF t [] R.1 then (0, 13) else (R.2.1, 0) := by
    unfold valF
    rw [if_neg (by simp [hc]), if_neg, hR]
    rintro (h | ⟨q, hq, h⟩)
    · exact h hlen
    · have := hin q hq
      omega
  rw [hp]
  refine CT_enter Try.func21 rfl ?_; (simp only [Try.ntmps21, List.size_toArray, List.length_cons, List.length_nil, Nat.reduceAdd, Nat.reduceSub, Array.replicate_succ, Array.replicate_zero, List.push_toArray, List.append_toArray, List.nil_append, List.cons_append])
  repeat' (first | refine go ?_ | intro _ | (apply cG; first | refine cT ?_ | refine cF ?_ | refine cS (fun _ => ?_) fun _ => ?_) | (apply gW; refine sW ?_) | (apply gI; refine sI ?_) | (apply gE; refine sE ?_) | (apply gP; refine sP ?_) | (apply gC; refine sC ?_) | (apply gD; refine sD ?_) | fail)
  refine O_d (dy_call ArgsI.pf (by first | exact rfl | trivial | (intro a b; rfl)) (check_ct (l := l) (t := t) (by repeat (first | exact .head _ | refine .tail _ ?_)) (by repeat (first | exact .head _ | refine .tail _ ?_)))) ?_; rintro _ _ ⟨_, ⟨rfl, hLL⟩, rfl⟩; replace hLL := hLL.symm; subst hLL; refine O_n ?_
  rw [hc]
  repeat' (first | refine go ?_ | intro _ | (apply cG; first | refine cT ?_ | refine cF ?_ | refine cS (fun _ => ?_) fun _ => ?_) | (apply gW; refine sW ?_) | (apply gI; refine sI ?_) | (apply gE; refine sE ?_) | (apply gP; refine sP ?_) | (apply gC; refine sC ?_) | (apply gD; refine sD ?_) | fail)
  refine O_d (dy_call ArgsI.pf (by first | exact rfl | trivial | (intro a b; rfl)) (ConI_ct (φ := fun z => decide (z < -1 ∨ 3 < z)) eg (by repeat (first | exact .head _ | refine .tail _ ?_)) (by omega) (fun x _ => value1_ct))) ?_; rintro _ _ ⟨_, ⟨rfl, hLL⟩, rfl⟩; replace hLL := hLL.symm; subst hLL; refine O_n ?_
  rw [ha]
  repeat' (first | refine go ?_ | intro _ | (apply cG; first | refine cT ?_ | refine cF ?_ | refine cS (fun _ => ?_) fun _ => ?_) | (apply gW; refine sW ?_) | (apply gI; refine sI ?_) | (apply gE; refine sE ?_) | (apply gP; refine sP ?_) | (apply gC; refine sC ?_) | (apply gD; refine sD ?_) | fail)
  refine C_ownnil 32 eBX ?_
  refine C_loopS (κ := Nat × List BX × Int × Option Addr × Nat) [false, false, false, false, false, false, true, true, false, true, true, true, true, true, true, false, false, false, false, false, false, false, false, false, false, false, false, false, false, false, false, false, false, false, true, true, true, true, true, true, true, true, true, true, true, true, true, true, true, true, true, true, true, true, true, true, true, true, true, true, true, true, true, true, true, false, false, false, false, false, false, false, false, false, false, false, false, false, false, false, false, false, false, false] (fun k => [(9, .int .i64 k.2.2.1), (10, .slice k.2.2.2.1 k.2.1.length k.2.2.2.2), (34, .int .i64 (k.1 : Int))]) (fun k => [(0, own 32 eBX (.slice k.2.2.2.1 k.2.1.length k.2.2.2.2) k.2.1)]) (fun k => k.1 ≤ l.length ∧ collF (l.drop k.1) (p.drop k.1) k.2.1 k.2.2.1 = R ∧ k.2.1.length ≤ k.1 ∧ 0 ≤ k.2.2.1 ∧ k.2.2.1 ≤ k.1 * 1048576) (fun k => l.length - k.1) (0, [], 0, none, 0) ⟨Nat.zero_le _, hR, Nat.le_refl _, Int.le_refl _, by decide⟩ ⟨rfl, rfl, rfl, trivial⟩ ?_
  rintro ⟨k, bx, w, A4, c4⟩ u ⟨hk, hcl, hbk, hw0, hwk⟩
  dsimp only at hk hcl hbk hw0 hwk
  dsimp only
  ((try dsimp only); refine C_n ?_; (try simp only [Nat.reduceAdd, Nat.zero_add]))
  by_cases hkl : k < l.length
  · obtain ⟨a, hka⟩ : ∃ a, l[k]? = some a := ⟨_, List.getElem?_eq_getElem hkl⟩
    have haa : At l k a := ⟨hka⟩
    obtain ⟨z, hkz⟩ : ∃ z, p[k]? = some z := ⟨_, List.getElem?_eq_getElem (by omega)⟩
    have haz : At p k z := ⟨hkz⟩
    have hag := (hg a (List.mem_of_getElem? hka)).2.2.2.2
    rw [collF_drop hka hkz] at hcl
    by_cases hz0 : z < 0
    · rw [if_pos hz0] at hcl
      repeat' (first | refine go ?_ | intro _ | (apply cG; first | refine cT ?_ | refine cF ?_ | refine cS (fun _ => ?_) fun _ => ?_) | (apply gW; refine sW ?_) | (apply gI; refine sI ?_) | (apply gE; refine sE ?_) | (apply gP; refine sP ?_) | (apply gC; refine sC ?_) | (apply gD; refine sD ?_) | fail)
      exact E_round (k + 1, bx, w, A4, c4) ⟨hkl, hcl, by dsimp only; omega, hw0, by dsimp only; omega⟩ (by dsimp only; omega) ⟨rfl, rfl, rfl, trivial⟩ Sb
    rw [if_neg hz0] at hcl
    obtain ⟨⟨b, e⟩, hbe⟩ : ∃ be, boxF a z = be := ⟨_, rfl⟩
    rw [hbe] at hcl
    dsimp only at hcl
    repeat' (first | refine go ?_ | intro _ | (apply cG; first | refine cT ?_ | refine cF ?_ | refine cS (fun _ => ?_) fun _ => ?_) | (apply gW; refine sW ?_) | (apply gI; refine sI ?_) | (apply gE; refine sE ?_) | (apply gP; refine sP ?_) | (apply gC; refine sC ?_) | (apply gD; refine sD ?_) | fail)
    refine O_d (dy_call ArgsI.pf (by first | exact rfl | trivial | (intro a b; rfl)) (Box_ct (a := a) (p := z))) ?_; rintro _ _ ⟨_, ⟨rfl, hLL⟩, rfl⟩; replace hLL := hLL.symm; subst hLL; refine O_n ?_
    rw [hbe]
    dsimp only
    by_cases he : e = 0
    rotate_left
    · rw [if_neg he] at hcl
      subst hcl
      rw [if_pos he]
      repeat' (first | refine go ?_ | intro _ | (apply cG; first | refine cT ?_ | refine cF ?_ | refine cS (fun _ => ?_) fun _ => ?_) | (apply gW; refine sW ?_) | (apply gI; refine sI ?_) | (apply gE; refine sE ?_) | (apply gP; refine sP ?_) | (apply gC; refine sC ?_) | (apply gD; refine sD ?_) | fail)
      refine E_res2 (by rfl) (by rfl) ⟨rfl, rfl⟩ Sb
    rw [if_pos he] at hcl
    repeat' (first | refine go ?_ | intro _ | (apply cG; first | refine cT ?_ | refine cF ?_ | refine cS (fun _ => ?_) fun _ => ?_) | (apply gW; refine sW ?_) | (apply gI; refine sI ?_) | (apply gE; refine sE ?_) | (apply gP; refine sP ?_) | (apply gC; refine sC ?_) | (apply gD; refine sD ?_) | fail)
    rename_i p13
    refine C_draw (n := 99) [cel p13 [.int .i64 b.x0, .int .i64 b.y0, .int .i64 b.x1, .int .i64 b.y1] 32, rd eAK (.slice A l.length c) l] [(0, 1), (1, 1), (2, 1), (3, 1), (4, 1), (5, 1), (6, 1), (7, 1), (8, 1), (9, 0), (10, 0), (11, 1), (12, 1)] (by kernel_rfl) (by kernel_rfl) Sb ?_
    repeat' (first | refine go ?_ | intro _ | (apply cG; first | refine cT ?_ | refine cF ?_ | refine cS (fun _ => ?_) fun _ => ?_) | (apply gW; refine sW ?_) | (apply gI; refine sI ?_) | (apply gE; refine sE ?_) | (apply gP; refine sP ?_) | (apply gC; refine sC ?_) | (apply gD; refine sD ?_) | fail)
    refine D_d rfl (dy_lit1 (R := eBX) b (hcs := by rfl) (hel := fun _ _ _ => by rfl)) ?_; rintro _ _ ⟨_, rfl, rfl⟩; refine ⟨(by first | exact .inl rfl | exact .inr Sb), D_n ?_⟩
    repeat' (first | refine go ?_ | intro _ | (apply cG; first | refine cT ?_ | refine cF ?_ | refine cS (fun _ => ?_) fun _ => ?_) | (apply gW; refine sW ?_) | (apply gI; refine sI ?_) | (apply gE; refine sE ?_) | (apply gP; refine sP ?_) | (apply gC; refine sC ?_) | (apply gD; refine sD ?_) | fail)
    rename_i A5 c5
    exact E_round (k + 1, bx ++ [b], w + a.g, A5, c5) ⟨hkl, hcl, by dsimp only; rw [List.length_append]; exact Nat.succ_le_succ hbk, by dsimp only; omega, by dsimp only; omega⟩ (by dsimp only; omega) ⟨rfl, by dsimp only; rw [List.length_append]; rfl, rfl, trivial⟩ (by dsimp only; rw [List.length_append]; exact Sb)
  obtain rfl : k = l.length := by omega
  rw [List.drop_length] at hcl
  replace hcl : (bx, w, 0) = R := hcl
  subst hcl
  rw [if_neg (by simp)]
  dsimp only
  repeat' (first | refine go ?_ | intro _ | (apply cG; first | refine cT ?_ | refine cF ?_ | refine cS (fun _ => ?_) fun _ => ?_) | (apply gW; refine sW ?_) | (apply gI; refine sI ?_) | (apply gE; refine sE ?_) | (apply gP; refine sP ?_) | (apply gC; refine sC ?_) | (apply gD; refine sD ?_) | fail)
  refine C_cap 0 fun hcap => ?_
  refine C_frz 0 ?_
  refine C_loopS (κ := Nat) [false, false, false, false, false, false, true, true, false, false, false, false, false, false, false, true, true, false, false, false, false, false, false, false, false, false, false, false, false, false, false, false, false, false, false, false, false, false, false, false, false, false, false, false, false, false, false, false, false, false, false, false, false, false, false, false, false, false, false, false, false, false, false, false, false, false, false, true, true, true, true, true, true, true, true, true, true, true, true, true, true, true, true, false] (fun k => [(67, .int .i64 (k : Int))]) (fun k => []) (fun k => k ≤ bx.length ∧ conF t (bx.take k) (bx.drop k) = conF t [] bx) (fun k => bx.length - k) 0 ⟨Nat.zero_le _, rfl⟩ ⟨rfl, trivial⟩ ?_
  rintro j u2 ⟨hj, hcf⟩
  ((try dsimp only); refine C_n ?_; (try simp only [Nat.reduceAdd, Nat.zero_add]))
  by_cases hjl : j < bx.length
  rotate_left
  · obtain rfl : j = bx.length := by omega
    rw [List.drop_length] at hcf
    replace hcf : false = conF t [] bx := hcf
    rw [← hcf, if_neg (by simp)]
    repeat' (first | refine go ?_ | intro _ | (apply cG; first | refine cT ?_ | refine cF ?_ | refine cS (fun _ => ?_) fun _ => ?_) | (apply gW; refine sW ?_) | (apply gI; refine sI ?_) | (apply gE; refine sE ?_) | (apply gP; refine sP ?_) | (apply gC; refine sC ?_) | (apply gD; refine sD ?_) | fail)
    refine E_res2 (by rfl) (by rfl) ⟨rfl, rfl⟩ Sb
  obtain ⟨b, hbj⟩ : ∃ b, bx[j]? = some b := ⟨_, List.getElem?_eq_getElem hjl⟩
  have hab : At bx j b := ⟨hbj⟩
  rw [conF_drop hbj] at hcf
  refine C_sub (sub_rdCut (k := j) (.head _) (by omega)) ?_
  obtain ⟨pre, hpre⟩ : ∃ pre, bx.take j = pre := ⟨_, rfl⟩
  have hplen : pre.length = j := by rw [← hpre, List.length_take]; omega
  rw [hpre] at hcf ⊢
  subst hplen
  repeat' (first | refine go ?_ | intro _ | (apply cG; first | refine cT ?_ | refine cF ?_ | refine cS (fun _ => ?_) fun _ => ?_) | (apply gW; refine sW ?_) | (apply gI; refine sI ?_) | (apply gE; refine sE ?_) | (apply gP; refine sP ?_) | (apply gC; refine sC ?_) | (apply gD; refine sD ?_) | fail)
  rename_i p16
  refine C_draw (n := 99) [cel p16 [.int .i64 b.x0, .int .i64 b.y0, .int .i64 b.x1, .int .i64 b.y1] 32, rd eBX (.slice A2 t.length c2) t, rd eBX (.slice A4 bx.length c4) bx] [(0, 1), (1, 1), (2, 0), (3, 1), (4, 1), (5, 1), (6, 1), (7, 1), (8, 0), (9, 1)] (by kernel_rfl) (by kernel_rfl) Sb ?_
  repeat' (first | refine go ?_ | intro _ | (apply cG; first | refine cT ?_ | refine cF ?_ | refine cS (fun _ => ?_) fun _ => ?_) | (apply gW; refine sW ?_) | (apply gI; refine sI ?_) | (apply gE; refine sE ?_) | (apply gP; refine sP ?_) | (apply gC; refine sC ?_) | (apply gD; refine sD ?_) | fail)
  refine D_op rfl ?_; refine X_d (dy_call ArgsI.pf (by first | exact rfl | trivial | (intro a b; rfl)) (overlaps_ct (a := b) (l := t) (by repeat (first | exact .head _ | refine .tail _ ?_)) (by omega))) ?_; rintro _ _ ⟨_, ⟨rfl, hLL⟩, rfl⟩; replace hLL := hLL.symm; subst hLL; refine ⟨(by first | exact .inl rfl | exact .inr Sb), D_n ?_⟩
  rw [any_free]
  by_cases hf1 : freeF b t = true
  rotate_left
  · rw [Bool.not_eq_true] at hf1
    rw [hf1] at hcf ⊢
    replace hcf : true = conF t [] bx := hcf
    rw [← hcf, if_pos rfl, Bool.not_false]
    repeat' (first | refine go ?_ | intro _ | (apply cG; first | refine cT ?_ | refine cF ?_ | refine cS (fun _ => ?_) fun _ => ?_) | (apply gW; refine sW ?_) | (apply gI; refine sI ?_) | (apply gE; refine sE ?_) | (apply gP; refine sP ?_) | (apply gC; refine sC ?_) | (apply gD; refine sD ?_) | fail)
    refine D_op rfl ?_; refine X_o0 Sb ?_
    repeat' (first | refine go ?_ | intro _ | (apply cG; first | refine cT ?_ | refine cF ?_ | refine cS (fun _ => ?_) fun _ => ?_) | (apply gW; refine sW ?_) | (apply gI; refine sI ?_) | (apply gE; refine sE ?_) | (apply gP; refine sP ?_) | (apply gC; refine sC ?_) | (apply gD; refine sD ?_) | fail)
    refine E_res2 (by rfl) (by rfl) ⟨rfl, rfl⟩ Sb
  rw [hf1] at hcf ⊢
  rw [Bool.not_true]
  repeat' (first | refine go ?_ | intro _ | (apply cG; first | refine cT ?_ | refine cF ?_ | refine cS (fun _ => ?_) fun _ => ?_) | (apply gW; refine sW ?_) | (apply gI; refine sI ?_) | (apply gE; refine sE ?_) | (apply gP; refine sP ?_) | (apply gC; refine sC ?_) | (apply gD; refine sD ?_) | fail)
  refine D_op rfl ?_; refine X_s (sv_sliceH (n := bx.length) (c := c4) (h' := pre.length)) ?_
  repeat' (first | refine go ?_ | intro _ | (apply cG; first | refine cT ?_ | refine cF ?_ | refine cS (fun _ => ?_) fun _ => ?_) | (apply gW; refine sW ?_) | (apply gI; refine sI ?_) | (apply gE; refine sE ?_) | (apply gP; refine sP ?_) | (apply gC; refine sC ?_) | (apply gD; refine sD ?_) | fail)
  refine D_op rfl ?_; refine X_d (dy_call ArgsI.pf (by first | exact rfl | trivial | (intro a b; rfl)) (overlaps_ct (a := b) (l := pre) (by repeat (first | exact .head _ | refine .tail _ ?_)) (by omega))) ?_; rintro _ _ ⟨_, ⟨rfl, hLL⟩, rfl⟩; replace hLL := hLL.symm; subst hLL; refine ⟨(by first | exact .inl rfl | exact .inr Sb), D_n ?_⟩
  rw [any_free]
  by_cases hf2 : freeF b pre = true
  rotate_left
  · rw [Bool.not_eq_true] at hf2
    rw [hf2] at hcf ⊢
    replace hcf : true = conF t [] bx := hcf
    rw [← hcf, if_pos rfl, Bool.not_false]
    repeat' (first | refine go ?_ | intro _ | (apply cG; first | refine cT ?_ | refine cF ?_ | refine cS (fun _ => ?_) fun _ => ?_) | (apply gW; refine sW ?_) | (apply gI; refine sI ?_) | (apply gE; refine sE ?_) | (apply gP; refine sP ?_) | (apply gC; refine sC ?_) | (apply gD; refine sD ?_) | fail)
    refine E_res2 (by rfl) (by rfl) ⟨rfl, rfl⟩ Sb
  rw [hf2] at hcf ⊢
  rw [Bool.not_true]
  repeat' (first | refine go ?_ | intro _ | (apply cG; first | refine cT ?_ | refine cF ?_ | refine cS (fun _ => ?_) fun _ => ?_) | (apply gW; refine sW ?_) | (apply gI; refine sI ?_) | (apply gE; refine sE ?_) | (apply gP; refine sP ?_) | (apply gC; refine sC ?_) | (apply gD; refine sD ?_) | fail)
  exact E_round (pre.length + 1) ⟨hjl, hcf⟩ (by omega) ⟨rfl, trivial⟩ Sb
theorem rValue_ct {A A2 A3 : Option Addr} {c c2 c3 : Nat} {l : List AK} {t : List BX} {p : List Int} (hv : rd eAK (.slice A l.length c) l ∈ L) (hv2 : rd eBX (.slice A2 t.length c2) t ∈ L) (hv3 : rd eI (.slice A3 p.length c3) p ∈ L) (hpl : p.length ≤ 1000000000) :
    CT Try.prog 22 #[.slice A l.length c, .slice A2 t.length c2, .slice A3 p.length c3] W0 L fun r L' => r = .tuple #[.int .i64 (valF l t p).1, .int .i64 (valF l t p).2] ∧ L' = L := by
  refine CT.sub ?_ (sub_dup hv3)
  refine CT.sub ?_ (sub_dup (.tail _ hv2))
  refine CT.sub ?_ (sub_dup (.tail _ (.tail _ hv)))
  by_cases hc : checkF l t = 0
  rotate_left
  · have hp : valF l t p = (0, checkF l t) := if_pos hc
    rw [hp]
    refine CT_enter Try.func22 rfl ?_; (simp only [Try.ntmps22, List.size_toArray, List.length_cons, List.length_nil, Nat.reduceAdd, Nat.reduceSub, Array.replicate_succ, Array.replicate_zero, List.push_toArray, List.append_toArray, List.nil_append, List.cons_append])
    repeat' (first | refine go ?_ | intro _ | (apply cG; first | refine cT ?_ | refine cF ?_ | refine cS (fun _ => ?_) fun _ => ?_) | (apply gW; refine sW ?_) | (apply gI; refine sI ?_) | (apply gE; refine sE ?_) | (apply gP; refine sP ?_) | (apply gC; refine sC ?_) | (apply gD; refine sD ?_) | fail)
    refine O_d (dy_call ArgsI.pf (by first | exact rfl | trivial | (intro a b; rfl)) (rValid_ct (l := l) (t := t) (by repeat (first | exact .head _ | refine .tail _ ?_)) (by repeat (first | exact .head _ | refine .tail _ ?_)))) ?_; rintro _ _ ⟨_, ⟨rfl, hLL⟩, rfl⟩; replace hLL := hLL.symm; subst hLL; refine O_n ?_
    repeat' (first | refine go ?_ | intro _ | (apply cG; first | refine cT ?_ | refine cF ?_ | refine cS (fun _ => ?_) fun _ => ?_) | (apply gW; refine sW ?_) | (apply gI; refine sI ?_) | (apply gE; refine sE ?_) | (apply gP; refine sP ?_) | (apply gC; refine sC ?_) | (apply gD; refine sD ?_) | fail)
    refine E_res2 (by rfl) (by rfl) ⟨rfl, rfl⟩ Sb
  obtain ⟨hl64, ht256, hg, _⟩ := checkF_0 hc
  by_cases hlen : p.length = l.length
  rotate_left
  · have hp : valF l t p = (0, 1) := by unfold valF; rw [if_neg (by simp [hc]), if_pos (.inl hlen)]
    rw [hp]
    refine CT_enter Try.func22 rfl ?_; (simp only [Try.ntmps22, List.size_toArray, List.length_cons, List.length_nil, Nat.reduceAdd, Nat.reduceSub, Array.replicate_succ, Array.replicate_zero, List.push_toArray, List.append_toArray, List.nil_append, List.cons_append])
    repeat' (first | refine go ?_ | intro _ | (apply cG; first | refine cT ?_ | refine cF ?_ | refine cS (fun _ => ?_) fun _ => ?_) | (apply gW; refine sW ?_) | (apply gI; refine sI ?_) | (apply gE; refine sE ?_) | (apply gP; refine sP ?_) | (apply gC; refine sC ?_) | (apply gD; refine sD ?_) | fail)
    refine O_d (dy_call ArgsI.pf (by first | exact rfl | trivial | (intro a b; rfl)) (rValid_ct (l := l) (t := t) (by repeat (first | exact .head _ | refine .tail _ ?_)) (by repeat (first | exact .head _ | refine .tail _ ?_)))) ?_; rintro _ _ ⟨_, ⟨rfl, hLL⟩, rfl⟩; replace hLL := hLL.symm; subst hLL; refine O_n ?_
    rw [hc]
    repeat' (first | refine go ?_ | intro _ | (apply cG; first | refine cT ?_ | refine cF ?_ | refine cS (fun _ => ?_) fun _ => ?_) | (apply gW; refine sW ?_) | (apply gI; refine sI ?_) | (apply gE; refine sE ?_) | (apply gP; refine sP ?_) | (apply gC; refine sC ?_) | (apply gD; refine sD ?_) | fail)
    refine E_res2 (by rfl) (by rfl) ⟨rfl, rfl⟩ Sb
  refine CT_enter Try.func22 rfl ?_; (simp only [Try.ntmps22, List.size_toArray, List.length_cons, List.length_nil, Nat.reduceAdd, Nat.reduceSub, Array.replicate_succ, Array.replicate_zero, List.push_toArray, List.append_toArray, List.nil_append, List.cons_append])
  repeat' (first | refine go ?_ | intro _ | (apply cG; first | refine cT ?_ | refine cF ?_ | refine cS (fun _ => ?_) fun _ => ?_) | (apply gW; refine sW ?_) | (apply gI; refine sI ?_) | (apply gE; refine sE ?_) | (apply gP; refine sP ?_) | (apply gC; refine sC ?_) | (apply gD; refine sD ?_) | fail)
  refine O_d (dy_call ArgsI.pf (by first | exact rfl | trivial | (intro a b; rfl)) (rValid_ct (l := l) (t := t) (by repeat (first | exact .head _ | refine .tail _ ?_)) (by repeat (first | exact .head _ | refine .tail _ ?_)))) ?_; rintro _ _ ⟨_, ⟨rfl, hLL⟩, rfl⟩; replace hLL := hLL.symm; subst hLL; refine O_n ?_
  rw [hc]
  repeat' (first | refine go ?_ | intro _ | (apply cG; first | refine cT ?_ | refine cF ?_ | refine cS (fun _ => ?_) fun _ => ?_) | (apply gW; refine sW ?_) | (apply gI; refine sI ?_) | (apply gE; refine sE ?_) | (apply gP; refine sP ?_) | (apply gC; refine sC ?_) | (apply gD; refine sD ?_) | fail)
  refine C_loopS (κ := Nat) [false, false, false, false, false, false, true, true, false, true, false, false, false, false, false, false, false, false, false, false, false, false, false, false, false, false, false, true, true, true, true, true, true, true, true, true, true, true, true, true, true, true, true, true, true, false, false, false, false, false, false, false, false, false, false, false, false, false, false, false, false, false, false, false, false, false, false, false, false, false, false, false, false, false, false, false, false, false, false, false, false, false, false, false, false, false, false, false, false, false, false, false, false, false, false, false, false, false, false, false, false, false, false, false, false, false, false] (fun k => [(9, .int .i64 (k : Int))]) (fun k => []) (fun k => k ≤ l.length ∧ ∀ j z, j < k → p[j]? = some z → -1 ≤ z ∧ z ≤ 3) (fun k => l.length - k) 0 ⟨Nat.zero_le _, fun j z h => absurd h (Nat.not_lt_zero _)⟩ ⟨rfl, trivial⟩ ?_
  rintro k u ⟨hk, hok⟩
  ((try dsimp only); refine C_n ?_; (try simp only [Nat.reduceAdd, Nat.zero_add]))
  by_cases hkl : k < l.length
  · obtain ⟨z, hkz⟩ : ∃ z, p[k]? = some z := ⟨_, List.getElem?_eq_getElem (by omega)⟩
    have haz : At p k z := ⟨hkz⟩
    by_cases hz : -1 ≤ z ∧ z ≤ 3
    · repeat' (first | refine go ?_ | intro _ | (apply cG; first | refine cT ?_ | refine cF ?_ | refine cS (fun _ => ?_) fun _ => ?_) | (apply gW; refine sW ?_) | (apply gI; refine sI ?_) | (apply gE; refine sE ?_) | (apply gP; refine sP ?_) | (apply gC; refine sC ?_) | (apply gD; refine sD ?_) | fail)
      exact E_round (k + 1) ⟨hkl, fun j z' hj hz' => by
        by_cases e : j = k
        · rw [e, hkz] at hz'
          rw [← Option.some.inj hz']
          exact hz
        · exact hok j z' (by omega) hz'⟩ (by omega) ⟨rfl, trivial⟩ Sb
    · have hp : valF l t p = (0, 1) := by unfold valF; rw [if_neg (by simp [hc]), if_pos (.inr ⟨z, List.mem_of_getElem? hkz, by omega⟩)]
      rw [hp]
      by_cases hz1 : z < -1
      · repeat' (first | refine go ?_ | intro _ | (apply cG; first | refine cT ?_ | refine cF ?_ | refine cS (fun _ => ?_) fun _ => ?_) | (apply gW; refine sW ?_) | (apply gI; refine sI ?_) | (apply gE; refine sE ?_) | (apply gP; refine sP ?_) | (apply gC; refine sC ?_) | (apply gD; refine sD ?_) | fail)
        refine E_res2 (by rfl) (by rfl) ⟨rfl, rfl⟩ Sb
      · repeat' (first | refine go ?_ | intro _ | (apply cG; first | refine cT ?_ | refine cF ?_ | refine cS (fun _ => ?_) fun _ => ?_) | (apply gW; refine sW ?_) | (apply gI; refine sI ?_) | (apply gE; refine sE ?_) | (apply gP; refine sP ?_) | (apply gC; refine sC ?_) | (apply gD; refine sD ?_) | fail)
        refine E_res2 (by rfl) (by rfl) ⟨rfl, rfl⟩ Sb
  obtain rfl : k = l.length := by omega
  have hin : ∀ z ∈ p, -1 ≤ z ∧ z ≤ 3 := fun z hz => by
    obtain ⟨j, hj⟩ := List.getElem?_of_mem hz
    have := (List.getElem?_eq_some_iff.1 hj).1
    exact hok j z (by omega) hj
  obtain ⟨R, hR⟩ : ∃ R, collF l p [] 0 = R := ⟨_, rfl⟩
  have hp : valF l t p = if R.2.2 ≠ 0 then (0, R.2.2) else if conF t [] R.1 then (0, 13) else (R.2.1, 0) := by
    unfold valF
    rw [if_neg (by simp [hc]), if_neg, hR]
    rintro (h | ⟨q, hq, h⟩)
    · exact h hlen
    · have := hin q hq
      omega
  rw [hp]
  repeat' (first | refine go ?_ | intro _ | (apply cG; first | refine cT ?_ | refine cF ?_ | refine cS (fun _ => ?_) fun _ => ?_) | (apply gW; refine sW ?_) | (apply gI; refine sI ?_) | (apply gE; refine sE ?_) | (apply gP; refine sP ?_) | (apply gC; refine sC ?_) | (apply gD; refine sD ?_) | fail)
  refine C_ownnil 32 eBX ?_
  refine C_loopS (κ := Nat × List BX × Int × Option Addr × Nat) [false, false, false, false, false, false, true, true, false, false, true, true, true, true, true, false, false, false, false, false, false, false, false, false, false, false, false, false, false, false, false, false, false, false, false, false, false, false, false, false, false, false, false, false, false, true, true, true, true, true, true, true, true, true, true, true, true, true, true, true, true, true, true, true, true, true, true, true, true, true, true, true, true, true, true, true, true, true, true, true, true, true, false, false, false, false, false, false, false, false, false, false, false, false, false, false, false, false, false, false, false, false, false, false, false, false, false] (fun k => [(11, .int .i64 k.2.2.1), (10, .slice k.2.2.2.1 k.2.1.length k.2.2.2.2), (12, .int .i64 (k.1 : Int))]) (fun k => [(0, own 32 eBX (.slice k.2.2.2.1 k.2.1.length k.2.2.2.2) k.2.1)]) (fun k => k.1 ≤ l.length ∧ collF (l.drop k.1) (p.drop k.1) k.2.1 k.2.2.1 = R ∧ k.2.1.length ≤ k.1 ∧ 0 ≤ k.2.2.1 ∧ k.2.2.1 ≤ k.1 * 1048576) (fun k => l.length - k.1) (0, [], 0, none, 0) ⟨Nat.zero_le _, hR, Nat.le_refl _, Int.le_refl _, by decide⟩ ⟨rfl, rfl, rfl, trivial⟩ ?_
  rintro ⟨k, bx, w, A4, c4⟩ u ⟨hk, hcl, hbk, hw0, hwk⟩
  dsimp only at hk hcl hbk hw0 hwk
  dsimp only
  ((try dsimp only); refine C_n ?_; (try simp only [Nat.reduceAdd, Nat.zero_add]))
  by_cases hkl : k < l.length
  · obtain ⟨a, hka⟩ : ∃ a, l[k]? = some a := ⟨_, List.getElem?_eq_getElem hkl⟩
    have haa : At l k a := ⟨hka⟩
    obtain ⟨z, hkz⟩ : ∃ z, p[k]? = some z := ⟨_, List.getElem?_eq_getElem (by omega)⟩
    have haz : At p k z := ⟨hkz⟩
    have hag := (hg a (List.mem_of_getElem? hka)).2.2.2.2
    rw [collF_drop hka hkz] at hcl
    by_cases hz0 : z < 0
    · rw [if_pos hz0] at hcl
      repeat' (first | refine go ?_ | intro _ | (apply cG; first | refine cT ?_ | refine cF ?_ | refine cS (fun _ => ?_) fun _ => ?_) | (apply gW; refine sW ?_) | (apply gI; refine sI ?_) | (apply gE; refine sE ?_) | (apply gP; refine sP ?_) | (apply gC; refine sC ?_) | (apply gD; refine sD ?_) | fail)
      exact E_round (k + 1, bx, w, A4, c4) ⟨hkl, hcl, by dsimp only; omega, hw0, by dsimp only; omega⟩ (by dsimp only; omega) ⟨rfl, rfl, rfl, trivial⟩ Sb
    rw [if_neg hz0] at hcl
    obtain ⟨⟨b, e⟩, hbe⟩ : ∃ be, boxF a z = be := ⟨_, rfl⟩
    rw [hbe] at hcl
    dsimp only at hcl
    repeat' (first | refine go ?_ | intro _ | (apply cG; first | refine cT ?_ | refine cF ?_ | refine cS (fun _ => ?_) fun _ => ?_) | (apply gW; refine sW ?_) | (apply gI; refine sI ?_) | (apply gE; refine sE ?_) | (apply gP; refine sP ?_) | (apply gC; refine sC ?_) | (apply gD; refine sD ?_) | fail)
    refine C_joinL (κ := Nat) (fun q => cel q [.int .i64 b.x0, .int .i64 b.y0, .int .i64 b.x1, .int .i64 b.y1] 32 :: own 32 eBX (.slice A4 bx.length c4) bx :: rd eAK (.slice A l.length c) l :: rd eBX (.slice A2 t.length c2) t :: rd eI (.slice A3 p.length c3) p :: L) [false, false, false, false, false, false, false, false, false, false, false, false, false, true, true, false, false, false, false, false, false, false, false, false, false, false, false, false, false, false, false, false, false, false, false, false, false, false, false, false, false, false, false, false, false, false, false, false, false, false, false, false, false, false, false, false, true, true, true, true, true, true, true, true, true, true, true, true, false, false, false, false, false, false, false, false, false, false, false, false, false, false, false, false, false, false, false, false, false, false, false, false, false, false, false, false, false, false, false, false, false, false, false, false, false, false, false] (fun q => [(13, .pointer (some ⟨q, 0, none⟩)), (14, .int .i64 e)]) (fun _ => True) ?_ ?_
    · refine C_drawT (n := 99) [rd eAK (.slice A l.length c) l, rd eI (.slice A3 p.length c3) p] (.two [(0, 1), (1, 1), (2, 1), (3, 1), (4, 1), (5, 1), (6, 1), (7, 1)] 8 (.leaf [(9, 1), (10, 1), (11, 1), (12, 0), (13, 0), (14, 1)]) 12 (.leaf [(8, 0), (9, 1), (10, 1), (11, 1), (13, 0), (14, 1)])) (by kernel_rfl) (by kernel_rfl) Sb ?_
      refine DT_two ?_
      repeat' (first | refine go ?_ | intro _ | (apply cG; first | refine cT ?_ | refine cF ?_ | refine cS (fun _ => ?_) fun _ => ?_) | (apply gW; refine sW ?_) | (apply gI; refine sI ?_) | (apply gE; refine sE ?_) | (apply gP; refine sP ?_) | (apply gC; refine sC ?_) | (apply gD; refine sD ?_) | fail)
      refine E_two ?_ ?_
      · refine D_op rfl ?_; refine X_d (dy_call ArgsI.pf (by first | exact rfl | trivial | (intro a b; rfl)) (rBox_ct (a := a) (p := z))) ?_; rintro _ _ ⟨_, ⟨rfl, hLL⟩, rfl⟩; replace hLL := hLL.symm; subst hLL; refine ⟨(by first | exact .inl rfl | exact .inr Sb), D_n ?_⟩
        rw [hbe]
        dsimp only
        repeat' (first | refine go ?_ | intro _ | (apply cG; first | refine cT ?_ | refine cF ?_ | refine cS (fun _ => ?_) fun _ => ?_) | (apply gW; refine sW ?_) | (apply gI; refine sI ?_) | (apply gE; refine sE ?_) | (apply gP; refine sP ?_) | (apply gC; refine sC ?_) | (apply gD; refine sD ?_) | fail)
        refine E_way (DT_leaf ?_)
        repeat' (first | refine go ?_ | intro _ | (apply cG; first | refine cT ?_ | refine cF ?_ | refine cS (fun _ => ?_) fun _ => ?_) | (apply gW; refine sW ?_) | (apply gI; refine sI ?_) | (apply gE; refine sE ?_) | (apply gP; refine sP ?_) | (apply gC; refine sC ?_) | (apply gD; refine sD ?_) | fail)
        rename_i q
        exact E_join q trivial ⟨rfl, rfl, trivial⟩
      · repeat' (first | refine go ?_ | intro _ | (apply cG; first | refine cT ?_ | refine cF ?_ | refine cS (fun _ => ?_) fun _ => ?_) | (apply gW; refine sW ?_) | (apply gI; refine sI ?_) | (apply gE; refine sE ?_) | (apply gP; refine sP ?_) | (apply gC; refine sC ?_) | (apply gD; refine sD ?_) | fail)
        refine E_way (DT_leaf ?_)
        refine D_op rfl ?_; refine X_d (dy_call ArgsI.pf (by first | exact rfl | trivial | (intro a b; rfl)) (rBox_ct (a := a) (p := z))) ?_; rintro _ _ ⟨_, ⟨rfl, hLL⟩, rfl⟩; replace hLL := hLL.symm; subst hLL; refine ⟨(by first | exact .inl rfl | exact .inr Sb), D_n ?_⟩
        rw [hbe]
        dsimp only
        repeat' (first | refine go ?_ | intro _ | (apply cG; first | refine cT ?_ | refine cF ?_ | refine cS (fun _ => ?_) fun _ => ?_) | (apply gW; refine sW ?_) | (apply gI; refine sI ?_) | (apply gE; refine sE ?_) | (apply gP; refine sP ?_) | (apply gC; refine sC ?_) | (apply gD; refine sD ?_) | fail)
        rename_i q
        exact E_join q trivial ⟨rfl, rfl, trivial⟩
    rintro p13 u5 _
    ((try dsimp only); refine C_n ?_; (try simp only [Nat.reduceAdd, Nat.zero_add]))
    by_cases he : e = 0
    rotate_left
    · rw [if_neg he] at hcl
      subst hcl
      rw [if_pos he]
      repeat' (first | refine go ?_ | intro _ | (apply cG; first | refine cT ?_ | refine cF ?_ | refine cS (fun _ => ?_) fun _ => ?_) | (apply gW; refine sW ?_) | (apply gI; refine sI ?_) | (apply gE; refine sE ?_) | (apply gP; refine sP ?_) | (apply gC; refine sC ?_) | (apply gD; refine sD ?_) | fail)
      refine E_res2 (by rfl) (by rfl) ⟨rfl, rfl⟩ Sb
    rw [if_pos he] at hcl
    repeat' (first | refine go ?_ | intro _ | (apply cG; first | refine cT ?_ | refine cF ?_ | refine cS (fun _ => ?_) fun _ => ?_) | (apply gW; refine sW ?_) | (apply gI; refine sI ?_) | (apply gE; refine sE ?_) | (apply gP; refine sP ?_) | (apply gC; refine sC ?_) | (apply gD; refine sD ?_) | fail)
    refine O_d (dy_lit1 (R := eBX) b (hcs := by rfl) (hel := fun _ _ _ => by rfl)) ?_; rintro _ _ ⟨_, rfl, rfl⟩; refine O_n ?_
    repeat' (first | refine go ?_ | intro _ | (apply cG; first | refine cT ?_ | refine cF ?_ | refine cS (fun _ => ?_) fun _ => ?_) | (apply gW; refine sW ?_) | (apply gI; refine sI ?_) | (apply gE; refine sE ?_) | (apply gP; refine sP ?_) | (apply gC; refine sC ?_) | (apply gD; refine sD ?_) | fail)
    rename_i A5 c5
    exact E_round (k + 1, bx ++ [b], w + a.g, A5, c5) ⟨hkl, hcl, by dsimp only; rw [List.length_append]; exact Nat.succ_le_succ hbk, by dsimp only; omega, by dsimp only; omega⟩ (by dsimp only; omega) ⟨rfl, by dsimp only; rw [List.length_append]; rfl, rfl, trivial⟩ (by dsimp only; rw [List.length_append]; exact Sb)
  obtain rfl : k = l.length := by omega
  rw [List.drop_length] at hcl
  replace hcl : (bx, w, 0) = R := hcl
  subst hcl
  rw [if_neg (by simp)]
  dsimp only
  repeat' (first | refine go ?_ | intro _ | (apply cG; first | refine cT ?_ | refine cF ?_ | refine cS (fun _ => ?_) fun _ => ?_) | (apply gW; refine sW ?_) | (apply gI; refine sI ?_) | (apply gE; refine sE ?_) | (apply gP; refine sP ?_) | (apply gC; refine sC ?_) | (apply gD; refine sD ?_) | fail)
  refine C_cap 0 fun hcap => ?_
  refine C_frz 0 ?_
  refine C_loopS (κ := Nat) [false, false, false, false, false, false, true, true, false, false, false, false, false, false, false, true, false, false, false, false, false, false, false, false, false, false, false, false, false, false, false, false, false, false, false, false, false, false, false, false, false, false, false, false, false, false, false, false, false, false, false, false, false, false, false, false, false, false, false, false, false, false, false, false, false, false, false, false, false, false, false, false, false, false, false, false, false, false, false, false, false, false, true, true, true, true, true, true, true, true, true, true, true, true, true, true, true, true, true, true, true, true, true, true, true, true, false] (fun k => [(15, .int .i64 (k : Int))]) (fun k => []) (fun k => k ≤ bx.length ∧ conF t (bx.take k) (bx.drop k) = conF t [] bx) (fun k => bx.length - k) 0 ⟨Nat.zero_le _, rfl⟩ ⟨rfl, trivial⟩ ?_
  rintro j u2 ⟨hj, hcf⟩
  ((try dsimp only); refine C_n ?_; (try simp only [Nat.reduceAdd, Nat.zero_add]))
  by_cases hjl : j < bx.length
  rotate_left
  · obtain rfl : j = bx.length := by omega
    rw [List.drop_length] at hcf
    replace hcf : false = conF t [] bx := hcf
    rw [← hcf, if_neg (by simp)]
    repeat' (first | refine go ?_ | intro _ | (apply cG; first | refine cT ?_ | refine cF ?_ | refine cS (fun _ => ?_) fun _ => ?_) | (apply gW; refine sW ?_) | (apply gI; refine sI ?_) | (apply gE; refine sE ?_) | (apply gP; refine sP ?_) | (apply gC; refine sC ?_) | (apply gD; refine sD ?_) | fail)
    refine E_res2 (by rfl) (by rfl) ⟨rfl, rfl⟩ Sb
  obtain ⟨b, hbj⟩ : ∃ b, bx[j]? = some b := ⟨_, List.getElem?_eq_getElem hjl⟩
  have hab : At bx j b := ⟨hbj⟩
  rw [conF_drop hbj] at hcf
  refine C_sub (sub_rdCut (k := j) (.head _) (by omega)) ?_
  obtain ⟨pre, hpre⟩ : ∃ pre, bx.take j = pre := ⟨_, rfl⟩
  have hplen : pre.length = j := by rw [← hpre, List.length_take]; omega
  rw [hpre] at hcf ⊢
  subst hplen
  repeat' (first | refine go ?_ | intro _ | (apply cG; first | refine cT ?_ | refine cF ?_ | refine cS (fun _ => ?_) fun _ => ?_) | (apply gW; refine sW ?_) | (apply gI; refine sI ?_) | (apply gE; refine sE ?_) | (apply gP; refine sP ?_) | (apply gC; refine sC ?_) | (apply gD; refine sD ?_) | fail)
  refine C_draw (n := 99) [rd eBX (.slice A2 t.length c2) t, rd eBX (.slice A4 bx.length c4) bx, rd eBX (.slice A4 pre.length c4) pre] [(0, 1), (1, 1), (2, 1), (3, 1), (4, 1), (5, 0), (6, 1), (7, 1), (8, 1), (9, 1), (10, 1), (11, 1), (12, 1), (13, 1), (14, 1), (15, 0), (16, 1), (17, 1)] (by kernel_rfl) (by kernel_rfl) Sb ?_
  repeat' (first | refine go ?_ | intro _ | (apply cG; first | refine cT ?_ | refine cF ?_ | refine cS (fun _ => ?_) fun _ => ?_) | (apply gW; refine sW ?_) | (apply gI; refine sI ?_) | (apply gE; refine sE ?_) | (apply gP; refine sP ?_) | (apply gC; refine sC ?_) | (apply gD; refine sD ?_) | fail)
  refine D_op rfl ?_; refine X_d (dy_call ArgsI.pf (by first | exact rfl | trivial | (intro a b; rfl)) (free_ct (b := b) (l := t) (by repeat (first | exact .head _ | refine .tail _ ?_)) (by omega))) ?_; rintro _ _ ⟨_, ⟨rfl, hLL⟩, rfl⟩; replace hLL := hLL.symm; subst hLL; refine ⟨(by first | exact .inl rfl | exact .inr Sb), D_n ?_⟩
  by_cases hf1 : freeF b t = true
  rotate_left
  · rw [Bool.not_eq_true] at hf1
    rw [hf1] at hcf ⊢
    replace hcf : true = conF t [] bx := hcf
    rw [← hcf, if_pos rfl]
    repeat' (first | refine go ?_ | intro _ | (apply cG; first | refine cT ?_ | refine cF ?_ | refine cS (fun _ => ?_) fun _ => ?_) | (apply gW; refine sW ?_) | (apply gI; refine sI ?_) | (apply gE; refine sE ?_) | (apply gP; refine sP ?_) | (apply gC; refine sC ?_) | (apply gD; refine sD ?_) | fail)
    refine D_op rfl ?_; refine X_o0 Sb ?_
    repeat' (first | refine go ?_ | intro _ | (apply cG; first | refine cT ?_ | refine cF ?_ | refine cS (fun _ => ?_) fun _ => ?_) | (apply gW; refine sW ?_) | (apply gI; refine sI ?_) | (apply gE; refine sE ?_) | (apply gP; refine sP ?_) | (apply gC; refine sC ?_) | (apply gD; refine sD ?_) | fail)
    refine E_res2 (by rfl) (by rfl) ⟨rfl, rfl⟩ Sb
  rw [hf1] at hcf ⊢
  repeat' (first | refine go ?_ | intro _ | (apply cG; first | refine cT ?_ | refine cF ?_ | refine cS (fun _ => ?_) fun _ => ?_) | (apply gW; refine sW ?_) | (apply gI; refine sI ?_) | (apply gE; refine sE ?_) | (apply gP; refine sP ?_) | (apply gC; refine sC ?_) | (apply gD; refine sD ?_) | fail)
  refine D_op rfl ?_; refine X_s (sv_sliceH (n := bx.length) (c := c4) (h' := pre.length)) ?_
  repeat' (first | refine go ?_ | intro _ | (apply cG; first | refine cT ?_ | refine cF ?_ | refine cS (fun _ => ?_) fun _ => ?_) | (apply gW; refine sW ?_) | (apply gI; refine sI ?_) | (apply gE; refine sE ?_) | (apply gP; refine sP ?_) | (apply gC; refine sC ?_) | (apply gD; refine sD ?_) | fail)
  refine D_op rfl ?_; refine X_d (dy_call ArgsI.pf (by first | exact rfl | trivial | (intro a b; rfl)) (free_ct (b := b) (l := pre) (by repeat (first | exact .head _ | refine .tail _ ?_)) (by omega))) ?_; rintro _ _ ⟨_, ⟨rfl, hLL⟩, rfl⟩; replace hLL := hLL.symm; subst hLL; refine ⟨(by first | exact .inl rfl | exact .inr Sb), D_n ?_⟩
  by_cases hf2 : freeF b pre = true
  rotate_left
  · rw [Bool.not_eq_true] at hf2
    rw [hf2] at hcf ⊢
    replace hcf : true = conF t [] bx := hcf
    rw [← hcf, if_pos rfl]
    repeat' (first | refine go ?_ | intro _ | (apply cG; first | refine cT ?_ | refine cF ?_ | refine cS (fun _ => ?_) fun _ => ?_) | (apply gW; refine sW ?_) | (apply gI; refine sI ?_) | (apply gE; refine sE ?_) | (apply gP; refine sP ?_) | (apply gC; refine sC ?_) | (apply gD; refine sD ?_) | fail)
    refine E_res2 (by rfl) (by rfl) ⟨rfl, rfl⟩ Sb
  rw [hf2] at hcf ⊢
  repeat' (first | refine go ?_ | intro _ | (apply cG; first | refine cT ?_ | refine cF ?_ | refine cS (fun _ => ?_) fun _ => ?_) | (apply gW; refine sW ?_) | (apply gI; refine sI ?_) | (apply gE; refine sE ?_) | (apply gP; refine sP ?_) | (apply gC; refine sC ?_) | (apply gD; refine sD ?_) | fail)
  exact E_round (pre.length + 1) ⟨hjl, hcf⟩ (by omega) ⟨rfl, trivial⟩ Sb
end
end Go.Proofs.Yteeapkfakehocaa
