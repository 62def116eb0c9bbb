/-
  Walks of the reference 02: byte slices, lists, values read.
-/
import Derived.Test.YtjaopndlcghkcaaV20
namespace Go.Proofs.Ytjaopndlcghkcaa
open Go Go.RowKit
set_option linter.unusedVariables false
set_option linter.unusedSimpArgs false
set_option synthInstance.maxSize 100000
set_option synthInstance.maxHeartbeats 400000
section
variable {W0 : World} {L : List HP}
theorem fRawR_ct {p : Nat} {l bs bs' : List UInt8} {e e' : Int} (h : rList rNext (bs, e) = (l, (bs', e'))) (hl : bs.length ≤ 1000000000000) :
    CT Try.prog 53 #[.pointer (some ⟨p, 0, none⟩)] W0 (fr p bs e :: L) fun r L' => ∃ b A c, Kp bs bs' b e' ∧ r = .slice A l.length c ∧ L' = rd eB (.slice A l.length c) l :: fr p b e' :: L := by
  obtain ⟨m, b1, e1, hu⟩ : ∃ m b1 e1, rU (bs, e) = (m, (b1, e1)) := ⟨_, _, _, rfl⟩
  have hlen := rU_len (bs, e)
  rw [hu] at hlen
  dsimp only at hlen
  have hcs := rList_cases hu h
  refine CT_enter Try.func53 rfl ?_; (simp only [Try.ntmps53, List.size_toArray, List.length_cons, List.length_nil, Nat.reduceAdd, Nat.reduceSub, Array.replicate_succ, Array.replicate_zero, List.push_toArray, List.append_toArray, List.nil_append, List.cons_append])
  repeat' (first | refine go ?_ | intro _ | (apply cG; first | refine cT ?_ | refine cF ?_ | refine cS (fun _ => ?_) fun _ => ?_) | (apply gW; refine sW ?_) | (apply gI; refine sI ?_) | (apply gE; refine sE ?_) | (apply gP; refine sP ?_) | (apply gC; refine sC ?_) | (apply gD; refine sD ?_) | fail)
  refine O_d (dy_call ArgsI.pf (by first | exact rfl | trivial | (intro a b; rfl)) (fLen_ct hu hl)) ?_; rintro _ _ ⟨_, ⟨b, e2, k, hbl, hk, rfl, rfl⟩, rfl⟩; refine O_n ?_
  repeat' (first | refine go ?_ | intro _ | (apply cG; first | refine cT ?_ | refine cF ?_ | refine cS (fun _ => ?_) fun _ => ?_) | (apply gW; refine sW ?_) | (apply gI; refine sI ?_) | (apply gE; refine sE ?_) | (apply gP; refine sP ?_) | (apply gC; refine sC ?_) | (apply gD; refine sD ?_) | fail)
  refine fr_open fun A n c hn hnc => ?_
  rcases hk with ⟨h1, rfl, rfl⟩ | ⟨h1, h2, rfl, rfl⟩ | ⟨h1, h2, rfl, rfl, rfl⟩
  · rcases hcs with ⟨_, rfl, rfl⟩ | ⟨h0, _⟩ | ⟨h0, _⟩
    · repeat' (first | refine go ?_ | intro _ | (apply cG; first | refine cT ?_ | refine cF ?_ | refine cS (fun _ => ?_) fun _ => ?_) | (apply gW; refine sW ?_) | (apply gI; refine sI ?_) | (apply gE; refine sE ?_) | (apply gP; refine sP ?_) | (apply gC; refine sC ?_) | (apply gD; refine sD ?_) | fail)
      refine E_rdnil eB none 0 ?_
      refine E_res1 (by rfl) (by rfl) ⟨b, none, 0, ⟨fun h => absurd h h1, hbl⟩, rfl, rfl⟩ (Sub.trans Sb (sub_skip (fr_sub (v := .slice A n c))))
    · exact absurd h0 h1
    · exact absurd h0 h1
  · rcases hcs with ⟨h0, _⟩ | ⟨_, _, rfl, rfl⟩ | ⟨_, h3, _⟩
    · exact absurd h1 h0
    · repeat' (first | refine go ?_ | intro _ | (apply cG; first | refine cT ?_ | refine cF ?_ | refine cS (fun _ => ?_) fun _ => ?_) | (apply gW; refine sW ?_) | (apply gI; refine sI ?_) | (apply gE; refine sE ?_) | (apply gP; refine sP ?_) | (apply gC; refine sC ?_) | (apply gD; refine sD ?_) | fail)
      refine E_rdnil eB none 0 ?_
      refine E_res1 (by rfl) (by rfl) ⟨b, none, 0, ⟨fun h => absurd h (by decide), hbl⟩, rfl, rfl⟩ (Sub.trans Sb (sub_skip (fr_sub (v := .slice A n c))))
    · omega
  · rcases hcs with ⟨h0, _⟩ | ⟨_, h3, _⟩ | ⟨_, _, h4, h5⟩
    · exact absurd h1 h0
    · omega
    · rw [rMany_take m b h2] at h4 h5
      simp only [Prod.mk.injEq] at h4
      obtain ⟨rfl, rfl⟩ := h4
      rw [if_pos rfl] at h5
      subst h5
      repeat' (first | refine go ?_ | intro _ | (apply cG; first | refine cT ?_ | refine cF ?_ | refine cS (fun _ => ?_) fun _ => ?_) | (apply gW; refine sW ?_) | (apply gI; refine sI ?_) | (apply gE; refine sE ?_) | (apply gP; refine sP ?_) | (apply gC; refine sC ?_) | (apply gD; refine sD ?_) | fail)
      rename_i A2 c2 A3 c3
      have e1 : (b.drop 0).take m = b.take m := by rw [List.drop_zero]
      have e2 : (b.drop m).take (n - m) = b.drop m := List.take_of_length_le (by rw [List.length_drop]; omega)
      have e3 : m = (b.take m).length := by rw [List.length_take]; omega
      rw [e1, e2]
      refine E_res1 (by rfl) (by rfl) (L2 := rd eB (.slice A2 (b.take m).length c2) (b.take m) :: fr p (b.drop m) 0 :: L) ⟨b.drop m, A2, c2, ⟨fun _ => rfl, by rw [List.length_drop]; omega⟩, by rw [← e3], rfl⟩ ?_
      rw [← e3]
      exact Sub.trans Sb (sub_skip (fr_sub (v := .slice A3 (n - m) c3)))
set_option maxHeartbeats 1000000 in
theorem fIntsR_ct {p : Nat} {l : List Int} {bs bs' : List UInt8} {e e' : Int} (h : rList rI (bs, e) = (l, (bs', e'))) (hl : bs.length ≤ 1000000000000) :
    CT Try.prog 54 #[.pointer (some ⟨p, 0, none⟩)] W0 (fr p bs e :: L) fun r L' => ∃ b A c, Kp bs bs' b e' ∧ r = .slice A l.length c ∧ L' = rd eI (.slice A l.length c) l :: fr p b e' :: L := by
  obtain ⟨m, b1, e1, hu⟩ : ∃ m b1 e1, rU (bs, e) = (m, (b1, e1)) := ⟨_, _, _, rfl⟩
  have hlen := rU_len (bs, e)
  rw [hu] at hlen
  dsimp only at hlen
  have hcs := rList_cases hu h
  refine CT_enter Try.func54 rfl ?_; (simp only [Try.ntmps54, List.size_toArray, List.length_cons, List.length_nil, Nat.reduceAdd, Nat.reduceSub, Array.replicate_succ, Array.replicate_zero, List.push_toArray, List.append_toArray, List.nil_append, List.cons_append])
  repeat' (first | refine go ?_ | intro _ | (apply cG; first | refine cT ?_ | refine cF ?_ | refine cS (fun _ => ?_) fun _ => ?_) | (apply gW; refine sW ?_) | (apply gI; refine sI ?_) | (apply gE; refine sE ?_) | (apply gP; refine sP ?_) | (apply gC; refine sC ?_) | (apply gD; refine sD ?_) | fail)
  refine O_d (dy_call ArgsI.pf (by first | exact rfl | trivial | (intro a b; rfl)) (fLen_ct hu hl)) ?_; rintro _ _ ⟨_, ⟨b, e2, k, hbl, hk, rfl, rfl⟩, rfl⟩; refine O_n ?_
  repeat' (first | refine go ?_ | intro _ | (apply cG; first | refine cT ?_ | refine cF ?_ | refine cS (fun _ => ?_) fun _ => ?_) | (apply gW; refine sW ?_) | (apply gI; refine sI ?_) | (apply gE; refine sE ?_) | (apply gP; refine sP ?_) | (apply gC; refine sC ?_) | (apply gD; refine sD ?_) | fail)
  have herr : e' = e2 → e2 ≠ 0 → k = 0 → l = [] → Kp bs bs' b e' := fun h1 h2 _ _ => ⟨fun h => absurd (h1 ▸ h) h2, hbl⟩
  by_cases hz : e2 = 0
  rotate_left
  · have hall : e' = e2 ∧ k = 0 ∧ l = [] := by
      rcases hk with ⟨h1, rfl, rfl⟩ | ⟨h1, h2, rfl, rfl⟩ | ⟨h1, h2, rfl, rfl, rfl⟩
      · rcases hcs with ⟨_, rfl, rfl⟩ | ⟨h0, _⟩ | ⟨h0, _⟩
        · exact ⟨rfl, rfl, rfl⟩
        · exact absurd h0 h1
        · exact absurd h0 h1
      · rcases hcs with ⟨h0, _⟩ | ⟨_, _, rfl, rfl⟩ | ⟨_, h3, _⟩
        · exact absurd h1 h0
        · exact ⟨rfl, rfl, rfl⟩
        · omega
      · exact absurd rfl hz
    obtain ⟨rfl, rfl, rfl⟩ := hall
    refine C_loopS (κ := Unit) [false, false, false, false, true, true, false, false, true, true, true, true, true, true, true, true, true, true, true, true, true, true, true, true, true, false, false, false, false, false, false] (fun k => [(4, .slice none 0 0), (5, .int .i64 0)]) (fun k => []) (fun k => True) (fun k => 0) () trivial ⟨rfl, rfl, trivial⟩ ?_
    rintro ⟨⟩ u _
    ((try dsimp only); refine C_n ?_; (try simp only [Nat.reduceAdd, Nat.zero_add]))
    repeat' (first | refine go ?_ | intro _ | (apply cG; first | refine cT ?_ | refine cF ?_ | refine cS (fun _ => ?_) fun _ => ?_) | (apply gW; refine sW ?_) | (apply gI; refine sI ?_) | (apply gE; refine sE ?_) | (apply gP; refine sP ?_) | (apply gC; refine sC ?_) | (apply gD; refine sD ?_) | fail)
    refine fr_open fun A n c hn hnc => ?_
    repeat' (first | refine go ?_ | intro _ | (apply cG; first | refine cT ?_ | refine cF ?_ | refine cS (fun _ => ?_) fun _ => ?_) | (apply gW; refine sW ?_) | (apply gI; refine sI ?_) | (apply gE; refine sE ?_) | (apply gP; refine sP ?_) | (apply gC; refine sC ?_) | (apply gD; refine sD ?_) | fail)
    refine E_rdnil eI none 0 ?_
    refine E_res1 (by rfl) (by rfl) ⟨b, none, 0, herr rfl hz rfl rfl, rfl, rfl⟩ (Sub.trans Sb (sub_skip (fr_sub (v := .slice A n c))))
  subst hz
  obtain ⟨h1, h2, rfl, rfl⟩ : e1 = 0 ∧ m ≤ b1.length ∧ b = b1 ∧ k = (m : Int) := by
    rcases hk with ⟨h1, h2, _⟩ | ⟨h1, h2, h3, _⟩ | ⟨h1, h2, _, h3, h4⟩
    · exact absurd h2.symm h1
    · exact absurd h3 (by decide)
    · exact ⟨h1, h2, h3, h4⟩
  obtain ⟨h4, h5⟩ : (rMany rI m (b, 0)).2 = (bs', e') ∧ l = if e' = 0 then (rMany rI m (b, 0)).1 else [] := by
    rcases hcs with ⟨h0, _⟩ | ⟨_, h3, _⟩ | ⟨_, _, h4, h5⟩
    · exact absurd h1 h0
    · omega
    · exact ⟨h4, h5⟩
  obtain ⟨l3, hl3⟩ : ∃ l3, (rMany rI m (b, 0)).1 = l3 := ⟨_, rfl⟩
  rw [hl3] at h5
  have hfin : rMany rI m (b, 0) = (l3, (bs', e')) := by rw [← hl3, ← h4]
  refine C_ownnil 3 eI ?_
  refine C_loopS (κ := Nat × Value × List Int × List UInt8 × Int) [false, false, false, false, true, true, false, false, true, true, true, true, true, true, true, true, true, true, true, true, true, true, true, true, true, false, false, false, false, false, false] (fun k => [(4, k.2.1), (5, .int .i64 (k.1 : Int))]) (fun k => [(0, own 3 eI k.2.1 k.2.2.1), (1, fr p k.2.2.2.1 k.2.2.2.2)]) (fun k => k.1 ≤ m ∧ k.2.2.1.length = k.1 ∧ (∃ A c, k.2.1 = .slice A k.2.2.1.length c) ∧ k.2.2.2.1.length ≤ b.length ∧ (k.2.2.2.2 = 0 → (k.2.2.1 ++ (rMany rI (m - k.1) (k.2.2.2.1, 0)).1, (rMany rI (m - k.1) (k.2.2.2.1, 0)).2) = (l3, ((bs', e') : Rs))) ∧ (k.2.2.2.2 ≠ 0 → e' = k.2.2.2.2)) (fun k => m - k.1) (0, .slice none 0 0, [], b, 0) ⟨Nat.zero_le _, rfl, ⟨none, 0, rfl⟩, Nat.le_refl _, fun _ => by rw [Nat.sub_zero, hfin]; rfl, fun h => absurd rfl h⟩ ⟨rfl, rfl, trivial⟩ ?_
  rintro ⟨i, v, out, bc, ee⟩ u ⟨hi, hol, ⟨A, c, hv⟩, hbc, hinv, hine⟩
  dsimp only at hi hol hv hbc hinv hine
  subst hv
  ((try dsimp only); refine C_n ?_; (try simp only [Nat.reduceAdd, Nat.zero_add]))
  by_cases he : ee = 0
  rotate_left
  · have := hine he
    subst this
    rw [if_neg he] at h5
    subst h5
    by_cases him : i < m
    · repeat' (first | refine go ?_ | intro _ | (apply cG; first | refine cT ?_ | refine cF ?_ | refine cS (fun _ => ?_) fun _ => ?_) | (apply gW; refine sW ?_) | (apply gI; refine sI ?_) | (apply gE; refine sE ?_) | (apply gP; refine sP ?_) | (apply gC; refine sC ?_) | (apply gD; refine sD ?_) | fail)
      refine O_sub (fun m h s => s.swap) ?_
      refine fr_open fun A' n' c' hn' hnc' => ?_
      repeat' (first | refine go ?_ | intro _ | (apply cG; first | refine cT ?_ | refine cF ?_ | refine cS (fun _ => ?_) fun _ => ?_) | (apply gW; refine sW ?_) | (apply gI; refine sI ?_) | (apply gE; refine sE ?_) | (apply gP; refine sP ?_) | (apply gC; refine sC ?_) | (apply gD; refine sD ?_) | fail)
      refine E_rdnil eI none 0 ?_
      refine E_res1 (by rfl) (by rfl) ⟨bc, none, 0, ⟨fun h => absurd h he, by omega⟩, rfl, rfl⟩ (Sub.trans Sb (sub_skip (fr_sub (v := .slice A' n' c'))))
    · repeat' (first | refine go ?_ | intro _ | (apply cG; first | refine cT ?_ | refine cF ?_ | refine cS (fun _ => ?_) fun _ => ?_) | (apply gW; refine sW ?_) | (apply gI; refine sI ?_) | (apply gE; refine sE ?_) | (apply gP; refine sP ?_) | (apply gC; refine sC ?_) | (apply gD; refine sD ?_) | fail)
      refine O_sub (fun m h s => s.swap) ?_
      refine fr_open fun A' n' c' hn' hnc' => ?_
      repeat' (first | refine go ?_ | intro _ | (apply cG; first | refine cT ?_ | refine cF ?_ | refine cS (fun _ => ?_) fun _ => ?_) | (apply gW; refine sW ?_) | (apply gI; refine sI ?_) | (apply gE; refine sE ?_) | (apply gP; refine sP ?_) | (apply gC; refine sC ?_) | (apply gD; refine sD ?_) | fail)
      refine E_rdnil eI none 0 ?_
      refine E_res1 (by rfl) (by rfl) ⟨bc, none, 0, ⟨fun h => absurd h he, by omega⟩, rfl, rfl⟩ (Sub.trans Sb (sub_skip (fr_sub (v := .slice A' n' c'))))
  subst he
  have hinv := hinv rfl
  by_cases him : i < m
  · obtain ⟨x, b', ee', hx⟩ : ∃ x b' ee', rI (bc, 0) = (x, (b', ee')) := ⟨_, _, _, rfl⟩
    have hb' : b'.length ≤ bc.length := by
      have := rI_len (bc, 0)
      rw [hx] at this
      exact this
    have e1 : m - i = (m - (i + 1)) + 1 := by omega
    rw [e1, rMany, if_pos rfl, hx] at hinv
    dsimp only at hinv
    repeat' (first | refine go ?_ | intro _ | (apply cG; first | refine cT ?_ | refine cF ?_ | refine cS (fun _ => ?_) fun _ => ?_) | (apply gW; refine sW ?_) | (apply gI; refine sI ?_) | (apply gE; refine sE ?_) | (apply gP; refine sP ?_) | (apply gC; refine sC ?_) | (apply gD; refine sD ?_) | fail)
    refine O_sub (fun m h s => s.swap) ?_
    refine fr_open fun A' n' c' hn' hnc' => ?_
    repeat' (first | refine go ?_ | intro _ | (apply cG; first | refine cT ?_ | refine cF ?_ | refine cS (fun _ => ?_) fun _ => ?_) | (apply gW; refine sW ?_) | (apply gI; refine sI ?_) | (apply gE; refine sE ?_) | (apply gP; refine sP ?_) | (apply gC; refine sC ?_) | (apply gD; refine sD ?_) | fail)
    refine O_sub (fr_sub (v := .slice A' n' c')) ?_
    refine O_d (dy_call ArgsI.pf (by first | exact rfl | trivial | (intro a b; rfl)) (fI_ct hx (by omega))) ?_; rintro _ _ ⟨_, ⟨b2, ⟨hk1, hk2⟩, rfl, rfl⟩, rfl⟩; refine O_n ?_
    refine O_d (dy_lit1 (R := eI) x (hcs := by rfl) (hel := fun _ _ _ => by rfl)) ?_; rintro _ _ ⟨_, rfl, rfl⟩; refine O_n ?_
    repeat' (first | refine go ?_ | intro _ | (apply cG; first | refine cT ?_ | refine cF ?_ | refine cS (fun _ => ?_) fun _ => ?_) | (apply gW; refine sW ?_) | (apply gI; refine sI ?_) | (apply gE; refine sE ?_) | (apply gP; refine sP ?_) | (apply gC; refine sC ?_) | (apply gD; refine sD ?_) | fail)
    rename_i A2 c2
    exact E_round (i + 1, .slice A2 (out.length + 1) c2, out ++ [x], b2, ee') ⟨him, by rw [List.length_append, hol]; rfl, ⟨A2, c2, by rw [List.length_append]; rfl⟩, by show b2.length ≤ b.length; omega, fun h0 => by
      have h0 : ee' = 0 := h0
      subst h0
      show ((out ++ [x]) ++ (rMany rI (m - (i + 1)) (b2, 0)).1, (rMany rI (m - (i + 1)) (b2, 0)).2) = _
      rw [hk1 rfl, ← hinv, List.append_assoc]; rfl, fun h0 => by
      have h0 : ee' ≠ 0 := h0
      rw [rMany_err h0] at hinv
      simp only [Prod.mk.injEq] at hinv
      exact hinv.2.2.symm⟩ (by show m - (i + 1) < m - i; omega) ⟨rfl, rfl, trivial⟩ Sb
  · have him2 : m - i = 0 := by omega
    rw [him2, rMany] at hinv
    simp only [List.append_nil, Prod.mk.injEq] at hinv
    obtain ⟨rfl, rfl, rfl⟩ := hinv
    rw [if_pos rfl] at h5
    subst h5
    repeat' (first | refine go ?_ | intro _ | (apply cG; first | refine cT ?_ | refine cF ?_ | refine cS (fun _ => ?_) fun _ => ?_) | (apply gW; refine sW ?_) | (apply gI; refine sI ?_) | (apply gE; refine sE ?_) | (apply gP; refine sP ?_) | (apply gC; refine sC ?_) | (apply gD; refine sD ?_) | fail)
    refine O_sub (fun m h s => s.swap) ?_
    refine fr_open fun A' n' c' hn' hnc' => ?_
    repeat' (first | refine go ?_ | intro _ | (apply cG; first | refine cT ?_ | refine cF ?_ | refine cS (fun _ => ?_) fun _ => ?_) | (apply gW; refine sW ?_) | (apply gI; refine sI ?_) | (apply gE; refine sE ?_) | (apply gP; refine sP ?_) | (apply gC; refine sC ?_) | (apply gD; refine sD ?_) | fail)
    refine E_frz 2 ?_
    refine E_sub (S := rd eI (.slice A l.length c) l :: cel p [.slice A' n' c', .int .i64 0] 44 :: rd eB (.slice A' n' c') bc :: L) Sb ?_
    refine E_res1 (by rfl) (by rfl) ⟨bc, A, c, ⟨fun _ => rfl, by omega⟩, rfl, rfl⟩ (Sub.trans Sb (sub_skip (fr_sub (v := .slice A' n' c'))))
/-- a value of a kind, read by the reference -/
theorem fRd_ct {p : Nat} {k : Int} {bs bs' : List UInt8} {e e' : Int} {x : Val} (hk1 : -9223372036854775808 ≤ k) (hk2 : k ≤ 9223372036854775807) (h : rV k (bs, e) = (x, (bs', e'))) (hl : bs.length ≤ 1000000000000) :
    CT Try.prog 24 #[.pointer (some ⟨p, 0, none⟩), .int .i64 k] W0 (fr p bs e :: L) fun r L' => ∃ b A c A' c', Kp bs bs' b e' ∧ r = .agg #[.int .i64 x.k, .int .u64 (x.u : Int), .int .i64 x.n, .slice A x.b.length c, .slice A' x.l.length c'] ∧ L' = rd eB (.slice A x.b.length c) x.b :: rd eI (.slice A' x.l.length c') x.l :: fr p b e' :: L := by
  refine CT_enter Try.func24 rfl ?_; (simp only [Try.ntmps24, List.size_toArray, List.length_cons, List.length_nil, Nat.reduceAdd, Nat.reduceSub, Array.replicate_succ, Array.replicate_zero, List.push_toArray, List.append_toArray, List.nil_append, List.cons_append])
  unfold rV at h
  by_cases e0 : k = 0
  · subst e0
    rw [if_pos rfl] at h
    simp only [Prod.mk.injEq] at h
    obtain ⟨rfl, h⟩ := h
    repeat' (first | refine go ?_ | intro _ | (apply cG; first | refine cT ?_ | refine cF ?_ | refine cS (fun _ => ?_) fun _ => ?_) | (apply gW; refine sW ?_) | (apply gI; refine sI ?_) | (apply gE; refine sE ?_) | (apply gP; refine sP ?_) | (apply gC; refine sC ?_) | (apply gD; refine sD ?_) | fail)
    refine O_d (dy_call ArgsI.pf (by first | exact rfl | trivial | (intro a b; rfl)) (CT.pull (i := 2) (by rfl) (fU_ct (m := (rU (bs, e)).1) (bs' := bs') (e' := e') (by rw [← h]) hl))) ?_; rintro _ _ ⟨_, ⟨b, hk, rfl, rfl⟩, rfl⟩; refine O_n ?_
    repeat' (first | refine go ?_ | intro _ | (apply cG; first | refine cT ?_ | refine cF ?_ | refine cS (fun _ => ?_) fun _ => ?_) | (apply gW; refine sW ?_) | (apply gI; refine sI ?_) | (apply gE; refine sE ?_) | (apply gP; refine sP ?_) | (apply gC; refine sC ?_) | (apply gD; refine sD ?_) | fail)
    refine E_rdnil eI none 0 ?_
    refine E_rdnil eB none 0 ?_
    refine E_res1 (by rfl) (by rfl) ⟨b, _, _, _, _, hk, rfl, rfl⟩ Sb
  rw [if_neg e0] at h
  by_cases e1 : k = 1
  · subst e1
    rw [if_pos rfl] at h
    simp only [Prod.mk.injEq] at h
    obtain ⟨rfl, h⟩ := h
    repeat' (first | refine go ?_ | intro _ | (apply cG; first | refine cT ?_ | refine cF ?_ | refine cS (fun _ => ?_) fun _ => ?_) | (apply gW; refine sW ?_) | (apply gI; refine sI ?_) | (apply gE; refine sE ?_) | (apply gP; refine sP ?_) | (apply gC; refine sC ?_) | (apply gD; refine sD ?_) | fail)
    refine O_d (dy_call ArgsI.pf (by first | exact rfl | trivial | (intro a b; rfl)) (CT.pull (i := 2) (by rfl) (fI_ct (x := (rI (bs, e)).1) (bs' := bs') (e' := e') (by rw [← h]) hl))) ?_; rintro _ _ ⟨_, ⟨b, hk, rfl, rfl⟩, rfl⟩; refine O_n ?_
    repeat' (first | refine go ?_ | intro _ | (apply cG; first | refine cT ?_ | refine cF ?_ | refine cS (fun _ => ?_) fun _ => ?_) | (apply gW; refine sW ?_) | (apply gI; refine sI ?_) | (apply gE; refine sE ?_) | (apply gP; refine sP ?_) | (apply gC; refine sC ?_) | (apply gD; refine sD ?_) | fail)
    refine E_rdnil eI none 0 ?_
    refine E_rdnil eB none 0 ?_
    refine E_res1 (by rfl) (by rfl) ⟨b, _, _, _, _, hk, rfl, rfl⟩ Sb
  rw [if_neg e1] at h
  by_cases e2 : k = 2
  · subst e2
    rw [if_pos rfl] at h
    simp only [Prod.mk.injEq] at h
    obtain ⟨rfl, h⟩ := h
    repeat' (first | refine go ?_ | intro _ | (apply cG; first | refine cT ?_ | refine cF ?_ | refine cS (fun _ => ?_) fun _ => ?_) | (apply gW; refine sW ?_) | (apply gI; refine sI ?_) | (apply gE; refine sE ?_) | (apply gP; refine sP ?_) | (apply gC; refine sC ?_) | (apply gD; refine sD ?_) | fail)
    obtain ⟨q, hq⟩ : ∃ b, (rB (bs, e)).1 = b := ⟨_, rfl⟩
    refine O_d (dy_call ArgsI.pf (by first | exact rfl | trivial | (intro a b; rfl)) (CT.pull (i := 2) (by rfl) (fB_ct (x := q) (bs' := bs') (e' := e') (by rw [← h, ← hq]) hl))) ?_; rintro _ _ ⟨_, ⟨b, hk, rfl, rfl⟩, rfl⟩; refine O_n ?_
    rw [hq]
    cases q
    · repeat' (first | refine go ?_ | intro _ | (apply cG; first | refine cT ?_ | refine cF ?_ | refine cS (fun _ => ?_) fun _ => ?_) | (apply gW; refine sW ?_) | (apply gI; refine sI ?_) | (apply gE; refine sE ?_) | (apply gP; refine sP ?_) | (apply gC; refine sC ?_) | (apply gD; refine sD ?_) | fail)
      refine E_rdnil eI none 0 ?_
      refine E_rdnil eB none 0 ?_
      refine E_res1 (by rfl) (by rfl) ⟨b, _, _, _, _, hk, rfl, rfl⟩ Sb
    · repeat' (first | refine go ?_ | intro _ | (apply cG; first | refine cT ?_ | refine cF ?_ | refine cS (fun _ => ?_) fun _ => ?_) | (apply gW; refine sW ?_) | (apply gI; refine sI ?_) | (apply gE; refine sE ?_) | (apply gP; refine sP ?_) | (apply gC; refine sC ?_) | (apply gD; refine sD ?_) | fail)
      refine E_rdnil eI none 0 ?_
      refine E_rdnil eB none 0 ?_
      refine E_res1 (by rfl) (by rfl) ⟨b, _, _, _, _, hk, rfl, rfl⟩ Sb
  rw [if_neg e2] at h
  by_cases e34 : k = 3 ∨ k = 4
  · rw [if_pos e34] at h
    simp only [Prod.mk.injEq] at h
    obtain ⟨rfl, h⟩ := h
    by_cases e3 : k = 3
    · repeat' (first | refine go ?_ | intro _ | (apply cG; first | refine cT ?_ | refine cF ?_ | refine cS (fun _ => ?_) fun _ => ?_) | (apply gW; refine sW ?_) | (apply gI; refine sI ?_) | (apply gE; refine sE ?_) | (apply gP; refine sP ?_) | (apply gC; refine sC ?_) | (apply gD; refine sD ?_) | fail)
      refine O_d (dy_call ArgsI.pf (by first | exact rfl | trivial | (intro a b; rfl)) (CT.pull (i := 2) (by rfl) (fRawR_ct (l := (rList rNext (bs, e)).1) (bs' := bs') (e' := e') (by rw [← h]) hl))) ?_; rintro _ _ ⟨_, ⟨b, A, c, hk, rfl, rfl⟩, rfl⟩; refine O_n ?_
      repeat' (first | refine go ?_ | intro _ | (apply cG; first | refine cT ?_ | refine cF ?_ | refine cS (fun _ => ?_) fun _ => ?_) | (apply gW; refine sW ?_) | (apply gI; refine sI ?_) | (apply gE; refine sE ?_) | (apply gP; refine sP ?_) | (apply gC; refine sC ?_) | (apply gD; refine sD ?_) | fail)
      refine E_rdnil eI none 0 ?_
      refine E_sub (fun m h s => s.swap) ?_
      refine E_res1 (by rfl) (by rfl) ⟨b, _, _, _, _, hk, rfl, rfl⟩ Sb
    · repeat' (first | refine go ?_ | intro _ | (apply cG; first | refine cT ?_ | refine cF ?_ | refine cS (fun _ => ?_) fun _ => ?_) | (apply gW; refine sW ?_) | (apply gI; refine sI ?_) | (apply gE; refine sE ?_) | (apply gP; refine sP ?_) | (apply gC; refine sC ?_) | (apply gD; refine sD ?_) | fail)
      refine O_d (dy_call ArgsI.pf (by first | exact rfl | trivial | (intro a b; rfl)) (CT.pull (i := 2) (by rfl) (fRawR_ct (l := (rList rNext (bs, e)).1) (bs' := bs') (e' := e') (by rw [← h]) hl))) ?_; rintro _ _ ⟨_, ⟨b, A, c, hk, rfl, rfl⟩, rfl⟩; refine O_n ?_
      repeat' (first | refine go ?_ | intro _ | (apply cG; first | refine cT ?_ | refine cF ?_ | refine cS (fun _ => ?_) fun _ => ?_) | (apply gW; refine sW ?_) | (apply gI; refine sI ?_) | (apply gE; refine sE ?_) | (apply gP; refine sP ?_) | (apply gC; refine sC ?_) | (apply gD; refine sD ?_) | fail)
      refine E_rdnil eI none 0 ?_
      refine E_sub (fun m h s => s.swap) ?_
      refine E_res1 (by rfl) (by rfl) ⟨b, _, _, _, _, hk, rfl, rfl⟩ Sb
  rw [if_neg e34] at h
  simp only [Prod.mk.injEq] at h
  obtain ⟨rfl, h⟩ := h
  repeat' (first | refine go ?_ | intro _ | (apply cG; first | refine cT ?_ | refine cF ?_ | refine cS (fun _ => ?_) fun _ => ?_) | (apply gW; refine sW ?_) | (apply gI; refine sI ?_) | (apply gE; refine sE ?_) | (apply gP; refine sP ?_) | (apply gC; refine sC ?_) | (apply gD; refine sD ?_) | fail)
  refine O_d (dy_call ArgsI.pf (by first | exact rfl | trivial | (intro a b; rfl)) (CT.pull (i := 2) (by rfl) (fIntsR_ct (l := (rList rI (bs, e)).1) (bs' := bs') (e' := e') (by rw [← h]) hl))) ?_; rintro _ _ ⟨_, ⟨b, A, c, hk, rfl, rfl⟩, rfl⟩; refine O_n ?_
  repeat' (first | refine go ?_ | intro _ | (apply cG; first | refine cT ?_ | refine cF ?_ | refine cS (fun _ => ?_) fun _ => ?_) | (apply gW; refine sW ?_) | (apply gI; refine sI ?_) | (apply gE; refine sE ?_) | (apply gP; refine sP ?_) | (apply gC; refine sC ?_) | (apply gD; refine sD ?_) | fail)
  refine E_rdnil eB none 0 ?_
  refine E_res1 (by rfl) (by rfl) ⟨b, _, _, _, _, hk, rfl, rfl⟩ Sb
end
end Go.Proofs.Ytjaopndlcghkcaa
