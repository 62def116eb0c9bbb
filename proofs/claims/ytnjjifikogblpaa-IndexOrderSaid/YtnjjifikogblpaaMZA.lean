/-
  The law IndexOrder.
-/
import Derived.Test.YtnjjifikogblpaaMZ
import Derived.Test.YtnjjifikogblpaaMC
namespace Go.Proofs.Ytnjjifikogblpaa
open Go Go.RowKit
set_option linter.unusedVariables false
set_option linter.unusedSimpArgs false
set_option maxRecDepth 20000
set_option synthInstance.maxSize 100000
set_option synthInstance.maxHeartbeats 400000
/-- the others, numbered from 100 on -/
def nbL (os : List OP) : List Ent := os.mapIdx fun j o => (((100 + j : Nat) : Int), o.e.2)
theorem nb_get {os : List OP} {i : Nat} {o : OP} (h : os[i]? = some o) : (nbL os)[i]? = some (((100 + i : Nat) : Int), o.e.2) := by
  unfold nbL
  rw [List.getElem?_mapIdx, h]
  rfl
theorem nb_len (os : List OP) : (nbL os).length = os.length := by unfold nbL; exact List.length_mapIdx
theorem nb_key {os : List OP} {i : Nat} {a : Ent} (h : (nbL os)[i]? = some a) : a.1 = ((100 + i : Nat) : Int) := by
  unfold nbL at h
  rw [List.getElem?_mapIdx, Option.map_eq_some_iff] at h
  obtain ⟨o, _, rfl⟩ := h
  rfl
theorem hasK_none {l : List Ent} {id : Int} (h : ∀ a ∈ l, a.1 ≠ id) : hasK l id = false := List.any_eq_false.2 fun a ha hk => h a ha (of_decide_eq_true hk)
theorem add_ok {l : List Ent} {id : Int} {x : IT} (h1 : argE id x = true) (h2 : ∀ a ∈ l, a.1 ≠ id) (h3 : l.length < 65536) : addE l id x = 0 ∧ addL l id x = insE l (id, x) := by
  have e : addE l id x = 0 := by unfold addE; rw [if_pos h1, if_neg (by rw [hasK_none h2]; decide), if_neg (by omega)]
  exact ⟨e, if_pos e⟩
theorem arg_ok {id : Int} {x : IT} (h1 : 0 ≤ id ∧ id ≤ 1073741824) (h2 : x.b.good) (h3 : 0 ≤ x.f ∧ x.f ≤ x.t ∧ x.t ≤ 73048) : argE id x = true := by
  unfold argE daysF
  rw [decide_eq_true ⟨h1.1, h1.2, h2⟩, decide_eq_true h3]
  rfl
section
variable {P : Program} {W0 : World} {L : List HP}
set_option maxHeartbeats 4000000 in
theorem IndexOrder_ct {v v2 : Value} {l k : List Int} {n m day : Int} (hv : rd eI v l ∈ L) (hl : l.length ≤ 9223372036854775807) (hr : ∀ n ∈ l, I64 n) (hv2 : rd eI v2 k ∈ L) (hl2 : k.length ≤ 9223372036854775807) (hr2 : ∀ n ∈ k, I64 n) (hn : I64 n) (hm : I64 m) (hday : I64 day) :
    CT Try.prog 6 #[v, v2, .int .i64 n, .int .i64 m, .int .i64 day] W0 L fun r L' => r = .bool true ∧ L' = L := by
  refine CT_fact (fun w s => ((Src.sl (.inl hv) s).form)) ?_
  rintro ⟨A0, c0, rfl, hc0⟩
  refine CT_fact (fun w s => ((Src.sl (.inl hv2) s).form)) ?_
  rintro ⟨B0, d0, rfl, hd0⟩
  refine CT_enter Try.func6 rfl ?_; (simp only [Try.ntmps6, List.size_toArray, List.length_cons, List.length_nil, Nat.reduceAdd, Nat.reduceSub, Array.replicate_succ, Array.replicate_zero, List.push_toArray, List.append_toArray, List.nil_append, List.cons_append])
  repeat' (first | refine go ?_ | intro _ | (apply cG; first | refine cT ?_ | refine cF ?_ | refine cS (fun _ => ?_) fun _ => ?_) | (apply gW; refine sW ?_) | (apply gI; refine sI ?_) | (apply gE; refine sE ?_) | (apply gP; refine sP ?_) | (apply gC; refine sC ?_) | (apply gD; refine sD ?_) | fail)
  refine O_d (dy_call ArgsI.pf (by first | exact rfl | trivial | (intro a b; rfl)) (filled_ct (l := l) (most := 14) hv hr hl (by decide))) ?_; rintro _ _ ⟨_, ⟨T, R, hB, hk, hlk, hf, hlen, rfl, rfl⟩, rfl⟩; refine O_n ?_
  obtain ⟨hT, hw⟩ := hB
  have hgd := fun e he => (hw.g e he).1
  repeat' (first | refine go ?_ | intro _ | (apply cG; first | refine cT ?_ | refine cF ?_ | refine cS (fun _ => ?_) fun _ => ?_) | (apply gW; refine sW ?_) | (apply gI; refine sI ?_) | (apply gE; refine sE ?_) | (apply gP; refine sP ?_) | (apply gC; refine sC ?_) | (apply gD; refine sD ?_) | fail)
  refine O_d (dy_call ArgsI.pf (by first | exact rfl | trivial | (intro a b; rfl)) (New_ct)) ?_; rintro _ _ ⟨_, ⟨U, hU, hUk, rfl, rfl⟩, rfl⟩; refine O_n ?_
  repeat' (first | refine go ?_ | intro _ | (apply cG; first | refine cT ?_ | refine cF ?_ | refine cS (fun _ => ?_) fun _ => ?_) | (apply gW; refine sW ?_) | (apply gI; refine sI ?_) | (apply gE; refine sE ?_) | (apply gP; refine sP ?_) | (apply gC; refine sC ?_) | (apply gD; refine sD ?_) | fail)
  refine O_d (dy_call ArgsI.pf (by first | exact rfl | trivial | (intro a b; rfl)) (rScript_ct (l := k) (most := 8) (.tail _ (.tail _ (.tail _ hv2))) hr2 hl2 (by decide))) ?_; rintro _ _ ⟨_, ⟨A1, c1, os, hos, hol, rfl, rfl⟩, rfl⟩; refine O_n ?_
  repeat' (first | refine go ?_ | intro _ | (apply cG; first | refine cT ?_ | refine cF ?_ | refine cS (fun _ => ?_) fun _ => ?_) | (apply gW; refine sW ?_) | (apply gI; refine sI ?_) | (apply gE; refine sE ?_) | (apply gP; refine sP ?_) | (apply gC; refine sC ?_) | (apply gD; refine sD ?_) | fail)
  obtain ⟨up, hup⟩ : ∃ up, U.p = up := ⟨_, rfl⟩
  rw [hup]
  have hnl := nb_len os
  refine C_sub (S := trA U :: own 58 eOP (.slice A1 os.length c1) os :: trA T :: rtA R :: L) Sb ?_
  refine C_loopS (κ := Nat × TR × List Ent) [false, false, false, false, false, false, false, false, false, false, true, false, false, false, false, false, true, true, false, false, false, false, false, false, false, false, false, false, false, false, false, false, false, false, false, false, false, false, false, false, false, true, true, true, true, true, true, true, true, true, true, true, true, true, true, true, true, true, true, true, true, true, true, false, false, false, false, false, false, false, false, false, false, false, false, false, false, false, false, false, false, false, false, false, false, false, false, false, false, false, false, false, false, false, false, false, false, false, false, false, false, false, false, false, false, false, false, false, false, false, false, false, false, false, false, false, false, false, false, false, false, false, false, false, false, false, false, false, false, false, false, false, false, false, false, false, false, false, false, false, false, false, false, false, false, false, false, false, false] (fun k => [(16, .int .i64 (k.1 : Int))]) (fun k => [(0, trA k.2.1)]) (fun k => k.1 ≤ os.length ∧ k.2.1.p = up ∧ TROk k.2.1 k.2.2 ∧ WFL k.2.2 ∧ k.2.2.Perm ((nbL os).take k.1)) (fun k => os.length - k.1) (0, U, []) ⟨Nat.zero_le _, hup, hU, WFL.nil, List.Perm.nil⟩ ⟨rfl, trivial⟩ ?_
  clear hU hUk hup
  rintro ⟨i, U, lu⟩ u ⟨hi, hp, hU, hwu, hpm⟩
  dsimp only at hi hp hU hwu hpm
  dsimp only
  ((try dsimp only); refine C_n ?_; (try simp only [Nat.reduceAdd, Nat.zero_add]))
  subst hp
  by_cases hio : i < os.length
  · obtain ⟨o, ho⟩ : ∃ o, os[i]? = some o := ⟨_, List.getElem?_eq_getElem hio⟩
    have hao : At os i o := ⟨ho⟩
    obtain ⟨hid, hgo, hf1, hf2, hf3⟩ := hos o (List.mem_of_getElem? ho)
    have hnb := nb_get ho
    have hll := hpm.length_eq
    rw [List.length_take] at hll
    obtain ⟨e1, e2⟩ := add_ok (l := lu) (id := ((100 + i : Nat) : Int)) (x := o.e.2) (arg_ok (by omega) hgo (by omega)) (fun a ha => by
      obtain ⟨j, hj⟩ := List.getElem?_of_mem (hpm.mem_iff.1 ha)
      rw [List.getElem?_take] at hj
      split at hj
      · rw [nb_key hj]; omega
      · cases hj) (by omega)
    have e3 : (100 : Int) + (i : Int) = ((100 + i : Nat) : Int) := by omega
    repeat' (first | refine go ?_ | intro _ | (apply cG; first | refine cT ?_ | refine cF ?_ | refine cS (fun _ => ?_) fun _ => ?_) | (apply gW; refine sW ?_) | (apply gI; refine sI ?_) | (apply gE; refine sE ?_) | (apply gP; refine sP ?_) | (apply gC; refine sC ?_) | (apply gD; refine sD ?_) | fail)
    rw [e3]
    refine O_d (dy_call ArgsI.pf (by first | exact rfl | trivial | (intro a b; rfl)) (CT.pull (i := 1) (by rfl) (Add_ct (id := ((100 + i : Nat) : Int)) (x := o.e.2) hU hwu))) ?_; rintro _ _ ⟨_, ⟨U1, hp1, hk1, hU1, rfl, rfl⟩, rfl⟩; refine O_n ?_
    have hwu1 := hwu.add ((100 + i : Nat) : Int) o.e.2
    rw [e2] at hU1 hwu1
    rw [e1]
    repeat' (first | refine go ?_ | intro _ | (apply cG; first | refine cT ?_ | refine cF ?_ | refine cS (fun _ => ?_) fun _ => ?_) | (apply gW; refine sW ?_) | (apply gI; refine sI ?_) | (apply gE; refine sE ?_) | (apply gP; refine sP ?_) | (apply gC; refine sC ?_) | (apply gD; refine sD ?_) | fail)
    refine E_round (i + 1, U1, insE lu (((100 + i : Nat) : Int), o.e.2)) ⟨hio, hp1, hU1, hwu1, ?_⟩ (by dsimp only; omega) ⟨rfl, trivial⟩ Sb
    dsimp only
    rw [List.take_add_one, hnb]
    exact (insE_perm _ _).symm.trans (hpm.append_right _)
  obtain rfl : i = os.length := by omega
  rw [← hnl, List.take_length] at hpm
  refine C_sub (S := cel R.p [.slice R.A R.l.length R.c, .int .i64 R.lk] 36 :: rd eTh (.slice R.A R.l.length R.c) R.l :: trA U :: own 58 eOP (.slice A1 os.length c1) os :: trA T :: L) (Sub.trans (B := rtA R :: trA U :: own 58 eOP (.slice A1 os.length c1) os :: trA T :: L) Sb rtA_open) ?_
  obtain ⟨up, hup⟩ : ∃ up, U.p = up := ⟨_, rfl⟩
  rw [hup]
  repeat' (first | refine go ?_ | intro _ | (apply cG; first | refine cT ?_ | refine cF ?_ | refine cS (fun _ => ?_) fun _ => ?_) | (apply gW; refine sW ?_) | (apply gI; refine sI ?_) | (apply gE; refine sE ?_) | (apply gP; refine sP ?_) | (apply gC; refine sC ?_) | (apply gD; refine sD ?_) | fail)
  refine C_loopS (κ := Nat × TR × List Ent) [false, false, false, false, false, false, false, false, false, false, true, false, false, false, false, false, false, false, true, true, false, false, false, false, false, false, false, false, false, false, false, false, false, false, false, false, false, false, false, false, false, false, false, false, false, false, false, false, false, false, false, false, false, false, false, false, false, false, false, false, false, false, false, false, false, false, false, false, false, true, true, true, true, true, true, true, true, true, true, true, true, true, true, true, true, true, true, true, true, true, true, false, false, false, false, false, false, false, false, false, false, false, false, false, false, false, false, false, false, false, false, false, false, false, false, false, false, false, false, false, false, false, false, false, false, false, false, false, false, false, false, false, false, false, false, false, false, false, false, false, false, false, false, false, false, false, false, false, false] (fun k => [(18, .int .i64 ((k.1 : Int) - 1))]) (fun k => [(2, trA k.2.1)]) (fun k => k.1 ≤ R.l.length ∧ k.2.1.p = up ∧ TROk k.2.1 k.2.2 ∧ WFL k.2.2 ∧ k.2.2.Perm (nbL os ++ R.l.drop k.1)) (fun k => k.1) (R.l.length, U, lu) ⟨Nat.le_refl _, hup, hU, hwu, by dsimp only; rw [List.drop_length, List.append_nil]; exact hpm⟩ ⟨rfl, trivial⟩ ?_
  clear hU hup hwu hpm hi
  rintro ⟨c, U, lu⟩ u ⟨hi, hp, hU, hwu, hpm⟩
  dsimp only at hi hp hU hwu hpm
  dsimp only
  ((try dsimp only); refine C_n ?_; (try simp only [Nat.reduceAdd, Nat.zero_add]))
  subst hp
  have hll := hpm.length_eq
  rw [List.length_append, List.length_drop, hnl] at hll
  by_cases hc0 : c = 0
  rotate_left
  · obtain ⟨k, rfl⟩ : ∃ k, c = k + 1 := ⟨c - 1, by omega⟩
    obtain ⟨x, hx⟩ : ∃ x, R.l[k]? = some x := ⟨_, List.getElem?_eq_getElem (by omega)⟩
    have en : ((k + 1 : Nat) : Int) - 1 = (k : Int) := by omega
    rw [en]
    have hax : At R.l k x := ⟨hx⟩
    have hxm := List.mem_of_getElem? hx
    obtain ⟨hgx, hdx, hix⟩ := hw.g x hxm
    have hfx := (hf x hxm).1
    have hdrop : R.l.drop k = x :: R.l.drop (k + 1) := by
      rw [List.drop_eq_getElem_cons (List.getElem?_eq_some_iff.1 hx).1, (List.getElem?_eq_some_iff.1 hx).2]
    obtain ⟨e1, e2⟩ := add_ok (l := lu) (id := x.1) (x := x.2) (arg_ok hix hgx hdx) (fun a ha => by
      rcases List.mem_append.1 (hpm.mem_iff.1 ha) with h | h
      · obtain ⟨j, hj⟩ := List.getElem?_of_mem h
        rw [nb_key hj]; omega
      · have hs := hw.s.sublist (List.drop_sublist k R.l)
        rw [hdrop] at hs
        have := (List.pairwise_cons.1 hs).1 a h
        omega) (by omega)
    repeat' (first | refine go ?_ | intro _ | (apply cG; first | refine cT ?_ | refine cF ?_ | refine cS (fun _ => ?_) fun _ => ?_) | (apply gW; refine sW ?_) | (apply gI; refine sI ?_) | (apply gE; refine sE ?_) | (apply gP; refine sP ?_) | (apply gC; refine sC ?_) | (apply gD; refine sD ?_) | fail)
    refine O_d (dy_call ArgsI.pf (by first | exact rfl | trivial | (intro a b; rfl)) (CT.pull (i := 3) (by rfl) (Add_ct (id := x.1) (x := x.2) hU hwu))) ?_; rintro _ _ ⟨_, ⟨U1, hp1, hk1, hU1, rfl, rfl⟩, rfl⟩; refine O_n ?_
    have hwu1 := hwu.add x.1 x.2
    rw [e2] at hU1 hwu1
    rw [e1]
    repeat' (first | refine go ?_ | intro _ | (apply cG; first | refine cT ?_ | refine cF ?_ | refine cS (fun _ => ?_) fun _ => ?_) | (apply gW; refine sW ?_) | (apply gI; refine sI ?_) | (apply gE; refine sE ?_) | (apply gP; refine sP ?_) | (apply gC; refine sC ?_) | (apply gD; refine sD ?_) | fail)
    refine E_round (k, U1, insE lu x) ⟨by dsimp only; omega, hp1, hU1, hwu1, ?_⟩ (by dsimp only; omega) ⟨rfl, trivial⟩ Sb
    dsimp only
    rw [hdrop]
    refine (insE_perm lu x).symm.trans ((hpm.append_right [x]).trans ?_)
    rw [List.append_assoc]
    exact (List.perm_append_singleton x _).append_left _
  subst hc0
  rw [List.drop_zero] at hpm
  obtain ⟨up, hup⟩ : ∃ up, U.p = up := ⟨_, rfl⟩
  rw [hup]
  repeat' (first | refine go ?_ | intro _ | (apply cG; first | refine cT ?_ | refine cF ?_ | refine cS (fun _ => ?_) fun _ => ?_) | (apply gW; refine sW ?_) | (apply gI; refine sI ?_) | (apply gE; refine sE ?_) | (apply gP; refine sP ?_) | (apply gC; refine sC ?_) | (apply gD; refine sD ?_) | fail)
  refine C_loopS (κ := Nat × TR × List Ent) [false, false, false, false, false, false, false, false, false, false, true, false, false, false, false, false, false, false, false, false, true, false, false, false, false, false, false, false, false, false, false, false, false, false, false, false, false, false, false, false, false, false, false, false, false, false, false, false, false, false, false, false, false, false, false, false, false, false, false, false, false, false, false, false, false, false, false, false, false, false, false, false, false, false, false, false, false, false, false, false, false, false, false, false, false, false, false, false, false, false, false, true, true, true, true, true, true, true, true, true, true, true, false, false, false, false, false, false, false, false, false, false, false, false, false, false, false, false, false, false, false, false, false, false, false, false, false, false, false, false, false, false, false, false, false, false, false, false, false, false, false, false, false, false, false, false, false, false, false] (fun k => [(20, .int .i64 (k.1 : Int))]) (fun k => [(2, trA k.2.1)]) (fun k => k.1 ≤ os.length ∧ k.2.1.p = up ∧ TROk k.2.1 k.2.2 ∧ WFL k.2.2 ∧ k.2.2.Perm ((nbL os).drop k.1 ++ R.l)) (fun k => os.length - k.1) (0, U, lu) ⟨Nat.zero_le _, hup, hU, hwu, hpm⟩ ⟨rfl, trivial⟩ ?_
  clear hU hup hwu hpm hll hi
  rintro ⟨i, U, lu⟩ u ⟨hi, hp, hU, hwu, hpm⟩
  dsimp only at hi hp hU hwu hpm
  dsimp only
  ((try dsimp only); refine C_n ?_; (try simp only [Nat.reduceAdd, Nat.zero_add]))
  subst hp
  by_cases hio : i < os.length
  · obtain ⟨o, ho⟩ : ∃ o, os[i]? = some o := ⟨_, List.getElem?_eq_getElem hio⟩
    have hnb := nb_get ho
    have hdrop : (nbL os).drop i = (((100 + i : Nat) : Int), o.e.2) :: (nbL os).drop (i + 1) := by
      rw [List.drop_eq_getElem_cons (List.getElem?_eq_some_iff.1 hnb).1, (List.getElem?_eq_some_iff.1 hnb).2]
    rw [hdrop] at hpm
    have hhas : hasK lu ((100 + i : Nat) : Int) = true := List.any_eq_true.2 ⟨_, hpm.mem_iff.2 (.head _), decide_eq_true rfl⟩
    have e1 : remE lu ((100 + i : Nat) : Int) = 0 := if_pos hhas
    have e3 : (100 : Int) + (i : Int) = ((100 + i : Nat) : Int) := by omega
    repeat' (first | refine go ?_ | intro _ | (apply cG; first | refine cT ?_ | refine cF ?_ | refine cS (fun _ => ?_) fun _ => ?_) | (apply gW; refine sW ?_) | (apply gI; refine sI ?_) | (apply gE; refine sE ?_) | (apply gP; refine sP ?_) | (apply gC; refine sC ?_) | (apply gD; refine sD ?_) | fail)
    rw [e3]
    refine O_d (dy_call ArgsI.pf (by first | exact rfl | trivial | (intro a b; rfl)) (CT.pull (i := 2) (by rfl) (Remove_ct (id := ((100 + i : Nat) : Int)) hU hwu))) ?_; rintro _ _ ⟨_, ⟨U1, hp1, hk1, hU1, rfl, rfl⟩, rfl⟩; refine O_n ?_
    have hwu1 := hwu.del ((100 + i : Nat) : Int)
    rw [e1]
    repeat' (first | refine go ?_ | intro _ | (apply cG; first | refine cT ?_ | refine cF ?_ | refine cS (fun _ => ?_) fun _ => ?_) | (apply gW; refine sW ?_) | (apply gI; refine sI ?_) | (apply gE; refine sE ?_) | (apply gP; refine sP ?_) | (apply gC; refine sC ?_) | (apply gD; refine sD ?_) | fail)
    refine E_round (i + 1, U1, delE ((100 + i : Nat) : Int) lu) ⟨hio, hp1, hU1, hwu1, ?_⟩ (by dsimp only; omega) ⟨rfl, trivial⟩ Sb
    dsimp only
    refine (hpm.filter _).trans ?_
    refine List.Perm.of_eq ?_
    rw [List.cons_append, List.filter_cons_of_neg (by simp)]
    refine List.filter_eq_self.2 ?_
    · intro a ha
      refine decide_eq_true ?_
      rcases List.mem_append.1 ha with h | h
      · obtain ⟨j, hj⟩ := List.getElem?_of_mem h
        rw [List.getElem?_drop] at hj
        rw [nb_key hj]; omega
      · have := (hf a h).1; omega
  obtain rfl : i = os.length := by omega
  rw [show (nbL os).drop os.length = [] from by rw [← hnl]; exact List.drop_length, List.nil_append] at hpm
  have hU2 : TROk U R.l := ⟨hU.mm.trans hpm, hU.rt.perm hpm⟩
  repeat' (first | refine go ?_ | intro _ | (apply cG; first | refine cT ?_ | refine cF ?_ | refine cS (fun _ => ?_) fun _ => ?_) | (apply gW; refine sW ?_) | (apply gI; refine sI ?_) | (apply gE; refine sE ?_) | (apply gP; refine sP ?_) | (apply gC; refine sC ?_) | (apply gD; refine sD ?_) | fail)
  refine O_d (dy_call ArgsI.pf (by first | exact rfl | trivial | (intro a b; rfl)) (rBox_ct hn hm)) ?_; rintro _ _ ⟨_, ⟨b, hb, rfl, rfl⟩, rfl⟩; refine O_n ?_
  repeat' (first | refine go ?_ | intro _ | (apply cG; first | refine cT ?_ | refine cF ?_ | refine cS (fun _ => ?_) fun _ => ?_) | (apply gW; refine sW ?_) | (apply gI; refine sI ?_) | (apply gE; refine sE ?_) | (apply gP; refine sP ?_) | (apply gC; refine sC ?_) | (apply gD; refine sD ?_) | fail)
  rename_i pb
  have hd := around_in (n := day) (most := 9) (by decide)
  obtain ⟨d, hde⟩ : ∃ d, around day 9 = d := ⟨_, rfl⟩
  rw [hde] at hd
  have hfk : fokB b d = true := by
    unfold fokB daysF
    rw [decide_eq_true hb, decide_eq_true ⟨hd.1, Int.le_refl _, by omega⟩]
    rfl
  have hfl : (findL R.l b d).length ≤ R.l.length := by
    rw [show findL R.l b d = hitsF b d R.l from if_pos hfk]
    unfold hitsF
    rw [List.length_map]
    exact List.length_filter_le _ _
  refine C_draw (n := 99) [cel pb [.int .i64 b.x0, .int .i64 b.y0, .int .i64 b.x1, .int .i64 b.y1] 31] [(0, 1), (1, 1), (2, 1), (3, 0), (4, 0), (5, 1), (6, 1), (7, 1), (8, 1), (9, 1)] (by kernel_rfl) (by kernel_rfl) Sb ?_
  repeat' (first | refine go ?_ | intro _ | (apply cG; first | refine cT ?_ | refine cF ?_ | refine cS (fun _ => ?_) fun _ => ?_) | (apply gW; refine sW ?_) | (apply gI; refine sI ?_) | (apply gE; refine sE ?_) | (apply gP; refine sP ?_) | (apply gC; refine sC ?_) | (apply gD; refine sD ?_) | fail)
  refine D_op rfl ?_; refine X_d (dy_call ArgsI.pf (by first | exact rfl | trivial | (intro a b; rfl)) (Around_ct (n := day) (most := 9) hday.1 hday.2 (by decide) (by decide))) ?_; rintro _ _ ⟨_, ⟨rfl, hLL⟩, rfl⟩; replace hLL := hLL.symm; subst hLL; refine ⟨(by first | exact .inl rfl | exact .inr Sb), D_n ?_⟩
  rw [hde]
  repeat' (first | refine go ?_ | intro _ | (apply cG; first | refine cT ?_ | refine cF ?_ | refine cS (fun _ => ?_) fun _ => ?_) | (apply gW; refine sW ?_) | (apply gI; refine sI ?_) | (apply gE; refine sE ?_) | (apply gP; refine sP ?_) | (apply gC; refine sC ?_) | (apply gD; refine sD ?_) | fail)
  refine D_op rfl ?_; refine X_d (dy_call ArgsI.pf (by first | exact rfl | trivial | (intro a b; rfl)) (CT.pull (i := 5) (by rfl) (Find2_ct (b := b) (d := d) hT hw))) ?_; rintro _ _ ⟨_, ⟨A3, c3, T1, hp1, hT1, hlk1, rfl, rfl⟩, rfl⟩; refine ⟨(by first | exact .inl rfl | exact .inr Sb), D_n ?_⟩
  repeat' (first | refine go ?_ | intro _ | (apply cG; first | refine cT ?_ | refine cF ?_ | refine cS (fun _ => ?_) fun _ => ?_) | (apply gW; refine sW ?_) | (apply gI; refine sI ?_) | (apply gE; refine sE ?_) | (apply gP; refine sP ?_) | (apply gC; refine sC ?_) | (apply gD; refine sD ?_) | fail)
  refine C_draw (n := 99) [cel pb [.int .i64 b.x0, .int .i64 b.y0, .int .i64 b.x1, .int .i64 b.y1] 31] [(0, 1), (1, 1), (2, 1), (3, 0), (4, 0), (5, 1), (6, 1), (7, 1), (8, 1), (9, 1)] (by kernel_rfl) (by kernel_rfl) Sb ?_
  repeat' (first | refine go ?_ | intro _ | (apply cG; first | refine cT ?_ | refine cF ?_ | refine cS (fun _ => ?_) fun _ => ?_) | (apply gW; refine sW ?_) | (apply gI; refine sI ?_) | (apply gE; refine sE ?_) | (apply gP; refine sP ?_) | (apply gC; refine sC ?_) | (apply gD; refine sD ?_) | fail)
  refine D_op rfl ?_; refine X_d (dy_call ArgsI.pf (by first | exact rfl | trivial | (intro a b; rfl)) (Around_ct (n := day) (most := 9) hday.1 hday.2 (by decide) (by decide))) ?_; rintro _ _ ⟨_, ⟨rfl, hLL⟩, rfl⟩; replace hLL := hLL.symm; subst hLL; refine ⟨(by first | exact .inl rfl | exact .inr Sb), D_n ?_⟩
  rw [hde]
  repeat' (first | refine go ?_ | intro _ | (apply cG; first | refine cT ?_ | refine cF ?_ | refine cS (fun _ => ?_) fun _ => ?_) | (apply gW; refine sW ?_) | (apply gI; refine sI ?_) | (apply gE; refine sE ?_) | (apply gP; refine sP ?_) | (apply gC; refine sC ?_) | (apply gD; refine sD ?_) | fail)
  refine D_op rfl ?_; refine X_d (dy_call ArgsI.pf (by first | exact rfl | trivial | (intro a b; rfl)) (CT.pull (i := 5) (by rfl) (Find2_ct (T := U) (b := b) (d := d) hU2 hw))) ?_; rintro _ _ ⟨_, ⟨A4, c4, U1, hq1, hU1, hlk2, rfl, rfl⟩, rfl⟩; refine ⟨(by first | exact .inl rfl | exact .inr Sb), D_n ?_⟩
  rw [if_pos hfk] at hlk1 hlk2
  rw [show findE b d = 0 from if_pos hfk]
  obtain ⟨o1, ho1⟩ : ∃ o, findL R.l b d = o := ⟨_, rfl⟩
  rw [ho1] at hfl ⊢
  rw [← hp1, ← hq1]
  repeat' (first | refine go ?_ | intro _ | (apply cG; first | refine cT ?_ | refine cF ?_ | refine cS (fun _ => ?_) fun _ => ?_) | (apply gW; refine sW ?_) | (apply gI; refine sI ?_) | (apply gE; refine sE ?_) | (apply gP; refine sP ?_) | (apply gC; refine sC ?_) | (apply gD; refine sD ?_) | fail)
  refine O_d (dy_call ArgsI.pf (by first | exact rfl | trivial | (intro a b; rfl)) (SameInts_ct (q := true) (la := o1) (lb := o1) (.inr ⟨_, .tail _ (.tail _ (.head _))⟩) (.inr ⟨_, .head _⟩) (by omega) (by omega) (decide_eq_true rfl))) ?_; rintro _ _ ⟨_, ⟨rfl, hLL⟩, rfl⟩; replace hLL := hLL.symm; subst hLL; refine O_n ?_
  repeat' (first | refine go ?_ | intro _ | (apply cG; first | refine cT ?_ | refine cF ?_ | refine cS (fun _ => ?_) fun _ => ?_) | (apply gW; refine sW ?_) | (apply gI; refine sI ?_) | (apply gE; refine sE ?_) | (apply gP; refine sP ?_) | (apply gC; refine sC ?_) | (apply gD; refine sD ?_) | fail)
  refine O_d (dy_call ArgsI.pf (by first | exact rfl | trivial | (intro a b; rfl)) (CT.pull (i := 3) (by rfl) (Looks_ct (T := T1)))) ?_; rintro _ _ ⟨_, ⟨rfl, rfl⟩, rfl⟩; refine O_n ?_
  repeat' (first | refine go ?_ | intro _ | (apply cG; first | refine cT ?_ | refine cF ?_ | refine cS (fun _ => ?_) fun _ => ?_) | (apply gW; refine sW ?_) | (apply gI; refine sI ?_) | (apply gE; refine sE ?_) | (apply gP; refine sP ?_) | (apply gC; refine sC ?_) | (apply gD; refine sD ?_) | fail)
  refine O_d (dy_call ArgsI.pf (by first | exact rfl | trivial | (intro a b; rfl)) (CT.pull (i := 2) (by rfl) (Looks_ct (T := U1)))) ?_; rintro _ _ ⟨_, ⟨rfl, rfl⟩, rfl⟩; refine O_n ?_
  rw [hlk1, hlk2]
  repeat' (first | refine go ?_ | intro _ | (apply cG; first | refine cT ?_ | refine cF ?_ | refine cS (fun _ => ?_) fun _ => ?_) | (apply gW; refine sW ?_) | (apply gI; refine sI ?_) | (apply gE; refine sE ?_) | (apply gP; refine sP ?_) | (apply gC; refine sC ?_) | (apply gD; refine sD ?_) | fail)
  refine O_d (dy_call ArgsI.pf (by first | exact rfl | trivial | (intro a b; rfl)) (CT.pull (i := 1) (by rfl) (Len_ct hT1))) ?_; rintro _ _ ⟨_, ⟨rfl, rfl⟩, rfl⟩; refine O_n ?_
  repeat' (first | refine go ?_ | intro _ | (apply cG; first | refine cT ?_ | refine cF ?_ | refine cS (fun _ => ?_) fun _ => ?_) | (apply gW; refine sW ?_) | (apply gI; refine sI ?_) | (apply gE; refine sE ?_) | (apply gP; refine sP ?_) | (apply gC; refine sC ?_) | (apply gD; refine sD ?_) | fail)
  refine O_d (dy_call ArgsI.pf (by first | exact rfl | trivial | (intro a b; rfl)) (CT.pull (i := 1) (by rfl) (Len_ct hU1))) ?_; rintro _ _ ⟨_, ⟨rfl, rfl⟩, rfl⟩; refine O_n ?_
  repeat' (first | refine go ?_ | intro _ | (apply cG; first | refine cT ?_ | refine cF ?_ | refine cS (fun _ => ?_) fun _ => ?_) | (apply gW; refine sW ?_) | (apply gI; refine sI ?_) | (apply gE; refine sE ?_) | (apply gP; refine sP ?_) | (apply gC; refine sC ?_) | (apply gD; refine sD ?_) | fail)
  refine O_d (dy_call ArgsI.pf (by first | exact rfl | trivial | (intro a b; rfl)) (lives_ct)) ?_; rintro _ _ ⟨_, ⟨rfl, hLL⟩, rfl⟩; replace hLL := hLL.symm; subst hLL; refine O_n ?_
  repeat' (first | refine go ?_ | intro _ | (apply cG; first | refine cT ?_ | refine cF ?_ | refine cS (fun _ => ?_) fun _ => ?_) | (apply gW; refine sW ?_) | (apply gI; refine sI ?_) | (apply gE; refine sE ?_) | (apply gP; refine sP ?_) | (apply gC; refine sC ?_) | (apply gD; refine sD ?_) | fail)
  refine E_res1 (by rfl) (by rfl) ⟨rfl, rfl⟩ Sb
end
theorem IndexOrder_any {v v2 : Value} {l k : List Int} {n m day : Int} {w : World} (s : St w w [rd eI v l, rd eI v2 k]) (hl : l.length ≤ 9223372036854775807) (hr : ∀ n ∈ l, I64 n) (hl2 : k.length ≤ 9223372036854775807) (hr2 : ∀ n ∈ k, I64 n) (hn : I64 n) (hm : I64 m) (hd : I64 day) :
    Calls Try.prog 6 #[v, v2, .int .i64 n, .int .i64 m, .int .i64 day] w fun e w' => e = .returned (.bool true) ∧ Below w.heap.size w w' :=
  ((IndexOrder_ct (W0 := w) (.head _) hl hr (.tail _ (.head _)) hl2 hr2 hn hm hd).run w s).mono fun e w' h => by
    obtain ⟨v, L', rfl, ⟨rfl, rfl⟩, s⟩ := h
    exact ⟨rfl, s.below⟩
end Go.Proofs.Ytnjjifikogblpaa
namespace Go.Proofs.Ytnjjifikogblpaa
open Go Go.RowKit
set_option linter.unusedVariables false
set_option linter.unusedSimpArgs false
def toB (n : Int) : UInt8 := UInt8.ofNat n.toNat
theorem toB_wf {n : Int} (h : (Lit.int .u8 n).wf = true) : ((toB n).toNat : Int) = n := by
  simp [Lit.wf, IntKind.min, IntKind.max, IntKind.signed, IntKind.bits] at h
  unfold toB
  simp
  omega
/-- a row of numbers of one kind, said as the rows' proofs say it -/
theorem row_sl {α : Type} {f : α → Value} {hf : ∀ a, (f a).oneCell' = true} {k : IntKind} {w : World} {a : Option Addr} {len cap : Nat} {zs : List Int} {l : List α} (hl : l.map f = (zs.take len).map (Value.int k)) (hz : zs.length = cap) (hlc : len ≤ cap)
    {x : Addr} (ha : a = some x) (hcell : ∀ i, i < zs.length → w.cell? (x.add i) = some (.int k (zs.getD i 0))) : Sl (Hp.of w) (e1 f hf) (.slice a len cap) l := by
  have hlen : l.length = len := by
    have := congrArg List.length hl
    simp at this
    omega
  subst hlen
  refine ⟨a, cap, l.map fun b => [f b], rfl, hlc, all2_e1.2 rfl, ?_⟩
  by_cases h0 : l = []
  · exact .inl h0
  · right
    have hpos : 0 < l.length := List.length_pos_iff.2 h0
    obtain ⟨b, off, spot⟩ := x
    have h1 := hcell 0 (by omega)
    have hspot : spot = none := by simpa [Addr.add] using World.cell?_spot h1
    subst hspot
    rw [flat_one]
    have hb : ∃ cs t fr, w.heap[b]? = some (.cells cs t fr) := by
      unfold World.cell? at h1
      simp only [Addr.add] at h1
      split at h1
      · rename_i cs t fr he; exact ⟨cs, t, fr, he⟩
      · cases h1
    obtain ⟨cs, t, fr, hb⟩ := hb
    refine ⟨b, off, cs, t, fr, ha, hb, ?_⟩
    intro j u hj
    rw [hl] at hj
    have hjl : j < l.length := by
      have := (List.getElem?_eq_some_iff.1 hj).1
      simp at this
      omega
    have h2 := hcell j (by omega)
    have h3 : w.cell? ⟨b, off + j, none⟩ = some (.int k (zs.getD j 0)) := by
      have e : (Addr.add ⟨b, off, none⟩ j) = ⟨b, off + j, none⟩ := by
        by_cases hj0 : j = 0
        · subst hj0; rfl
        · simp [Addr.add, hj0]
      rw [e] at h2
      exact h2
    have h4 : cs[off + j]? = some (.int k (zs.getD j 0)) := by simpa [World.cell?, hb] using h3
    rw [h4]
    rw [List.getElem?_map, List.getElem?_take, if_pos hjl] at hj
    rw [List.getD_eq_getElem?_getD]
    cases hzz : zs[j]? with
    | none => rw [hzz] at hj; cases hj
    | some z => rw [hzz] at hj; simpa using hj
theorem row_i64 {w : World} {a : Option Addr} {len cap : Nat} {zs : List Int} (h : (a = none ∧ len = 0 ∧ cap = 0 ∧ zs = []) ∨
    ∃ x, a = some x ∧ len ≤ cap ∧ cap ≤ maxLen ∧ zs.length = cap ∧ (∀ i, i < zs.length → w.cell? (x.add i) = some (.int .i64 (zs.getD i 0))) ∧ ∀ n ∈ zs, (Lit.int .i64 n).wf = true) :
    ∃ l : List Int, Sl (Hp.of w) eI (.slice a len cap) l ∧ l.length = len ∧ len ≤ 9223372036854775807 ∧ ∀ n ∈ l, -9223372036854775808 ≤ n ∧ n ≤ 9223372036854775807 := by
  rcases h with ⟨rfl, rfl, rfl, rfl⟩ | ⟨x, ha, hl, hm, hz, hc, hw⟩
  · exact ⟨[], ⟨none, 0, [], rfl, Nat.le_refl _, trivial, .inl rfl⟩, rfl, by omega, by simp⟩
  · unfold maxLen at hm
    refine ⟨zs.take len, row_sl rfl hz hl ha hc, by simp; omega, by omega, fun n hn => ?_⟩
    have := hw n (List.mem_of_mem_take hn)
    simpa [Lit.wf, IntKind.min, IntKind.max, IntKind.signed, IntKind.bits] using this
theorem row_u8 {w : World} {a : Option Addr} {len cap : Nat} {zs : List Int} (h : (a = none ∧ len = 0 ∧ cap = 0 ∧ zs = []) ∨
    ∃ x, a = some x ∧ len ≤ cap ∧ cap ≤ maxLen ∧ zs.length = cap ∧ (∀ i, i < zs.length → w.cell? (x.add i) = some (.int .u8 (zs.getD i 0))) ∧ ∀ n ∈ zs, (Lit.int .u8 n).wf = true) :
    ∃ l : List UInt8, Sl (Hp.of w) eB (.slice a len cap) l ∧ l.length = len ∧ len ≤ 9223372036854775807 := by
  rcases h with ⟨rfl, rfl, rfl, rfl⟩ | ⟨x, ha, hl, hm, hz, hc, hw⟩
  · exact ⟨[], ⟨none, 0, [], rfl, Nat.le_refl _, trivial, .inl rfl⟩, rfl, by omega⟩
  · unfold maxLen at hm
    refine ⟨(zs.take len).map toB, row_sl ?_ hz hl ha hc, by simp; omega, by omega⟩
    rw [List.map_map]
    refine List.map_congr_left fun n hn => ?_
    show bv (toB n) = _
    rw [bv, toB_wf (hw n (List.mem_of_mem_take hn))]
theorem St.mem_ {W : World} {α : Type} {R : Enc α} {v : Value} {l : List α} {L : List HP} (h : Sl (Hp.of W) R v l) (hS : St W W L) : St W W (Go.Proofs.Ytnjjifikogblpaa.rd R v l :: L) := hS.old h
end Go.Proofs.Ytnjjifikogblpaa
