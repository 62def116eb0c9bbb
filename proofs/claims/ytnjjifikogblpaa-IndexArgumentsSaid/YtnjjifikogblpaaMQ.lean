/-
  The index's tree: New, Len, Looks, Add, Remove.
-/
import Derived.Lib.Hide
import Derived.Shelf.SortM.Plain
import Derived.Shelf.SortM.SortNone
import Derived.Ground.SlgmProg
import Derived.Test.YtnjjifikogblpaaMP
import Derived.Test.YtnjjifikogblpaaMJ
namespace Go.Proofs.Ytnjjifikogblpaa
open Go Go.RowKit
set_option linter.unusedVariables false
set_option linter.unusedSimpArgs false
set_option maxRecDepth 20000
set_option synthInstance.maxSize 100000
set_option synthInstance.maxHeartbeats 400000
/-- the things of a tree, in the order of their numbers -/
structure WFL (l : List Ent) : Prop where
  s : l.Pairwise fun a b => a.1 < b.1
  g : ∀ e ∈ l, e.2.b.good ∧ (0 ≤ e.2.f ∧ e.2.f ≤ e.2.t ∧ e.2.t ≤ 73048) ∧ 0 ≤ e.1 ∧ e.1 ≤ 1073741824
  n : l.length ≤ 65536
theorem WFL.keys {l : List Ent} (h : WFL l) : KeysU l := List.pairwise_map.2 (h.s.imp fun h => by omega)
theorem WFL.nil : WFL [] := ⟨List.Pairwise.nil, (fun e h => (by cases h)), Nat.zero_le _⟩
def hasK (l : List Ent) (id : Int) : Bool := l.any fun a => decide (a.1 = id)
theorem hasK_false {l : List Ent} {id : Int} (h : hasK l id = false) : ∀ a ∈ l, a.1 ≠ id := fun a ha hk => by
  have := List.any_eq_false.1 h a ha
  exact this (decide_eq_true hk)
theorem hasK_true {l : List Ent} {id : Int} (h : hasK l id = true) : ∃ x, (id, x) ∈ l := by
  obtain ⟨⟨k, x⟩, ha, hk⟩ := List.any_eq_true.1 h
  have hk' : k = id := of_decide_eq_true hk
  subst hk'
  exact ⟨x, ha⟩
/-- a thing put into its place -/
def insE (l : List Ent) (e : Ent) : List Ent := l.takeWhile (fun a => decide (a.1 < e.1)) ++ e :: l.dropWhile (fun a => decide (a.1 < e.1))
theorem insE_perm (l : List Ent) (e : Ent) : (l ++ [e]).Perm (insE l e) := by
  unfold insE
  refine (List.perm_append_singleton e l).trans (List.Perm.trans ?_ List.perm_middle.symm)
  rw [List.takeWhile_append_dropWhile]
def argE (id : Int) (x : IT) : Bool := decide (0 ≤ id ∧ id ≤ 1073741824 ∧ x.b.good) && daysF x.f x.t
def addE (l : List Ent) (id : Int) (x : IT) : Int := if argE id x = true then (if hasK l id = true then 8 else if 65536 ≤ l.length then 4 else 0) else 1
def addL (l : List Ent) (id : Int) (x : IT) : List Ent := if addE l id x = 0 then insE l (id, x) else l
theorem argE_ok {id : Int} {x : IT} (h : argE id x = true) : 0 ≤ id ∧ id ≤ 1073741824 ∧ x.b.good ∧ 0 ≤ x.f ∧ x.f ≤ x.t ∧ x.t ≤ 73048 := by
  unfold argE daysF at h
  rw [Bool.and_eq_true] at h
  obtain ⟨h1, h2, h3⟩ := of_decide_eq_true h.1
  obtain ⟨h4, h5, h6⟩ := of_decide_eq_true h.2
  exact ⟨h1, h2, h3, h4, h5, h6⟩
theorem add_zero {l : List Ent} {id : Int} {x : IT} (h : addE l id x = 0) : argE id x = true ∧ hasK l id = false ∧ l.length < 65536 := by
  unfold addE at h
  split at h
  · rename_i h1
    split at h
    · cases h
    · rename_i h2
      split at h
      · cases h
      · exact ⟨h1, by simpa using h2, by omega⟩
  · cases h
theorem takeWhile_all {p : Ent → Bool} : ∀ {l : List Ent}, ∀ a ∈ l.takeWhile p, p a = true
  | [], a, h => (by cases h)
  | x :: l, a, h => by
    rw [List.takeWhile_cons] at h
    split at h
    · rename_i hx
      rcases List.mem_cons.1 h with rfl | h
      · exact hx
      · exact takeWhile_all a h
    · cases h
theorem drop_ge {id : Int} : ∀ {l : List Ent}, l.Pairwise (fun a b => a.1 < b.1) → ∀ a ∈ l.dropWhile (fun a => decide (a.1 < id)), id ≤ a.1
  | [], _, a, h => (by cases h)
  | x :: l, hs, a, h => by
    obtain ⟨h1, h2⟩ := List.pairwise_cons.1 hs
    rw [List.dropWhile_cons] at h
    split at h
    · exact drop_ge h2 a h
    · rename_i hx
      have hx' : ¬ x.1 < id := fun h' => hx (decide_eq_true h')
      rcases List.mem_cons.1 h with rfl | h
      · omega
      · have := h1 a h
        omega
theorem WFL.add {l : List Ent} (h : WFL l) (id : Int) (x : IT) : WFL (addL l id x) := by
  unfold addL
  split
  · rename_i h0
    obtain ⟨h1, h2, h3⟩ := add_zero h0
    obtain ⟨g1, g2, g3, g4, g5, g6⟩ := argE_ok h1
    have hn := hasK_false h2
    have hp := insE_perm l (id, x)
    refine ⟨?_, fun e he => ?_, ?_⟩
    · unfold insE
      refine List.pairwise_append.2 ⟨h.s.sublist (List.takeWhile_sublist _), List.pairwise_cons.2 ⟨fun a ha => ?_, h.s.sublist (List.dropWhile_sublist _)⟩, fun a ha c hc => ?_⟩
      · have := drop_ge h.s a ha
        have := hn a ((List.dropWhile_sublist _).subset ha)
        show id < a.1
        omega
      · have h5 : a.1 < id := of_decide_eq_true (takeWhile_all a ha)
        rcases List.mem_cons.1 hc with rfl | hc
        · exact h5
        · have := drop_ge h.s c hc
          omega
    · have := hp.symm.mem_iff.1 he
      rcases List.mem_append.1 this with h6 | h6
      · exact h.g e h6
      · rw [List.mem_singleton] at h6
        subst h6
        exact ⟨g3, ⟨g4, g5, g6⟩, g1, g2⟩
    · rw [← hp.length_eq, List.length_append, List.length_singleton]
      omega
  · exact h
theorem WFL.del {l : List Ent} (h : WFL l) (id : Int) : WFL (delE id l) := ⟨h.s.sublist List.filter_sublist, fun e he => h.g e (List.mem_filter.1 he).1, Nat.le_trans (List.length_filter_le _ _) h.n⟩
def remE (l : List Ent) (id : Int) : Int := if hasK l id = true then 0 else 7
structure TR where
  p : Nat
  m : Nat
  mm : List Ent
  rt : QT
  lk : Int
def trA (T : TR) : HP := sp [cel T.p [T.rt.val, .map (some T.m), .int .i64 T.lk] 68, mapo mIT T.m T.mm, qta T.rt]
structure TROk (T : TR) (l : List Ent) : Prop where
  mm : T.mm.Perm l
  rt : QOk T.rt 32 l
theorem posM_some {l : List Ent} {id : Int} {x : IT} (hu : KeysU l) (h : (id, x) ∈ l) : ∃ q, posM id l 0 = some q ∧ q.2 = x := by
  cases hp : posM id l 0 with
  | none => exact absurd rfl (posM_none.1 hp _ h)
  | some q =>
    refine ⟨q, rfl, ?_⟩
    have h1 := List.mem_of_getElem? (posM_lt hp).2.2
    have h2 := hu.one h1 h rfl
    exact congrArg Prod.snd h2
section
variable {W0 : World} {L : List HP}
theorem trA_open {T : TR} : Sub (trA T :: L) (cel T.p [T.rt.val, .map (some T.m), .int .i64 T.lk] 68 :: mapo mIT T.m T.mm :: qta T.rt :: L) := sub_open (Ls := [cel T.p [T.rt.val, .map (some T.m), .int .i64 T.lk] 68, mapo mIT T.m T.mm, qta T.rt])
theorem trA_close {T : TR} : Sub (cel T.p [T.rt.val, .map (some T.m), .int .i64 T.lk] 68 :: mapo mIT T.m T.mm :: qta T.rt :: L) (trA T :: L) := sub_close (Ls := [cel T.p [T.rt.val, .map (some T.m), .int .i64 T.lk] 68, mapo mIT T.m T.mm, qta T.rt])
theorem New_ct : CT Try.prog 26 #[] W0 L fun r L' => ∃ T : TR, TROk T [] ∧ T.lk = 0 ∧ r = .pointer (some ⟨T.p, 0, none⟩) ∧ L' = trA T :: L := by
  refine CT_enter Try.func26 rfl ?_; (simp only [Try.ntmps26, List.size_toArray, List.length_cons, List.length_nil, Nat.reduceAdd, Nat.reduceSub, Array.replicate_succ, Array.replicate_zero, List.push_toArray, List.append_toArray, List.nil_append, List.cons_append])
  repeat' (first | refine go ?_ | intro _ | (apply cG; first | refine cT ?_ | refine cF ?_ | refine cS (fun _ => ?_) fun _ => ?_) | (apply gW; refine sW ?_) | (apply gI; refine sI ?_) | (apply gE; refine sE ?_) | (apply gP; refine sP ?_) | (apply gC; refine sC ?_) | (apply gD; refine sD ?_) | fail)
  refine O_d (dy_mkmap mIT) ?_; rintro _ _ ⟨m, rfl, rfl⟩; refine O_n ?_
  repeat' (first | refine go ?_ | intro _ | (apply cG; first | refine cT ?_ | refine cF ?_ | refine cS (fun _ => ?_) fun _ => ?_) | (apply gW; refine sW ?_) | (apply gI; refine sI ?_) | (apply gE; refine sE ?_) | (apply gP; refine sP ?_) | (apply gC; refine sC ?_) | (apply gD; refine sD ?_) | fail)
  rename_i p
  refine E_res1 (by rfl) (by rfl) ⟨⟨p, m, [], .nil, 0⟩, ⟨List.Perm.nil, rfl⟩, rfl, rfl, rfl⟩ ?_
  exact Sub.trans (B := cel p [.pointer none, .map (some m), .int .i64 0] 68 :: mapo mIT m [] :: qta .nil :: L) (Sub.trans qta_nil Sb) (trA_close (T := ⟨p, m, [], .nil, 0⟩))
theorem Len_ct {T : TR} {l : List Ent} (h : TROk T l) : CT Try.prog 21 #[.pointer (some ⟨T.p, 0, none⟩)] W0 (trA T :: L) fun r L' => r = .int .i64 (l.length : Int) ∧ L' = trA T :: L := by
  refine CT.sub ?_ trA_open
  refine CT_enter Try.func21 rfl ?_; (simp only [Try.ntmps21, List.size_toArray, List.length_cons, List.length_nil, Nat.reduceAdd, Nat.reduceSub, Array.replicate_succ, Array.replicate_zero, List.push_toArray, List.append_toArray, List.nil_append, List.cons_append])
  repeat' (first | refine go ?_ | intro _ | (apply cG; first | refine cT ?_ | refine cF ?_ | refine cS (fun _ => ?_) fun _ => ?_) | (apply gW; refine sW ?_) | (apply gI; refine sI ?_) | (apply gE; refine sE ?_) | (apply gP; refine sP ?_) | (apply gC; refine sC ?_) | (apply gD; refine sD ?_) | fail)
  refine O_s (sv_lenM (R := mIT) (by repeat (first | exact .head _ | refine .tail _ ?_))) ?_
  rw [h.mm.length_eq]
  repeat' (first | refine go ?_ | intro _ | (apply cG; first | refine cT ?_ | refine cF ?_ | refine cS (fun _ => ?_) fun _ => ?_) | (apply gW; refine sW ?_) | (apply gI; refine sI ?_) | (apply gE; refine sE ?_) | (apply gP; refine sP ?_) | (apply gC; refine sC ?_) | (apply gD; refine sD ?_) | fail)
  refine E_res1 (by rfl) (by rfl) ⟨rfl, rfl⟩ trA_close
theorem Looks_ct {T : TR} : CT Try.prog 11 #[.pointer (some ⟨T.p, 0, none⟩)] W0 (trA T :: L) fun r L' => r = .int .i64 T.lk ∧ L' = trA T :: L := by
  refine CT.sub ?_ trA_open
  refine CT_enter Try.func11 rfl ?_; (simp only [Try.ntmps11, List.size_toArray, List.length_cons, List.length_nil, Nat.reduceAdd, Nat.reduceSub, Array.replicate_succ, Array.replicate_zero, List.push_toArray, List.append_toArray, List.nil_append, List.cons_append])
  repeat' (first | refine go ?_ | intro _ | (apply cG; first | refine cT ?_ | refine cF ?_ | refine cS (fun _ => ?_) fun _ => ?_) | (apply gW; refine sW ?_) | (apply gI; refine sI ?_) | (apply gE; refine sE ?_) | (apply gP; refine sP ?_) | (apply gC; refine sC ?_) | (apply gD; refine sD ?_) | fail)
  refine E_res1 (by rfl) (by rfl) ⟨rfl, rfl⟩ trA_close
set_option maxHeartbeats 2000000 in
theorem Add_ct {T : TR} {l : List Ent} {id : Int} {x : IT} (h : TROk T l) (hl : WFL l) : CT Try.prog 19 #[.pointer (some ⟨T.p, 0, none⟩), .int .i64 id, bxV x.b, .int .i64 x.f, .int .i64 x.t] W0 (trA T :: L) fun r L' => ∃ T' : TR, T'.p = T.p ∧ T'.lk = T.lk ∧ TROk T' (addL l id x) ∧ r = .int .i64 (addE l id x) ∧ L' = trA T' :: L := by
  refine CT.sub ?_ trA_open
  have hno : argE id x = false → addE l id x = 1 ∧ addL l id x = l := fun h => by
    have : addE l id x = 1 := by unfold addE; rw [if_neg (by rw [h]; decide)]
    exact ⟨this, by unfold addL; rw [if_neg (by rw [this]; decide)]⟩
  by_cases c1 : 0 ≤ id
  rotate_left
  · obtain ⟨e1, e2⟩ := hno (by unfold argE; rw [decide_eq_false (fun h => c1 h.1)]; rfl)
    rw [e1, e2]
    refine CT_enter Try.func19 rfl ?_; (simp only [Try.ntmps19, List.size_toArray, List.length_cons, List.length_nil, Nat.reduceAdd, Nat.reduceSub, Array.replicate_succ, Array.replicate_zero, List.push_toArray, List.append_toArray, List.nil_append, List.cons_append])
    repeat' (first | refine go ?_ | intro _ | (apply cG; first | refine cT ?_ | refine cF ?_ | refine cS (fun _ => ?_) fun _ => ?_) | (apply gW; refine sW ?_) | (apply gI; refine sI ?_) | (apply gE; refine sE ?_) | (apply gP; refine sP ?_) | (apply gC; refine sC ?_) | (apply gD; refine sD ?_) | fail)
    refine E_res1 (by rfl) (by rfl) ⟨T, rfl, rfl, h, rfl, rfl⟩ (Sub.trans Sb trA_close)
  by_cases c2 : id ≤ 1073741824
  rotate_left
  · obtain ⟨e1, e2⟩ := hno (by unfold argE; rw [decide_eq_false (fun h => c2 h.2.1)]; rfl)
    rw [e1, e2]
    refine CT_enter Try.func19 rfl ?_; (simp only [Try.ntmps19, List.size_toArray, List.length_cons, List.length_nil, Nat.reduceAdd, Nat.reduceSub, Array.replicate_succ, Array.replicate_zero, List.push_toArray, List.append_toArray, List.nil_append, List.cons_append])
    repeat' (first | refine go ?_ | intro _ | (apply cG; first | refine cT ?_ | refine cF ?_ | refine cS (fun _ => ?_) fun _ => ?_) | (apply gW; refine sW ?_) | (apply gI; refine sI ?_) | (apply gE; refine sE ?_) | (apply gP; refine sP ?_) | (apply gC; refine sC ?_) | (apply gD; refine sD ?_) | fail)
    refine E_res1 (by rfl) (by rfl) ⟨T, rfl, rfl, h, rfl, rfl⟩ (Sub.trans Sb trA_close)
  by_cases c3 : x.b.good
  rotate_left
  · obtain ⟨e1, e2⟩ := hno (by unfold argE; rw [decide_eq_false (fun h => c3 h.2.2)]; rfl)
    have hg : goodBF x.b = 5 := if_neg c3
    rw [e1, e2]
    refine CT_enter Try.func19 rfl ?_; (simp only [Try.ntmps19, List.size_toArray, List.length_cons, List.length_nil, Nat.reduceAdd, Nat.reduceSub, Array.replicate_succ, Array.replicate_zero, List.push_toArray, List.append_toArray, List.nil_append, List.cons_append])
    repeat' (first | refine go ?_ | intro _ | (apply cG; first | refine cT ?_ | refine cF ?_ | refine cS (fun _ => ?_) fun _ => ?_) | (apply gW; refine sW ?_) | (apply gI; refine sI ?_) | (apply gE; refine sE ?_) | (apply gP; refine sP ?_) | (apply gC; refine sC ?_) | (apply gD; refine sD ?_) | fail)
    refine O_d (dy_call ArgsI.pf (by first | exact rfl | trivial | (intro a b; rfl)) (ValidBox_ct (b := x.b))) ?_; rintro _ _ ⟨_, ⟨rfl, hLL⟩, rfl⟩; replace hLL := hLL.symm; subst hLL; refine O_n ?_
    rw [hg]
    repeat' (first | refine go ?_ | intro _ | (apply cG; first | refine cT ?_ | refine cF ?_ | refine cS (fun _ => ?_) fun _ => ?_) | (apply gW; refine sW ?_) | (apply gI; refine sI ?_) | (apply gE; refine sE ?_) | (apply gP; refine sP ?_) | (apply gC; refine sC ?_) | (apply gD; refine sD ?_) | fail)
    refine E_res1 (by rfl) (by rfl) ⟨T, rfl, rfl, h, rfl, rfl⟩ (Sub.trans Sb trA_close)
  have hg : goodBF x.b = 0 := if_pos c3
  cases c4 : daysF x.f x.t with
  | false =>
    obtain ⟨e1, e2⟩ := hno (by unfold argE; rw [c4]; exact Bool.and_false _)
    rw [e1, e2]
    refine CT_enter Try.func19 rfl ?_; (simp only [Try.ntmps19, List.size_toArray, List.length_cons, List.length_nil, Nat.reduceAdd, Nat.reduceSub, Array.replicate_succ, Array.replicate_zero, List.push_toArray, List.append_toArray, List.nil_append, List.cons_append])
    repeat' (first | refine go ?_ | intro _ | (apply cG; first | refine cT ?_ | refine cF ?_ | refine cS (fun _ => ?_) fun _ => ?_) | (apply gW; refine sW ?_) | (apply gI; refine sI ?_) | (apply gE; refine sE ?_) | (apply gP; refine sP ?_) | (apply gC; refine sC ?_) | (apply gD; refine sD ?_) | fail)
    refine O_d (dy_call ArgsI.pf (by first | exact rfl | trivial | (intro a b; rfl)) (ValidBox_ct (b := x.b))) ?_; rintro _ _ ⟨_, ⟨rfl, hLL⟩, rfl⟩; replace hLL := hLL.symm; subst hLL; refine O_n ?_
    rw [hg]
    repeat' (first | refine go ?_ | intro _ | (apply cG; first | refine cT ?_ | refine cF ?_ | refine cS (fun _ => ?_) fun _ => ?_) | (apply gW; refine sW ?_) | (apply gI; refine sI ?_) | (apply gE; refine sE ?_) | (apply gP; refine sP ?_) | (apply gC; refine sC ?_) | (apply gD; refine sD ?_) | fail)
    refine O_d (dy_call ArgsI.pf (by first | exact rfl | trivial | (intro a b; rfl)) (days_ct)) ?_; rintro _ _ ⟨_, ⟨rfl, hLL⟩, rfl⟩; replace hLL := hLL.symm; subst hLL; refine O_n ?_
    rw [c4]
    repeat' (first | refine go ?_ | intro _ | (apply cG; first | refine cT ?_ | refine cF ?_ | refine cS (fun _ => ?_) fun _ => ?_) | (apply gW; refine sW ?_) | (apply gI; refine sI ?_) | (apply gE; refine sE ?_) | (apply gP; refine sP ?_) | (apply gC; refine sC ?_) | (apply gD; refine sD ?_) | fail)
    refine E_res1 (by rfl) (by rfl) ⟨T, rfl, rfl, h, rfl, rfl⟩ (Sub.trans Sb trA_close)
  | true =>
  have harg : argE id x = true := by unfold argE; rw [c4, decide_eq_true ⟨c1, c2, c3⟩]; rfl
  refine CT_enter Try.func19 rfl ?_; (simp only [Try.ntmps19, List.size_toArray, List.length_cons, List.length_nil, Nat.reduceAdd, Nat.reduceSub, Array.replicate_succ, Array.replicate_zero, List.push_toArray, List.append_toArray, List.nil_append, List.cons_append])
  repeat' (first | refine go ?_ | intro _ | (apply cG; first | refine cT ?_ | refine cF ?_ | refine cS (fun _ => ?_) fun _ => ?_) | (apply gW; refine sW ?_) | (apply gI; refine sI ?_) | (apply gE; refine sE ?_) | (apply gP; refine sP ?_) | (apply gC; refine sC ?_) | (apply gD; refine sD ?_) | fail)
  refine O_d (dy_call ArgsI.pf (by first | exact rfl | trivial | (intro a b; rfl)) (ValidBox_ct (b := x.b))) ?_; rintro _ _ ⟨_, ⟨rfl, hLL⟩, rfl⟩; replace hLL := hLL.symm; subst hLL; refine O_n ?_
  rw [hg]
  repeat' (first | refine go ?_ | intro _ | (apply cG; first | refine cT ?_ | refine cF ?_ | refine cS (fun _ => ?_) fun _ => ?_) | (apply gW; refine sW ?_) | (apply gI; refine sI ?_) | (apply gE; refine sE ?_) | (apply gP; refine sP ?_) | (apply gC; refine sC ?_) | (apply gD; refine sD ?_) | fail)
  refine O_d (dy_call ArgsI.pf (by first | exact rfl | trivial | (intro a b; rfl)) (days_ct)) ?_; rintro _ _ ⟨_, ⟨rfl, hLL⟩, rfl⟩; replace hLL := hLL.symm; subst hLL; refine O_n ?_
  rw [c4]
  repeat' (first | refine go ?_ | intro _ | (apply cG; first | refine cT ?_ | refine cF ?_ | refine cS (fun _ => ?_) fun _ => ?_) | (apply gW; refine sW ?_) | (apply gI; refine sI ?_) | (apply gE; refine sE ?_) | (apply gP; refine sP ?_) | (apply gC; refine sC ?_) | (apply gD; refine sD ?_) | fail)
  cases c5 : hasK l id with
  | true =>
    have e1 : addE l id x = 8 := by unfold addE; rw [if_pos harg, if_pos c5]
    have e2 : addL l id x = l := by unfold addL; rw [if_neg (by rw [e1]; decide)]
    obtain ⟨x', hx'⟩ := hasK_true c5
    obtain ⟨q, hq, hq2⟩ := posM_some (hl.keys.perm h.mm.symm) (h.mm.symm.mem_iff.1 hx')
    rw [e1, e2]
    refine O_s (sv_look1 (R := mIT) (by repeat (first | exact .head _ | refine .tail _ ?_)) Ev.pf Ev.pf hq) ?_
    rw [hq2, show mIT.val x' = itV x' from rfl]
    repeat' (first | refine go ?_ | intro _ | (apply cG; first | refine cT ?_ | refine cF ?_ | refine cS (fun _ => ?_) fun _ => ?_) | (apply gW; refine sW ?_) | (apply gI; refine sI ?_) | (apply gE; refine sE ?_) | (apply gP; refine sP ?_) | (apply gC; refine sC ?_) | (apply gD; refine sD ?_) | fail)
    refine E_res1 (by rfl) (by rfl) ⟨T, rfl, rfl, h, rfl, rfl⟩ (Sub.trans Sb trA_close)
  | false =>
  have hn := hasK_false c5
  have hpn : posM id T.mm 0 = none := posM_none.2 fun a ha => hn a (h.mm.mem_iff.1 ha)
  refine O_s (sv_look0 (R := mIT) (by repeat (first | exact .head _ | refine .tail _ ?_)) Ev.pf Ev.pf hpn) ?_
  repeat' (first | refine go ?_ | intro _ | (apply cG; first | refine cT ?_ | refine cF ?_ | refine cS (fun _ => ?_) fun _ => ?_) | (apply gW; refine sW ?_) | (apply gI; refine sI ?_) | (apply gE; refine sE ?_) | (apply gP; refine sP ?_) | (apply gC; refine sC ?_) | (apply gD; refine sD ?_) | fail)
  refine O_s (sv_lenM (R := mIT) (by repeat (first | exact .head _ | refine .tail _ ?_))) ?_
  rw [h.mm.length_eq]
  by_cases c6 : 65536 ≤ l.length
  · have e1 : addE l id x = 4 := by unfold addE; rw [if_pos harg, if_neg (by rw [c5]; decide), if_pos c6]
    have e2 : addL l id x = l := by unfold addL; rw [if_neg (by rw [e1]; decide)]
    rw [e1, e2]
    repeat' (first | refine go ?_ | intro _ | (apply cG; first | refine cT ?_ | refine cF ?_ | refine cS (fun _ => ?_) fun _ => ?_) | (apply gW; refine sW ?_) | (apply gI; refine sI ?_) | (apply gE; refine sE ?_) | (apply gP; refine sP ?_) | (apply gC; refine sC ?_) | (apply gD; refine sD ?_) | fail)
    refine E_res1 (by rfl) (by rfl) ⟨T, rfl, rfl, h, rfl, rfl⟩ (Sub.trans Sb trA_close)
  have e1 : addE l id x = 0 := by unfold addE; rw [if_pos harg, if_neg (by rw [c5]; decide), if_neg c6]
  have e2 : addL l id x = insE l (id, x) := by unfold addL; rw [if_pos e1]
  rw [e1, e2]
  repeat' (first | refine go ?_ | intro _ | (apply cG; first | refine cT ?_ | refine cF ?_ | refine cS (fun _ => ?_) fun _ => ?_) | (apply gW; refine sW ?_) | (apply gI; refine sI ?_) | (apply gE; refine sE ?_) | (apply gP; refine sP ?_) | (apply gC; refine sC ?_) | (apply gD; refine sD ?_) | fail)
  rename_i pb pz px
  have hlv := lv_le x.b
  refine C_draw (n := 6) [cel T.p [T.rt.val, .map (some T.m), .int .i64 T.lk] 68, cel px [.int .i64 x.b.x0, .int .i64 x.b.y0, .int .i64 x.b.x1, .int .i64 x.b.y1, .int .i64 x.f, .int .i64 x.t] 80] [(0, 1), (1, 1), (2, 1), (3, 1), (4, 1), (5, 1), (6, 0)] (by kernel_rfl) (by kernel_rfl) Sb ?_
  repeat' (first | refine go ?_ | intro _ | (apply cG; first | refine cT ?_ | refine cF ?_ | refine cS (fun _ => ?_) fun _ => ?_) | (apply gW; refine sW ?_) | (apply gI; refine sI ?_) | (apply gE; refine sE ?_) | (apply gP; refine sP ?_) | (apply gC; refine sC ?_) | (apply gD; refine sD ?_) | fail)
  refine D_op rfl ?_; refine X_d (dy_put (R := mIT) (i := 4) x rfl Ev.pf Ev.pf Ev.pf rfl (fun _ _ _ => trivial)) ?_; rintro _ _ ⟨rfl, hLL⟩; replace hLL := hLL.trans SAt.pf; subst hLL; refine ⟨(by first | exact .inl rfl | exact .inr Sb), D_n ?_⟩
  rw [putM_new (by unfold getM; rw [hpn]; rfl)]
  repeat' (first | refine go ?_ | intro _ | (apply cG; first | refine cT ?_ | refine cF ?_ | refine cS (fun _ => ?_) fun _ => ?_) | (apply gW; refine sW ?_) | (apply gI; refine sI ?_) | (apply gE; refine sE ?_) | (apply gP; refine sP ?_) | (apply gC; refine sC ?_) | (apply gD; refine sD ?_) | fail)
  refine C_draw (n := 12) [cel T.p [T.rt.val, .map (some T.m), .int .i64 T.lk] 68, cel px [.int .i64 x.b.x0, .int .i64 x.b.y0, .int .i64 x.b.x1, .int .i64 x.b.y1, .int .i64 x.f, .int .i64 x.t] 80, cel pb [.int .i64 x.b.x0, .int .i64 x.b.y0, .int .i64 x.b.x1, .int .i64 x.b.y1] 31] [(0, 1), (1, 1), (2, 1), (3, 1), (4, 1), (5, 1), (7, 1), (8, 1), (6, 0), (9, 0), (10, 1), (11, 1), (12, 0)] (by kernel_rfl) (by kernel_rfl) Sb ?_
  repeat' (first | refine go ?_ | intro _ | (apply cG; first | refine cT ?_ | refine cF ?_ | refine cS (fun _ => ?_) fun _ => ?_) | (apply gW; refine sW ?_) | (apply gI; refine sI ?_) | (apply gE; refine sE ?_) | (apply gP; refine sP ?_) | (apply gC; refine sC ?_) | (apply gD; refine sD ?_) | fail)
  refine D_op rfl ?_; refine X_d (dy_call ArgsI.pf (by first | exact rfl | trivial | (intro a b; rfl)) (home_ct c3)) ?_; rintro _ _ ⟨_, ⟨rfl, hLL⟩, rfl⟩; replace hLL := hLL.symm; subst hLL; refine ⟨(by first | exact .inl rfl | exact .inr Sb), D_n ?_⟩
  repeat' (first | refine go ?_ | intro _ | (apply cG; first | refine cT ?_ | refine cF ?_ | refine cS (fun _ => ?_) fun _ => ?_) | (apply gW; refine sW ?_) | (apply gI; refine sI ?_) | (apply gE; refine sE ?_) | (apply gP; refine sP ?_) | (apply gC; refine sC ?_) | (apply gD; refine sD ?_) | fail)
  refine D_op rfl ?_; refine X_d (dy_call ArgsI.pf (by first | exact rfl | trivial | (intro a b; rfl)) (CT.pull (i := 5) (by rfl) (put_ct (32 - lvB x.b) 32 T.rt l (id, x) _ h.rt ⟨c3, hlv, Nat.le_refl _, hn⟩ (by dsimp only; omega)))) ?_; rintro _ _ ⟨_, ⟨t', ht', rfl, rfl⟩, rfl⟩; refine ⟨(by first | exact .inl rfl | exact .inr Sb), D_n ?_⟩
  repeat' (first | refine go ?_ | intro _ | (apply cG; first | refine cT ?_ | refine cF ?_ | refine cS (fun _ => ?_) fun _ => ?_) | (apply gW; refine sW ?_) | (apply gI; refine sI ?_) | (apply gE; refine sE ?_) | (apply gP; refine sP ?_) | (apply gC; refine sC ?_) | (apply gD; refine sD ?_) | fail)
  refine E_res1 (by rfl) (by rfl) ⟨⟨T.p, T.m, T.mm ++ [(id, x)], t', T.lk⟩, rfl, rfl, ⟨(h.mm.append_right _).trans (insE_perm l (id, x)), ht'.perm (insE_perm l (id, x))⟩, rfl, rfl⟩ ?_
  exact Sub.trans (B := cel T.p [t'.val, .map (some T.m), .int .i64 T.lk] 68 :: mapo mIT T.m (T.mm ++ [(id, x)]) :: qta t' :: L) Sb (trA_close (T := ⟨T.p, T.m, T.mm ++ [(id, x)], t', T.lk⟩))
set_option maxHeartbeats 2000000 in
theorem Remove_ct {T : TR} {l : List Ent} {id : Int} (h : TROk T l) (hl : WFL l) : CT Try.prog 22 #[.pointer (some ⟨T.p, 0, none⟩), .int .i64 id] W0 (trA T :: L) fun r L' => ∃ T' : TR, T'.p = T.p ∧ T'.lk = T.lk ∧ TROk T' (delE id l) ∧ r = .int .i64 (remE l id) ∧ L' = trA T' :: L := by
  refine CT.sub ?_ trA_open
  refine CT_enter Try.func22 rfl ?_; (simp only [Try.ntmps22, List.size_toArray, List.length_cons, List.length_nil, Nat.reduceAdd, Nat.reduceSub, Array.replicate_succ, Array.replicate_zero, List.push_toArray, List.append_toArray, List.nil_append, List.cons_append])
  repeat' (first | refine go ?_ | intro _ | (apply cG; first | refine cT ?_ | refine cF ?_ | refine cS (fun _ => ?_) fun _ => ?_) | (apply gW; refine sW ?_) | (apply gI; refine sI ?_) | (apply gE; refine sE ?_) | (apply gP; refine sP ?_) | (apply gC; refine sC ?_) | (apply gD; refine sD ?_) | fail)
  cases c5 : hasK l id with
  | false =>
    have hn := hasK_false c5
    have hpn : posM id T.mm 0 = none := posM_none.2 fun a ha => hn a (h.mm.mem_iff.1 ha)
    have e1 : remE l id = 7 := by unfold remE; rw [if_neg (by rw [c5]; decide)]
    rw [e1, delE_none hn]
    refine O_s (sv_look0 (R := mIT) (by repeat (first | exact .head _ | refine .tail _ ?_)) Ev.pf Ev.pf hpn) ?_
    repeat' (first | refine go ?_ | intro _ | (apply cG; first | refine cT ?_ | refine cF ?_ | refine cS (fun _ => ?_) fun _ => ?_) | (apply gW; refine sW ?_) | (apply gI; refine sI ?_) | (apply gE; refine sE ?_) | (apply gP; refine sP ?_) | (apply gC; refine sC ?_) | (apply gD; refine sD ?_) | fail)
    refine E_res1 (by rfl) (by rfl) ⟨T, rfl, rfl, h, rfl, rfl⟩ (Sub.trans Sb trA_close)
  | true =>
  have e1 : remE l id = 0 := by unfold remE; rw [if_pos c5]
  obtain ⟨x, hx⟩ := hasK_true c5
  obtain ⟨q, hq, hq2⟩ := posM_some (hl.keys.perm h.mm.symm) (h.mm.symm.mem_iff.1 hx)
  have hg := (hl.g _ hx).1
  have hlv := lv_le x.b
  rw [e1]
  refine O_s (sv_look1 (R := mIT) (by repeat (first | exact .head _ | refine .tail _ ?_)) Ev.pf Ev.pf hq) ?_
  rw [hq2, show mIT.val x = itV x from rfl]
  repeat' (first | refine go ?_ | intro _ | (apply cG; first | refine cT ?_ | refine cF ?_ | refine cS (fun _ => ?_) fun _ => ?_) | (apply gW; refine sW ?_) | (apply gI; refine sI ?_) | (apply gE; refine sE ?_) | (apply gP; refine sP ?_) | (apply gC; refine sC ?_) | (apply gD; refine sD ?_) | fail)
  rename_i px
  refine O_d (dy_del (R := mIT) (i := 2) (k := id) rfl Ev.pf Ev.pf) ?_; rintro _ _ ⟨rfl, hLL⟩; replace hLL := hLL.trans SAt.pf; subst hLL; refine O_n ?_
  rw [delM_eq (hl.keys.perm h.mm.symm)]
  repeat' (first | refine go ?_ | intro _ | (apply cG; first | refine cT ?_ | refine cF ?_ | refine cS (fun _ => ?_) fun _ => ?_) | (apply gW; refine sW ?_) | (apply gI; refine sI ?_) | (apply gE; refine sE ?_) | (apply gP; refine sP ?_) | (apply gC; refine sC ?_) | (apply gD; refine sD ?_) | fail)
  refine C_draw (n := 12) [cel T.p [T.rt.val, .map (some T.m), .int .i64 T.lk] 68, cel px [.int .i64 x.b.x0, .int .i64 x.b.y0, .int .i64 x.b.x1, .int .i64 x.b.y1, .int .i64 x.f, .int .i64 x.t] 80] [(0, 1), (1, 1), (2, 1), (3, 1), (4, 1), (5, 1), (6, 1), (8, 1), (7, 0), (9, 0), (10, 1), (11, 1), (12, 0)] (by kernel_rfl) (by kernel_rfl) Sb ?_
  repeat' (first | refine go ?_ | intro _ | (apply cG; first | refine cT ?_ | refine cF ?_ | refine cS (fun _ => ?_) fun _ => ?_) | (apply gW; refine sW ?_) | (apply gI; refine sI ?_) | (apply gE; refine sE ?_) | (apply gP; refine sP ?_) | (apply gC; refine sC ?_) | (apply gD; refine sD ?_) | fail)
  refine D_op rfl ?_; refine X_d (dy_call ArgsI.pf (by first | exact rfl | trivial | (intro a b; rfl)) (home_ct (b := x.b) hg)) ?_; rintro _ _ ⟨_, ⟨rfl, hLL⟩, rfl⟩; replace hLL := hLL.symm; subst hLL; refine ⟨(by first | exact .inl rfl | exact .inr Sb), D_n ?_⟩
  repeat' (first | refine go ?_ | intro _ | (apply cG; first | refine cT ?_ | refine cF ?_ | refine cS (fun _ => ?_) fun _ => ?_) | (apply gW; refine sW ?_) | (apply gI; refine sI ?_) | (apply gE; refine sE ?_) | (apply gP; refine sP ?_) | (apply gC; refine sC ?_) | (apply gD; refine sD ?_) | fail)
  refine D_op rfl ?_; refine X_d (dy_call ArgsI.pf (by first | exact rfl | trivial | (intro a b; rfl)) (CT.pull (i := 3) (by rfl) (drop_ct (32 - lvB x.b) 32 T.rt l (id, x) _ h.rt ⟨hl.keys, hx, fun a ha => ⟨(hl.g a ha).1, lv_le _⟩, Nat.le_refl _⟩ (by dsimp only; omega)))) ?_; rintro _ _ ⟨_, ⟨t', ht', rfl, rfl⟩, rfl⟩; refine ⟨(by first | exact .inl rfl | exact .inr Sb), D_n ?_⟩
  repeat' (first | refine go ?_ | intro _ | (apply cG; first | refine cT ?_ | refine cF ?_ | refine cS (fun _ => ?_) fun _ => ?_) | (apply gW; refine sW ?_) | (apply gI; refine sI ?_) | (apply gE; refine sE ?_) | (apply gP; refine sP ?_) | (apply gC; refine sC ?_) | (apply gD; refine sD ?_) | fail)
  refine E_res1 (by rfl) (by rfl) ⟨⟨T.p, T.m, delE id T.mm, t', T.lk⟩, rfl, rfl, ⟨h.mm.filter _, ht'⟩, rfl, rfl⟩ ?_
  exact Sub.trans (B := cel T.p [t'.val, .map (some T.m), .int .i64 T.lk] 68 :: mapo mIT T.m (delE id T.mm) :: qta t' :: L) Sb (trA_close (T := ⟨T.p, T.m, delE id T.mm, t', T.lk⟩))
end
end Go.Proofs.Ytnjjifikogblpaa
namespace Go.Proofs.Ytnjjifikogblpaa
open Go Go.RowKit
set_option linter.unusedVariables false
set_option linter.unusedSimpArgs false
set_option maxRecDepth 20000
set_option synthInstance.maxSize 100000
set_option synthInstance.maxHeartbeats 400000
theorem bit_flip {y : UInt8} {k : Nat} (hk : k < 8) : ∃ z : UInt8, bits .xor .u8 (y.toNat : Int) (IntKind.u8.wrap (1 * 2 ^ k)) = (z.toNat : Int) ∧ z ≠ y := by
  have h : ∀ (k : Fin 8) (y : Fin 256), 0 ≤ bits .xor .u8 (y.val : Int) (IntKind.u8.wrap (1 * 2 ^ k.val)) ∧ bits .xor .u8 (y.val : Int) (IntKind.u8.wrap (1 * 2 ^ k.val)) < 256 ∧ bits .xor .u8 (y.val : Int) (IntKind.u8.wrap (1 * 2 ^ k.val)) ≠ (y.val : Int) := by decide +kernel
  obtain ⟨h1, h2, h3⟩ := h ⟨k, hk⟩ ⟨y.toNat, y.toNat_lt⟩
  dsimp only at h1 h2 h3
  have e : ((UInt8.ofNat (bits .xor .u8 (y.toNat : Int) (IntKind.u8.wrap (1 * 2 ^ k))).toNat).toNat : Int) = bits .xor .u8 (y.toNat : Int) (IntKind.u8.wrap (1 * 2 ^ k)) := by
    rw [UInt8.toNat_ofNat']
    omega
  refine ⟨UInt8.ofNat (bits .xor .u8 (y.toNat : Int) (IntKind.u8.wrap (1 * 2 ^ k))).toNat, e.symm, fun hz => h3 ?_⟩
  rw [← e, hz]
theorem O_front {P : Program} {W0 : World} {L Le : List HP} {ops : Array Oper} {Q : Exit → Act → World → Prop} {rest : List Oper} {a : Act} {A : HP} (i : Nat) (hi : L[i]? = some A) (he : L.eraseIdx i = Le) (k : OL P W0 (A :: Le) ops Q rest a) : OL P W0 L ops Q rest a := by
  subst he
  exact O_at hi k
end Go.Proofs.Ytnjjifikogblpaa
namespace Go.Proofs
open Go.RowKit Go.Sort Go.Shelf
def Try.sortL_ren : Go.Shelf.Ren := ⟨fun | 5 => 36 | 8 => 50 | 7 => 49 | 19 => 65 | 20 => 66 | 10 => 56 | 11 => 57 | 12 => 58 | 13 => 59 | 14 => 60 | 15 => 61 | 16 => 62 | 17 => 63 | 18 => 64 | 30 => 68 | 31 => 69 | 32 => 70 | 33 => 71 | 34 => 72 | 35 => 67 | 40 => 73 | n => n, fun | 23 => 22 | 25 => 3 | 3 => 3 | 32 => 93 | 22 => 22 | 0 => 0 | 44 => 109 | 46 => 111 | 4 => 4 | 36 => 103 | 35 => 102 | 41 => 106 | 5 => 5 | 9 => 9 | 53 => 113 | 57 => 117 | 63 => 119 | 64 => 120 | n => n, fun | n => n⟩
theorem Try.sortL : Go.Proofs.SlLaysM.n5 Try.prog Try.sortL_ren := {
  mixed := by kernel_rfl
  f5 := ⟨Try.f36.name, by decide, Try.func36.trans (congrArg some (by kernel_rfl))⟩
  f7 := ⟨Try.f49.name, by decide, Try.func49.trans (congrArg some (by kernel_rfl))⟩
  f8 := Try.func50.trans (congrArg some (by kernel_rfl))
  f10 := ⟨Try.f56.name, by decide, Try.func56.trans (congrArg some (by kernel_rfl))⟩
  f11 := ⟨Try.f57.name, by decide, Try.func57.trans (congrArg some (by kernel_rfl))⟩
  f12 := ⟨Try.f58.name, by decide, Try.func58.trans (congrArg some (by kernel_rfl))⟩
  f13 := ⟨Try.f59.name, by decide, Try.func59.trans (congrArg some (by kernel_rfl))⟩
  f14 := ⟨Try.f60.name, by decide, Try.func60.trans (congrArg some (by kernel_rfl))⟩
  f15 := ⟨Try.f61.name, by decide, Try.func61.trans (congrArg some (by kernel_rfl))⟩
  f16 := ⟨Try.f62.name, by decide, Try.func62.trans (congrArg some (by kernel_rfl))⟩
  f17 := ⟨Try.f63.name, by decide, Try.func63.trans (congrArg some (by kernel_rfl))⟩
  f18 := ⟨Try.f64.name, by decide, Try.func64.trans (congrArg some (by kernel_rfl))⟩
  f19 := Try.func65.trans (congrArg some (by kernel_rfl))
  f20 := Try.func66.trans (congrArg some (by kernel_rfl))
  f30 := ⟨Try.f68.name, by decide, Try.func68.trans (congrArg some (by kernel_rfl))⟩
  f31 := Try.func69.trans (congrArg some (by kernel_rfl))
  f32 := Try.func70.trans (congrArg some (by kernel_rfl))
  f33 := ⟨Try.f71.name, by decide, Try.func71.trans (congrArg some (by kernel_rfl))⟩
  f34 := ⟨Try.f72.name, by decide, Try.func72.trans (congrArg some (by kernel_rfl))⟩
  f35 := ⟨Try.f67.name, by decide, Try.func67.trans (congrArg some (by kernel_rfl))⟩
  f40 := ⟨Try.f73.name, by decide, Try.func73.trans (congrArg some (by kernel_rfl))⟩
  t0 := Try.underlying0
  a0 := Try.isAgg0
  z0 := Try.sizeOf0
  v0 := Try.zeroValue0
  t3 := Try.underlying3
  a3 := Try.isAgg3
  z3 := Try.sizeOf3
  v3 := Try.zeroValue3
  t4 := Try.underlying4
  a4 := Try.isAgg4
  z4 := Try.sizeOf4
  v4 := Try.zeroValue4
  t5 := Try.underlying5
  a5 := Try.isAgg5
  z5 := Try.sizeOf5
  v5 := Try.zeroValue5
  t9 := Try.underlying9
  a9 := Try.isAgg9
  z9 := Try.sizeOf9
  v9 := Try.zeroValue9
  t22 := Try.underlying22
  a22 := Try.isAgg22
  z22 := Try.sizeOf22
  v22 := Try.zeroValue22
  t23 := Try.underlying22
  a23 := Try.isAgg22
  z23 := Try.sizeOf22
  v23 := Try.zeroValue22
  t25 := Try.underlying3
  a25 := Try.isAgg3
  z25 := Try.sizeOf3
  v25 := Try.zeroValue3
  t32 := Try.underlying93
  a32 := Try.isAgg93
  z32 := Try.sizeOf93
  v32 := Try.zeroValue93
  t35 := Try.underlying102
  a35 := Try.isAgg102
  z35 := Try.sizeOf102
  v35 := Try.zeroValue102
  t36 := Try.underlying103
  a36 := Try.isAgg103
  z36 := Try.sizeOf103
  v36 := Try.zeroValue103
  t41 := Try.underlying106
  a41 := Try.isAgg106
  z41 := Try.sizeOf106
  v41 := Try.zeroValue106
  t44 := Try.underlying109
  a44 := Try.isAgg109
  z44 := Try.sizeOf109
  v44 := Try.zeroValue109
  t46 := Try.underlying111
  a46 := Try.isAgg111
  z46 := Try.sizeOf111
  v46 := Try.zeroValue111
  t53 := Try.underlying113
  a53 := Try.isAgg113
  z53 := Try.sizeOf113
  v53 := Try.zeroValue113
  t57 := Try.underlying117
  a57 := Try.isAgg117
  z57 := Try.sizeOf117
  v57 := Try.zeroValue117
  t63 := Try.underlying119
  a63 := Try.isAgg119
  z63 := Try.sizeOf119
  v63 := Try.zeroValue119
  t64 := Try.underlying120
  a64 := Try.isAgg120
  z64 := Try.sizeOf120
  v64 := Try.zeroValue120 }
end Go.Proofs
namespace Go.Proofs.Ytnjjifikogblpaa
open Go Go.RowKit
set_option linter.unusedVariables false
set_option linter.unusedSimpArgs false
theorem putCells_get {enc : Int → Value} {d : Array Int} {c : Array Value} {k : Nat} : (Sort.putCells enc 0 d c)[k]? = (c[k]?).map fun x => if k < d.size then enc d[k]! else x := by
  unfold Sort.putCells
  rw [Array.getElem?_mapIdx]
  simp
theorem heap_putRow {enc : Int → Value} {w : World} {g off : Nat} {d : Array Int} {k : Nat} : (Sort.putRow enc w g off d).heap[k]? = if g = k then (w.heap[k]?).map (Sort.onCells (Sort.putCells enc off d)) else w.heap[k]? := by
  unfold Sort.putRow Sort.mapBlock
  rw [Array.getElem?_modify]
section
variable {W0 : World} {L : List HP}
theorem Sort_ct {A : Option Addr} {c : Nat} {l : List Int} (hl : l.length ≤ 1000000) :
    CT Try.prog 36 #[.slice A l.length c] W0 (own 3 eI (.slice A l.length c) l :: L) fun r L' => ∃ l', l'.Perm l ∧ l'.Pairwise (· ≤ ·) ∧ r = .tuple #[] ∧ L' = own 3 eI (.slice A l.length c) l' :: L := by
  by_cases h0 : l = []
  · subst h0
    refine ⟨fun w s => ?_⟩
    refine (AnyM.slices_Sort_int_none Try.sortL A c w).mono fun e w' ⟨he, hw⟩ => ?_
    subst he hw
    exact ⟨_, _, rfl, ⟨[], List.Perm.refl _, List.Pairwise.nil, rfl, rfl⟩, s⟩
  · refine ⟨fun w s => ?_⟩
    have s0 := s
    obtain ⟨_, _, _, _, m, h, _, hw, hh, _, a, b, _, ha, _, ⟨css, hall, hd⟩, _⟩ := s0
    rcases hd with ⟨_, e⟩ | ⟨g, cap, cur, hv, hg, hc, hcm, hcs, ht⟩
    · exact absurd e h0
    injection hv with e1 e2 e3
    subst e1 e3
    have hcur : w.heap[g]? = some (.cells cur 3 (0, 0)) := hh _ _ (ha _ _ hg)
    have hcss : css = l.map fun x => [Value.int .i64 x] := all2_e1.1 hall
    rw [hcss, flat_one] at ht
    have hsz1 : (1 : Nat) = eI.sz := rfl
    rw [← hsz1, Nat.mul_one] at ht hcs
    have hget : ∀ j, j < l.length → cur[j]? = some (.int .i64 l[j]!) := fun j hj => by
      have h2 := congrArg (fun q => q[j]?) ht
      simp only [List.getElem?_take, if_pos hj, List.getElem?_map] at h2
      rw [List.getElem?_eq_getElem hj] at h2
      rw [getElem!_pos l j hj]
      simpa using h2
    have hH : Sort.Holds (Value.int .i64) w g 0 l.toArray := fun j hj => by
      have hj2 : j < l.length := by simpa using hj
      refine ⟨?_, ?_⟩
      · simp only [World.cell?, hcur, Nat.zero_add]
        rw [hget j hj2]
        simp
      · simp [World.frozen?, hcur]
    refine (AnyM.slices_Sort_int Try.sortL g 0 c l w hH (Hp.of_lt hcur) (by omega)).mono fun e w' ⟨he, n, os, hw'⟩ => ?_
    subst he
    obtain ⟨l', hl'⟩ : ∃ l', (l.mergeSort fun x y => decide (x ≤ y)) = l' := ⟨_, rfl⟩
    rw [hl'] at hw'
    have hp : l'.Perm l := by rw [← hl']; exact List.mergeSort_perm _ _
    have hso : l'.Pairwise (· ≤ ·) := by
      rw [← hl']
      have := List.pairwise_mergeSort (le := fun x y : Int => decide (x ≤ y)) (fun a b c h1 h2 => by simp only [decide_eq_true_eq] at *; omega) (fun a b => by simp only [Bool.or_eq_true, decide_eq_true_eq]; omega) l
      exact this.imp fun h => by simpa using h
    have hll := hp.length_eq
    refine ⟨_, _, rfl, ⟨l', hp, hso, rfl, rfl⟩, ?_⟩
    have hkeep : ∀ k, k < w.heap.size → w'.heap[k]? = if g = k then some (.cells (Sort.putCells (Value.int .i64) 0 l'.toArray cur) 3 (0, 0)) else w.heap[k]? := fun k hk => by
      rw [hw', Sort.heap_grow_old _ _ (by simpa using hk), heap_putRow]
      split
      · rename_i e
        subst e
        show (w.heap[g]?).map _ = _
        rw [hcur]
        rfl
      · rfl
    refine s.turn (by rw [hw']; rfl) (by rw [hw']; rfl) (by rw [hw']; rfl) (by rw [hw']; simp) fun m2 a2 hA2 hm2 ha2 _ => ?_
    obtain ⟨css2, hall2, hd2⟩ := hA2
    rcases hd2 with ⟨_, e⟩ | ⟨g2, cap2, cur2, hv2, hg2, _⟩
    · exact absurd e h0
    injection hv2 with e1 e2 e3
    injection e1 with e1
    injection e1 with e1
    subst e1
    have hgk : g < w.heap.size := Hp.of_lt hcur
    refine ⟨Hp.one g (.cells (Sort.putCells (Value.int .i64) 0 l'.toArray cur) 3 (0, 0)), ⟨l'.map fun x => [Value.int .i64 x], all2_e1.2 rfl, .inr ⟨g, c, Sort.putCells (Value.int .i64) 0 l'.toArray cur, by rw [hll], by simp [Hp.one], by omega, hcm, ?_, ?_⟩⟩, ?_, ?_⟩
    · rw [← hsz1, Nat.mul_one, ← hcs]
      unfold Sort.putCells
      simp
    · rw [← hsz1, Nat.mul_one, flat_one]
      apply List.ext_getElem?
      intro j
      rw [List.getElem?_take, List.getElem?_map]
      by_cases hj : j < l'.length
      · rw [if_pos hj, List.getElem?_eq_getElem hj]
        have hj2 : j < l.length := by omega
        have := putCells_get (enc := Value.int .i64) (d := l'.toArray) (c := cur) (k := j)
        rw [hget j hj2] at this
        simp only [Option.map_some, List.size_toArray, if_pos hj] at this
        simpa [hj] using this
      · rw [if_neg hj, List.getElem?_eq_none (by omega)]
        rfl
    · intro k o e
      unfold Hp.one at e
      split at e
      · rename_i hk
        cases e
        have := hkeep k (by rw [hk]; exact hgk)
        rw [if_pos hk.symm] at this
        exact this
      · cases e
    · intro k hk hn
      have hne : g ≠ k := by
        rintro rfl
        rw [hg2] at hn
        cases hn
      refine ⟨by rw [hkeep k hk, if_neg hne], ?_⟩
      unfold Hp.one
      rw [if_neg (fun h => hne h.symm)]
end
end Go.Proofs.Ytnjjifikogblpaa
