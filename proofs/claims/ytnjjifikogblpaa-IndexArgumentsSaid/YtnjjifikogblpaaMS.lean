/-
  Find.
-/
import Derived.Test.YtnjjifikogblpaaMR
namespace Go.Proofs.Ytnjjifikogblpaa
open Go Go.RowKit
set_option linter.unusedVariables false
set_option linter.unusedSimpArgs false
set_option maxRecDepth 20000
set_option synthInstance.maxSize 100000
set_option synthInstance.maxHeartbeats 400000
instance : CellsI .nilFunc [.nilFunc] := ⟨rfl⟩
def fokB (b : BX) (d : Int) : Bool := decide b.good && daysF d d
def findE (b : BX) (d : Int) : Int := if fokB b d = true then 0 else 1
def findL (l : List Ent) (b : BX) (d : Int) : List Int := if fokB b d = true then hitsF b d l else []
theorem hits_sorted {l : List Ent} {b : BX} {d : Int} (h : WFL l) : (hitsF b d l).Pairwise (· < ·) := by
  unfold hitsF
  exact List.pairwise_map.2 (h.s.sublist List.filter_sublist)
theorem find_sorted {l : List Ent} {b : BX} {d : Int} (h : WFL l) : (findL l b d).Pairwise (· < ·) := by
  unfold findL
  split
  · exact hits_sorted h
  · exact List.Pairwise.nil
theorem adds_len : ∀ {xs out : List Blk}, (xs.foldl addB out).length ≤ out.length + xs.length
  | [], out => by simp
  | x :: xs, out => by
    have h1 := adds_len (xs := xs) (out := addB out x)
    have h2 : (addB out x).length ≤ out.length + 1 := by
      unfold addB
      split
      · omega
      · rw [List.length_append, List.length_singleton]; exact Nat.le_refl _
    rw [List.foldl_cons, List.length_cons]
    omega
theorem blks_len : ∀ {l : List Ent} {out : List Blk}, (l.foldl (fun out e => (ancs e.2.b).foldl addB out) out).length ≤ out.length + 33 * l.length
  | [], out => by simp
  | x :: l, out => by
    have h1 := blks_len (l := l) (out := (ancs x.2.b).foldl addB out)
    have h2 := adds_len (xs := ancs x.2.b) (out := out)
    have h3 : (ancs x.2.b).length ≤ 33 := by
      unfold ancs
      rw [List.length_map, List.length_range]
      omega
    rw [List.foldl_cons, List.length_cons]
    omega
theorem look_le (l : List Ent) (b : BX) : lookF l b ≤ 33 * l.length := by
  have h1 : (blkL l).length ≤ 0 + 33 * l.length := blks_len
  have h2 : lookF l b ≤ (blkL l).length := List.countP_le_length
  omega
theorem sorted_eq {a c : List Int} (hp : a.Perm c) (ha : a.Pairwise (· ≤ ·)) (hc : c.Pairwise (· < ·)) : a = c := by
  refine List.Perm.eq_of_pairwise (le := fun x y => x ≤ y) (fun x y _ _ h1 h2 => Int.le_antisymm h1 h2) ha (hc.imp fun h => Int.le_of_lt h) hp
section
variable {W0 : World} {L : List HP}
set_option maxHeartbeats 2000000 in
theorem Find_ct {T : TR} {l : List Ent} {b : BX} {d : Int} (h : TROk T l) (hl : WFL l) : CT Try.prog 14 #[.pointer (some ⟨T.p, 0, none⟩), bxV b, .int .i64 d] W0 (trA T :: L) fun r L' => ∃ A c lk, (lk = if fokB b d = true then (lookF l b : Int) else T.lk) ∧ r = .tuple #[.slice A (findL l b d).length c, .int .i64 (findE b d)] ∧ L' = own 3 eI (.slice A (findL l b d).length c) (findL l b d) :: trA { T with lk := lk } :: L := by
  refine CT.sub ?_ trA_open
  have hno : fokB b d = false → findE b d = 1 ∧ findL l b d = [] := fun h => ⟨if_neg (by rw [h]; decide), if_neg (by rw [h]; decide)⟩
  by_cases c3 : b.good
  rotate_left
  · have hf : fokB b d = false := by unfold fokB; rw [decide_eq_false c3]; rfl
    obtain ⟨e1, e2⟩ := hno hf
    have hg : goodBF b = 5 := if_neg c3
    rw [e1, e2, hf]
    refine CT_enter Try.func14 rfl ?_; (simp only [Try.ntmps14, List.size_toArray, List.length_cons, List.length_nil, Nat.reduceAdd, Nat.reduceSub, Array.replicate_succ, Array.replicate_zero, List.push_toArray, List.append_toArray, List.nil_append, List.cons_append])
    repeat' (first | refine go ?_ | intro _ | (apply cG; first | refine cT ?_ | refine cF ?_ | refine cS (fun _ => ?_) fun _ => ?_) | (apply gW; refine sW ?_) | (apply gI; refine sI ?_) | (apply gE; refine sE ?_) | (apply gP; refine sP ?_) | (apply gC; refine sC ?_) | (apply gD; refine sD ?_) | fail)
    refine O_d (dy_call ArgsI.pf (by first | exact rfl | trivial | (intro a b; rfl)) (ValidBox_ct (b := b))) ?_; rintro _ _ ⟨_, ⟨rfl, hLL⟩, rfl⟩; replace hLL := hLL.symm; subst hLL; refine O_n ?_
    rw [hg]
    repeat' (first | refine go ?_ | intro _ | (apply cG; first | refine cT ?_ | refine cF ?_ | refine cS (fun _ => ?_) fun _ => ?_) | (apply gW; refine sW ?_) | (apply gI; refine sI ?_) | (apply gE; refine sE ?_) | (apply gP; refine sP ?_) | (apply gC; refine sC ?_) | (apply gD; refine sD ?_) | fail)
    refine E_ownnil 3 eI ?_
    refine E_res2 (by rfl) (by rfl) ⟨none, 0, T.lk, rfl, rfl, rfl⟩ ?_
    exact Sub.trans (B := cel T.p [T.rt.val, .map (some T.m), .int .i64 T.lk] 68 :: mapo mIT T.m T.mm :: qta T.rt :: own 3 eI (.slice none 0 0) [] :: L) Sb (Sub.trans trA_close Sb)
  have hg : goodBF b = 0 := if_pos c3
  cases c4 : daysF d d with
  | false =>
    have hf : fokB b d = false := by unfold fokB; rw [c4]; exact Bool.and_false _
    obtain ⟨e1, e2⟩ := hno hf
    rw [e1, e2, hf]
    refine CT_enter Try.func14 rfl ?_; (simp only [Try.ntmps14, List.size_toArray, List.length_cons, List.length_nil, Nat.reduceAdd, Nat.reduceSub, Array.replicate_succ, Array.replicate_zero, List.push_toArray, List.append_toArray, List.nil_append, List.cons_append])
    repeat' (first | refine go ?_ | intro _ | (apply cG; first | refine cT ?_ | refine cF ?_ | refine cS (fun _ => ?_) fun _ => ?_) | (apply gW; refine sW ?_) | (apply gI; refine sI ?_) | (apply gE; refine sE ?_) | (apply gP; refine sP ?_) | (apply gC; refine sC ?_) | (apply gD; refine sD ?_) | fail)
    refine O_d (dy_call ArgsI.pf (by first | exact rfl | trivial | (intro a b; rfl)) (ValidBox_ct (b := b))) ?_; rintro _ _ ⟨_, ⟨rfl, hLL⟩, rfl⟩; replace hLL := hLL.symm; subst hLL; refine O_n ?_
    rw [hg]
    repeat' (first | refine go ?_ | intro _ | (apply cG; first | refine cT ?_ | refine cF ?_ | refine cS (fun _ => ?_) fun _ => ?_) | (apply gW; refine sW ?_) | (apply gI; refine sI ?_) | (apply gE; refine sE ?_) | (apply gP; refine sP ?_) | (apply gC; refine sC ?_) | (apply gD; refine sD ?_) | fail)
    refine O_d (dy_call ArgsI.pf (by first | exact rfl | trivial | (intro a b; rfl)) (days_ct)) ?_; rintro _ _ ⟨_, ⟨rfl, hLL⟩, rfl⟩; replace hLL := hLL.symm; subst hLL; refine O_n ?_
    rw [c4]
    repeat' (first | refine go ?_ | intro _ | (apply cG; first | refine cT ?_ | refine cF ?_ | refine cS (fun _ => ?_) fun _ => ?_) | (apply gW; refine sW ?_) | (apply gI; refine sI ?_) | (apply gE; refine sE ?_) | (apply gP; refine sP ?_) | (apply gC; refine sC ?_) | (apply gD; refine sD ?_) | fail)
    refine E_ownnil 3 eI ?_
    refine E_res2 (by rfl) (by rfl) ⟨none, 0, T.lk, rfl, rfl, rfl⟩ ?_
    exact Sub.trans (B := cel T.p [T.rt.val, .map (some T.m), .int .i64 T.lk] 68 :: mapo mIT T.m T.mm :: qta T.rt :: own 3 eI (.slice none 0 0) [] :: L) Sb (Sub.trans trA_close Sb)
  | true =>
  have hf : fokB b d = true := by unfold fokB; rw [c4, decide_eq_true c3]; rfl
  rw [show findE b d = 0 from if_pos hf, show findL l b d = hitsF b d l from if_pos hf, if_pos hf]
  have hlook := look_le l b
  have hvis := vis_look (b := b) h.rt fun e he => (hl.g e he).1
  have hln := hl.n
  refine CT_enter Try.func14 rfl ?_; (simp only [Try.ntmps14, List.size_toArray, List.length_cons, List.length_nil, Nat.reduceAdd, Nat.reduceSub, Array.replicate_succ, Array.replicate_zero, List.push_toArray, List.append_toArray, List.nil_append, List.cons_append])
  repeat' (first | refine go ?_ | intro _ | (apply cG; first | refine cT ?_ | refine cF ?_ | refine cS (fun _ => ?_) fun _ => ?_) | (apply gW; refine sW ?_) | (apply gI; refine sI ?_) | (apply gE; refine sE ?_) | (apply gP; refine sP ?_) | (apply gC; refine sC ?_) | (apply gD; refine sD ?_) | fail)
  refine O_d (dy_call ArgsI.pf (by first | exact rfl | trivial | (intro a b; rfl)) (ValidBox_ct (b := b))) ?_; rintro _ _ ⟨_, ⟨rfl, hLL⟩, rfl⟩; replace hLL := hLL.symm; subst hLL; refine O_n ?_
  rw [hg]
  repeat' (first | refine go ?_ | intro _ | (apply cG; first | refine cT ?_ | refine cF ?_ | refine cS (fun _ => ?_) fun _ => ?_) | (apply gW; refine sW ?_) | (apply gI; refine sI ?_) | (apply gE; refine sE ?_) | (apply gP; refine sP ?_) | (apply gC; refine sC ?_) | (apply gD; refine sD ?_) | fail)
  refine O_d (dy_call ArgsI.pf (by first | exact rfl | trivial | (intro a b; rfl)) (days_ct)) ?_; rintro _ _ ⟨_, ⟨rfl, hLL⟩, rfl⟩; replace hLL := hLL.symm; subst hLL; refine O_n ?_
  rw [c4]
  repeat' (first | refine go ?_ | intro _ | (apply cG; first | refine cT ?_ | refine cF ?_ | refine cS (fun _ => ?_) fun _ => ?_) | (apply gW; refine sW ?_) | (apply gI; refine sI ?_) | (apply gE; refine sE ?_) | (apply gP; refine sP ?_) | (apply gC; refine sC ?_) | (apply gD; refine sD ?_) | fail)
  rename_i pt pb pd po pv
  refine C_ownnil 3 eI ?_
  refine C_draw (n := 6) [cel pv [vfn pb pt pd po pv] 72, cel pt [.pointer (some ⟨T.p, 0, none⟩)] 23, cel T.p [T.rt.val, .map (some T.m), .int .i64 0] 68] [(0, 1), (1, 1), (2, 1), (3, 1), (4, 1), (5, 1), (6, 0)] (by kernel_rfl) (by kernel_rfl) Sb ?_
  repeat' (first | refine go ?_ | intro _ | (apply cG; first | refine cT ?_ | refine cF ?_ | refine cS (fun _ => ?_) fun _ => ?_) | (apply gW; refine sW ?_) | (apply gI; refine sI ?_) | (apply gE; refine sE ?_) | (apply gP; refine sP ?_) | (apply gC; refine sC ?_) | (apply gD; refine sD ?_) | fail)
  refine D_sub (L' := qta T.rt :: cel po [.slice none ([] : List Int).length 0] 22 :: own 3 eI (.slice none ([] : List Int).length 0) [] :: cel T.p [T.rt.val, .map (some T.m), .int .i64 0] 68 :: cel pb [.int .i64 b.x0, .int .i64 b.y0, .int .i64 b.x1, .int .i64 b.y1] 31 :: cel pt [.pointer (some ⟨T.p, 0, none⟩)] 23 :: cel pd [.int .i64 d] 3 :: cel pv [vfn pb pt pd po pv] 72 :: mapo mIT T.m T.mm :: L) Sb ?_
  refine D_op rfl ?_; refine X_d (dy_callv Ev.pf ArgsI.pf (by simp only [List.append_toArray, List.nil_append, List.append_nil, List.cons_append] <;> exact rfl) (by first | exact rfl | trivial | (intro a b; rfl)) (visit_ct (tp := T.p) (tm := T.m) (rv := T.rt.val) (pb := pb) (pt := pt) (pd := pd) (po := po) (pv := pv) (d := d) c3 T.rt (mapo mIT T.m T.mm :: L) 32 0 0 _ 0 _ _ l [] none 0 rfl rfl h.rt (under_top fun e he => (hl.g e he).1) (by decide) (fun _ => rfl) (by decide) (by decide) (by rw [hvis]; omega) (by rw [List.length_nil]; omega))) ?_
  rintro _ _ ⟨_, ⟨A1, c1, o1, hp1, rfl, rfl⟩, rfl⟩
  refine ⟨(by first | exact .inl rfl | exact .inr Sb), D_n ?_⟩
  rw [hvis, Int.zero_add]
  rw [List.nil_append] at hp1
  have hol : o1.length ≤ 65536 := by
    have h1 := hp1.length_eq
    have h2 : (hitsF b d l).length ≤ l.length := by unfold hitsF; rw [List.length_map]; exact List.length_filter_le _ _
    omega
  repeat' (first | refine go ?_ | intro _ | (apply cG; first | refine cT ?_ | refine cF ?_ | refine cS (fun _ => ?_) fun _ => ?_) | (apply gW; refine sW ?_) | (apply gI; refine sI ?_) | (apply gE; refine sE ?_) | (apply gP; refine sP ?_) | (apply gC; refine sC ?_) | (apply gD; refine sD ?_) | fail)
  refine O_d (dy_call ArgsI.pf (by first | exact rfl | trivial | (intro a b; rfl)) (CT.pull (i := 2) (by rfl) (Sort_ct (l := o1) (by omega)))) ?_; rintro _ _ ⟨_, ⟨o2, hp2, hs2, rfl, rfl⟩, rfl⟩; refine O_n ?_
  obtain rfl := sorted_eq (hp2.trans hp1) hs2 (hits_sorted hl)
  rw [hp1.length_eq]
  repeat' (first | refine go ?_ | intro _ | (apply cG; first | refine cT ?_ | refine cF ?_ | refine cS (fun _ => ?_) fun _ => ?_) | (apply gW; refine sW ?_) | (apply gI; refine sI ?_) | (apply gE; refine sE ?_) | (apply gP; refine sP ?_) | (apply gC; refine sC ?_) | (apply gD; refine sD ?_) | fail)
  refine E_res2 (by rfl) (by rfl) ⟨A1, c1, (lookF l b : Int), rfl, rfl, rfl⟩ ?_
  exact Sub.trans (B := cel T.p [T.rt.val, .map (some T.m), .int .i64 (lookF l b : Int)] 68 :: mapo mIT T.m T.mm :: qta T.rt :: own 3 eI (.slice A1 (hitsF b d l).length c1) (hitsF b d l) :: L) Sb (Sub.trans (trA_close (T := { T with lk := (lookF l b : Int) })) Sb)
end
end Go.Proofs.Ytnjjifikogblpaa
namespace Go.Proofs.Ytnjjifikogblpaa
open Go Go.RowKit
set_option linter.unusedVariables false
set_option linter.unusedSimpArgs false
set_option maxRecDepth 20000
set_option synthInstance.maxSize 100000
set_option synthInstance.maxHeartbeats 400000
section
variable {W0 : World} {L : List HP}
set_option maxHeartbeats 2000000 in
theorem Copy_ct {T : TR} {l : List Ent} (h : TROk T l) (hl : WFL l) : CT Try.prog 28 #[.pointer (some ⟨T.p, 0, none⟩)] W0 (trA T :: L) fun r L' => ∃ U : TR, TROk U l ∧ U.lk = T.lk ∧ r = .pointer (some ⟨U.p, 0, none⟩) ∧ L' = trA U :: trA T :: L := by
  refine CT.sub ?_ trA_open
  have hku := hl.keys.perm h.mm.symm
  have hgm : ∀ e ∈ T.mm, e.2.b.good := fun e he => (hl.g e (h.mm.mem_iff.1 he)).1
  refine CT_enter Try.func28 rfl ?_; (simp only [Try.ntmps28, List.size_toArray, List.length_cons, List.length_nil, Nat.reduceAdd, Nat.reduceSub, Array.replicate_succ, Array.replicate_zero, List.push_toArray, List.append_toArray, List.nil_append, List.cons_append])
  repeat' (first | refine go ?_ | intro _ | (apply cG; first | refine cT ?_ | refine cF ?_ | refine cS (fun _ => ?_) fun _ => ?_) | (apply gW; refine sW ?_) | (apply gI; refine sI ?_) | (apply gE; refine sE ?_) | (apply gP; refine sP ?_) | (apply gC; refine sC ?_) | (apply gD; refine sD ?_) | fail)
  refine O_d (dy_call ArgsI.pf (by first | exact rfl | trivial | (intro a b; rfl)) (New_ct)) ?_; rintro _ _ ⟨_, ⟨U, hU, hUl, rfl, rfl⟩, rfl⟩; refine O_n ?_
  refine O_sub trA_open ?_
  repeat' (first | refine go ?_ | intro _ | (apply cG; first | refine cT ?_ | refine cF ?_ | refine cS (fun _ => ?_) fun _ => ?_) | (apply gW; refine sW ?_) | (apply gI; refine sI ?_) | (apply gE; refine sE ?_) | (apply gP; refine sP ?_) | (apply gC; refine sC ?_) | (apply gD; refine sD ?_) | fail)
  refine O_d (dy_iter (R := mIT) (i := 4) rfl Ev.pf) ?_; rintro _ _ ⟨r, rfl, hLL⟩; replace hLL := hLL.trans SAt.pf; subst hLL; refine O_n ?_
  repeat' (first | refine go ?_ | intro _ | (apply cG; first | refine cT ?_ | refine cF ?_ | refine cS (fun _ => ?_) fun _ => ?_) | (apply gW; refine sW ?_) | (apply gI; refine sI ?_) | (apply gE; refine sE ?_) | (apply gP; refine sP ?_) | (apply gC; refine sC ?_) | (apply gD; refine sD ?_) | fail)
  obtain ⟨up, um, umm, urt, ulk⟩ := U
  dsimp only at hU hUl ⊢
  subst hUl
  refine C_loopS (κ := List Ent × Option Ent × List Ent × QT × List Ent) [false, false, false, false, true, true, false, false, false, false, false, false, true, true, true, true, true, true, true, true, true, true, true, true, true, true, true, true, true, true, true, true, true, true, true, true, false, false, false, false, false, false, false, false] (fun k => []) (fun k => [(0, cel up [k.2.2.2.1.val, .map (some um), .int .i64 0] 68), (1, mapo mIT um k.2.2.1), (2, qta k.2.2.2.1), (4, iti mIT r T.m T.mm k.1 k.2.1)]) (fun k => k.2.2.1.Perm k.2.2.2.2 ∧ QOk k.2.2.2.1 32 k.2.2.2.2 ∧ (k.2.2.2.2 ++ k.1).Perm T.mm) (fun k => k.1.length) (T.mm, none, umm, urt, []) ⟨hU.mm, hU.rt, List.Perm.refl _⟩ trivial ?_
  rintro ⟨rem, cur, mm, rt, E⟩ u1 ⟨hmm, hrt, hE⟩
  dsimp only at hmm hrt hE
  dsimp only
  ((try dsimp only); refine C_n ?_; (try simp only [Nat.reduceAdd, Nat.zero_add]))
  repeat' (first | refine go ?_ | intro _ | (apply cG; first | refine cT ?_ | refine cF ?_ | refine cS (fun _ => ?_) fun _ => ?_) | (apply gW; refine sW ?_) | (apply gI; refine sI ?_) | (apply gE; refine sE ?_) | (apply gP; refine sP ?_) | (apply gC; refine sC ?_) | (apply gD; refine sD ?_) | fail)
  refine O_d (dy_next (R := mIT) (i := 4) rfl Ev.pf) ?_; rintro a' L' h
  rcases h with ⟨hr, rfl, rfl⟩ | ⟨q, rem', hq, rfl, hLL⟩
  rotate_left
  · replace hLL := hLL.trans SAt.pf; subst hLL; refine O_n ?_
    rw [show mIT.val q.2 = itV q.2 from rfl]
    have hE' : ((E ++ [q]) ++ rem').Perm T.mm := by
      rw [List.append_assoc]
      exact (hq.symm.append_left E).trans hE
    have hku' := hku.perm hE'.symm
    have hfr : ∀ a ∈ E, a.1 ≠ q.1 := fun a ha hk => by
      unfold KeysU at hku'
      rw [List.append_assoc, List.map_append] at hku'
      exact (List.nodup_append.1 hku').2.2 a.1 (List.mem_map.2 ⟨a, ha, rfl⟩) q.1 (.head _) hk
    have hg := hgm q (hE'.mem_iff.1 (List.mem_append.2 (.inl (List.mem_append.2 (.inr (.head _))))))
    have hpn : posM q.1 mm 0 = none := posM_none.2 fun a ha => hfr a (hmm.mem_iff.1 ha)
    have hql := hq.length_eq
    have hlv := lv_le q.2.b
    rw [List.length_cons] at hql
    repeat' (first | refine go ?_ | intro _ | (apply cG; first | refine cT ?_ | refine cF ?_ | refine cS (fun _ => ?_) fun _ => ?_) | (apply gW; refine sW ?_) | (apply gI; refine sI ?_) | (apply gE; refine sE ?_) | (apply gP; refine sP ?_) | (apply gC; refine sC ?_) | (apply gD; refine sD ?_) | fail)
    refine O_s (sv_entry (R := mIT) (by repeat (first | exact .head _ | refine .tail _ ?_)) Ev.pf) ?_
    rw [show mIT.val q.2 = itV q.2 from rfl]
    repeat' (first | refine go ?_ | intro _ | (apply cG; first | refine cT ?_ | refine cF ?_ | refine cS (fun _ => ?_) fun _ => ?_) | (apply gW; refine sW ?_) | (apply gI; refine sI ?_) | (apply gE; refine sE ?_) | (apply gP; refine sP ?_) | (apply gC; refine sC ?_) | (apply gD; refine sD ?_) | fail)
    rename_i px
    refine C_draw (n := 6) [cel up [rt.val, .map (some um), .int .i64 0] 68, cel px [.int .i64 q.2.b.x0, .int .i64 q.2.b.y0, .int .i64 q.2.b.x1, .int .i64 q.2.b.y1, .int .i64 q.2.f, .int .i64 q.2.t] 80] [(0, 1), (1, 1), (2, 1), (3, 1), (4, 1), (5, 1), (6, 0)] (by kernel_rfl) (by kernel_rfl) Sb ?_
    repeat' (first | refine go ?_ | intro _ | (apply cG; first | refine cT ?_ | refine cF ?_ | refine cS (fun _ => ?_) fun _ => ?_) | (apply gW; refine sW ?_) | (apply gI; refine sI ?_) | (apply gE; refine sE ?_) | (apply gP; refine sP ?_) | (apply gC; refine sC ?_) | (apply gD; refine sD ?_) | fail)
    refine D_op rfl ?_; refine X_d (dy_put (R := mIT) (i := 2) q.2 rfl Ev.pf Ev.pf Ev.pf rfl (fun _ _ _ => trivial)) ?_; rintro _ _ ⟨rfl, hLL⟩; replace hLL := hLL.trans SAt.pf; subst hLL; refine ⟨(by first | exact .inl rfl | exact .inr Sb), D_n ?_⟩
    rw [putM_new (by unfold getM; rw [hpn]; rfl)]
    repeat' (first | refine go ?_ | intro _ | (apply cG; first | refine cT ?_ | refine cF ?_ | refine cS (fun _ => ?_) fun _ => ?_) | (apply gW; refine sW ?_) | (apply gI; refine sI ?_) | (apply gE; refine sE ?_) | (apply gP; refine sP ?_) | (apply gC; refine sC ?_) | (apply gD; refine sD ?_) | fail)
    refine C_draw (n := 13) [cel up [rt.val, .map (some um), .int .i64 0] 68, cel px [.int .i64 q.2.b.x0, .int .i64 q.2.b.y0, .int .i64 q.2.b.x1, .int .i64 q.2.b.y1, .int .i64 q.2.f, .int .i64 q.2.t] 80] [(0, 1), (1, 1), (2, 1), (3, 1), (4, 1), (5, 1), (6, 1), (8, 1), (9, 1), (7, 0), (10, 0), (11, 1), (12, 1), (13, 0)] (by kernel_rfl) (by kernel_rfl) Sb ?_
    repeat' (first | refine go ?_ | intro _ | (apply cG; first | refine cT ?_ | refine cF ?_ | refine cS (fun _ => ?_) fun _ => ?_) | (apply gW; refine sW ?_) | (apply gI; refine sI ?_) | (apply gE; refine sE ?_) | (apply gP; refine sP ?_) | (apply gC; refine sC ?_) | (apply gD; refine sD ?_) | fail)
    refine D_op rfl ?_; refine X_d (dy_call ArgsI.pf (by first | exact rfl | trivial | (intro a b; rfl)) (home_ct hg)) ?_; rintro _ _ ⟨_, ⟨rfl, hLL⟩, rfl⟩; replace hLL := hLL.symm; subst hLL; refine ⟨(by first | exact .inl rfl | exact .inr Sb), D_n ?_⟩
    repeat' (first | refine go ?_ | intro _ | (apply cG; first | refine cT ?_ | refine cF ?_ | refine cS (fun _ => ?_) fun _ => ?_) | (apply gW; refine sW ?_) | (apply gI; refine sI ?_) | (apply gE; refine sE ?_) | (apply gP; refine sP ?_) | (apply gC; refine sC ?_) | (apply gD; refine sD ?_) | fail)
    refine D_op rfl ?_; refine X_d (dy_call ArgsI.pf (by first | exact rfl | trivial | (intro a b; rfl)) (CT.pull (i := 3) (by rfl) (put_ct (32 - lvB q.2.b) 32 rt E q _ hrt ⟨hg, hlv, Nat.le_refl _, hfr⟩ (by omega)))) ?_; rintro _ _ ⟨_, ⟨t', ht', rfl, rfl⟩, rfl⟩; refine ⟨(by first | exact .inl rfl | exact .inr Sb), D_n ?_⟩
    repeat' (first | refine go ?_ | intro _ | (apply cG; first | refine cT ?_ | refine cF ?_ | refine cS (fun _ => ?_) fun _ => ?_) | (apply gW; refine sW ?_) | (apply gI; refine sI ?_) | (apply gE; refine sE ?_) | (apply gP; refine sP ?_) | (apply gC; refine sC ?_) | (apply gD; refine sD ?_) | fail)
    exact E_round (rem', some q, mm ++ [(q.1, q.2)], t', E ++ [q]) ⟨hmm.append_right _, ht', hE'⟩ (by dsimp only; omega) trivial Sb
  refine O_n ?_
  subst hr
  rw [List.append_nil] at hE
  repeat' (first | refine go ?_ | intro _ | (apply cG; first | refine cT ?_ | refine cF ?_ | refine cS (fun _ => ?_) fun _ => ?_) | (apply gW; refine sW ?_) | (apply gI; refine sI ?_) | (apply gE; refine sE ?_) | (apply gP; refine sP ?_) | (apply gC; refine sC ?_) | (apply gD; refine sD ?_) | fail)
  refine E_res1 (by rfl) (by rfl) ⟨⟨up, um, mm, rt, T.lk⟩, ⟨(hmm.trans hE).trans h.mm, (hrt.perm hE).perm h.mm⟩, rfl, rfl, rfl⟩ ?_
  exact Sub.trans (B := iti mIT r T.m T.mm [] cur :: cel T.p [T.rt.val, .map (some T.m), .int .i64 T.lk] 68 :: qta T.rt :: cel up [rt.val, .map (some um), .int .i64 T.lk] 68 :: mapo mIT um mm :: qta rt :: L) Sb (Sub.trans sub_iti (Sub.trans (B := cel T.p [T.rt.val, .map (some T.m), .int .i64 T.lk] 68 :: mapo mIT T.m T.mm :: qta T.rt :: cel up [rt.val, .map (some um), .int .i64 T.lk] 68 :: mapo mIT um mm :: qta rt :: L) Sb (Sub.trans trA_close (Sub.trans (B := cel up [rt.val, .map (some um), .int .i64 T.lk] 68 :: mapo mIT um mm :: qta rt :: trA T :: L) Sb (trA_close (T := ⟨up, um, mm, rt, T.lk⟩))))))
end
end Go.Proofs.Ytnjjifikogblpaa
