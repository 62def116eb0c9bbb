/-
  Package index, the laws' helpers: lives, do, filled.
-/
import Derived.Test.YtnjjifikogblpaaMY
namespace Go.Proofs.Ytnjjifikogblpaa
open Go Go.RowKit
set_option linter.unusedVariables false
set_option linter.unusedSimpArgs false
set_option maxRecDepth 20000
set_option synthInstance.maxSize 100000
set_option synthInstance.maxHeartbeats 400000
def stepO (l : List Ent) (o : OP) : List Ent := if o.r = true then delE o.e.1 l else addL l o.e.1 o.e.2
theorem WFL.step {l : List Ent} (h : WFL l) (o : OP) : WFL (stepO l o) := by
  unfold stepO
  split
  · exact h.del _
  · exact h.add _ _
/-- the program's tree and the reference's -/
structure Both (T : TR) (R : RM) : Prop where
  t : TROk T R.l
  w : WFL R.l
def xLive : IT := ⟨⟨0, 0, 5, 5⟩, 2, 4⟩
def bLive : BX := ⟨5, 5, 9, 9⟩
/-- what fills a tree -/
def FillOk (l : List Ent) : Prop := ∀ e ∈ l, (0 ≤ e.1 ∧ e.1 ≤ 11) ∧ 0 ≤ e.2.f ∧ e.2.t ≤ 7
theorem FillOk.step {l : List Ent} {o : OP} (h : FillOk l) (ho : OpOk o) : FillOk (stepO l o) := by
  intro e he
  unfold stepO at he
  split at he
  · exact h e (List.mem_filter.1 he).1
  · unfold addL at he
    split at he
    · have := (insE_perm l (o.e.1, o.e.2)).symm.mem_iff.1 he
      rcases List.mem_append.1 this with h1 | h1
      · exact h e h1
      · rw [List.mem_singleton.1 h1]
        exact ⟨ho.1, ho.2.2.1, ho.2.2.2.2⟩
    · exact h e he
theorem step_len {l : List Ent} {o : OP} : (stepO l o).length ≤ l.length + 1 := by
  unfold stepO
  split
  · have := List.length_filter_le (fun a : Ent => decide (a.1 ≠ o.e.1)) l
    unfold delE
    omega
  · unfold addL
    split
    · rw [← (insE_perm l _).length_eq, List.length_append, List.length_singleton]
      exact Nat.le_refl _
    · omega
section
variable {P : Program} {W0 w : World} {L : List HP} {a : Act} {d : Option Tmp} {ty : TypeId} {pos : String} {aft : Array Edge} {gd : Option (Nat × Bool)} {o₀ : Op}
theorem dy_of_sv {v : Value} (h : SV P W0 L ⟨d, o₀, ty, pos, aft, gd⟩ a v) : DY P W0 L ⟨d, o₀, ty, pos, aft, gd⟩ a fun a' L' => a.put d v = a' ∧ L' = L :=
  dy_val fun w s => ⟨v, w, L, h.run w s, ⟨rfl, rfl⟩, s⟩
set_option maxHeartbeats 2000000 in
theorem lives_ct : CT Try.prog 17 #[] W0 L fun r L' => r = .bool true ∧ L' = L := by
  have hw0 := WFL.nil
  have hw1 := hw0.add 7 xLive
  have e1 : addE [] 7 xLive = 0 := by decide +kernel
  have e2 : addL [] 7 xLive = [(7, xLive)] := by decide +kernel
  have e3 : findL [(7, xLive)] bLive 4 = [7] := by decide +kernel
  have e4 : findL [(7, xLive)] bLive 5 = [] := by decide +kernel
  have e5 : lookF [(7, xLive)] bLive = 30 := by decide +kernel
  have e6 : fokB bLive 4 = true := by decide +kernel
  have e7 : fokB bLive 5 = true := by decide +kernel
  have e8 : findE bLive 4 = 0 := by decide +kernel
  have e9 : findE bLive 5 = 0 := by decide +kernel
  refine CT_enter Try.func17 rfl ?_; (simp only [Try.ntmps17, List.size_toArray, List.length_cons, List.length_nil, Nat.reduceAdd, Nat.reduceSub, Array.replicate_succ, Array.replicate_zero, List.push_toArray, List.append_toArray, List.nil_append, List.cons_append])
  repeat' (first | refine go ?_ | intro _ | (apply cG; first | refine cT ?_ | refine cF ?_ | refine cS (fun _ => ?_) fun _ => ?_) | (apply gW; refine sW ?_) | (apply gI; refine sI ?_) | (apply gE; refine sE ?_) | (apply gP; refine sP ?_) | (apply gC; refine sC ?_) | (apply gD; refine sD ?_) | fail)
  refine O_d (dy_call ArgsI.pf (by first | exact rfl | trivial | (intro a b; rfl)) (New_ct)) ?_; rintro _ _ ⟨_, ⟨T, hT, hlk, rfl, rfl⟩, rfl⟩; refine O_n ?_
  repeat' (first | refine go ?_ | intro _ | (apply cG; first | refine cT ?_ | refine cF ?_ | refine cS (fun _ => ?_) fun _ => ?_) | (apply gW; refine sW ?_) | (apply gI; refine sI ?_) | (apply gE; refine sE ?_) | (apply gP; refine sP ?_) | (apply gC; refine sC ?_) | (apply gD; refine sD ?_) | fail)
  refine O_d (dy_call ArgsI.pf (by first | exact rfl | trivial | (intro a b; rfl)) (Add_ct (id := 7) (x := xLive) hT hw0)) ?_; rintro _ _ ⟨_, ⟨T1, hp1, hlk1, hT1, rfl, rfl⟩, rfl⟩; refine O_n ?_
  rw [e2] at hT1 hw1
  rw [e1, ← hp1]
  repeat' (first | refine go ?_ | intro _ | (apply cG; first | refine cT ?_ | refine cF ?_ | refine cS (fun _ => ?_) fun _ => ?_) | (apply gW; refine sW ?_) | (apply gI; refine sI ?_) | (apply gE; refine sE ?_) | (apply gP; refine sP ?_) | (apply gC; refine sC ?_) | (apply gD; refine sD ?_) | fail)
  refine O_d (dy_call ArgsI.pf (by first | exact rfl | trivial | (intro a b; rfl)) (CT.pull (i := 1) (by rfl) (Find_ct (b := bLive) (d := 4) hT1 hw1))) ?_; rintro _ _ ⟨_, ⟨A2, c2, lk2, hlk2, rfl, rfl⟩, rfl⟩; refine O_n ?_
  rw [if_pos e6, e5] at hlk2
  subst hlk2
  rw [e3, e8]
  repeat' (first | refine go ?_ | intro _ | (apply cG; first | refine cT ?_ | refine cF ?_ | refine cS (fun _ => ?_) fun _ => ?_) | (apply gW; refine sW ?_) | (apply gI; refine sI ?_) | (apply gE; refine sE ?_) | (apply gP; refine sP ?_) | (apply gC; refine sC ?_) | (apply gD; refine sD ?_) | fail)
  refine O_d (dy_call ArgsI.pf (by first | exact rfl | trivial | (intro a b; rfl)) (CT.pull (i := 1) (by rfl) (Looks_ct (T := { T1 with lk := 30 })))) ?_; rintro _ _ ⟨_, ⟨rfl, rfl⟩, rfl⟩; refine O_n ?_
  dsimp only
  repeat' (first | refine go ?_ | intro _ | (apply cG; first | refine cT ?_ | refine cF ?_ | refine cS (fun _ => ?_) fun _ => ?_) | (apply gW; refine sW ?_) | (apply gI; refine sI ?_) | (apply gE; refine sE ?_) | (apply gP; refine sP ?_) | (apply gC; refine sC ?_) | (apply gD; refine sD ?_) | fail)
  have hT2 : TROk { T1 with lk := 30 } [(7, xLive)] := ⟨hT1.mm, hT1.rt⟩
  refine O_d (dy_call ArgsI.pf (by first | exact rfl | trivial | (intro a b; rfl)) (Find_ct (T := { T1 with lk := 30 }) (b := bLive) (d := 5) hT2 hw1)) ?_; rintro _ _ ⟨_, ⟨A3, c3, lk3, hlk3, rfl, rfl⟩, rfl⟩; refine O_n ?_
  rw [if_pos e7, e5] at hlk3
  subst hlk3
  rw [e4, e9, List.length_nil]
  have hT3 : TROk { T1 with lk := 30 } [(7, xLive)] := ⟨hT1.mm, hT1.rt⟩
  repeat' (first | refine go ?_ | intro _ | (apply cG; first | refine cT ?_ | refine cF ?_ | refine cS (fun _ => ?_) fun _ => ?_) | (apply gW; refine sW ?_) | (apply gI; refine sI ?_) | (apply gE; refine sE ?_) | (apply gP; refine sP ?_) | (apply gC; refine sC ?_) | (apply gD; refine sD ?_) | fail)
  refine O_d (dy_lit1 (R := eI) 7 (hcs := by rfl) (hel := fun _ _ _ => by rfl)) ?_; rintro _ _ ⟨_, rfl, rfl⟩; refine O_n ?_
  repeat' (first | refine go ?_ | intro _ | (apply cG; first | refine cT ?_ | refine cF ?_ | refine cS (fun _ => ?_) fun _ => ?_) | (apply gW; refine sW ?_) | (apply gI; refine sI ?_) | (apply gE; refine sE ?_) | (apply gP; refine sP ?_) | (apply gC; refine sC ?_) | (apply gD; refine sD ?_) | fail)
  refine O_d (dy_call ArgsI.pf (by first | exact rfl | trivial | (intro a b; rfl)) (SameInts_ct (q := true) (la := [7]) (lb := [7]) (.inr ⟨_, .tail _ (.tail _ (.tail _ (.head _)))⟩) (.inr ⟨_, .head _⟩) (by decide) (by decide) (by decide))) ?_; rintro _ _ ⟨_, ⟨rfl, hLL⟩, rfl⟩; replace hLL := hLL.symm; subst hLL; refine O_n ?_
  repeat' (first | refine go ?_ | intro _ | (apply cG; first | refine cT ?_ | refine cF ?_ | refine cS (fun _ => ?_) fun _ => ?_) | (apply gW; refine sW ?_) | (apply gI; refine sI ?_) | (apply gE; refine sE ?_) | (apply gP; refine sP ?_) | (apply gC; refine sC ?_) | (apply gD; refine sD ?_) | fail)
  refine O_d (dy_call ArgsI.pf (by first | exact rfl | trivial | (intro a b; rfl)) (CT.pull (i := 2) (by rfl) (Len_ct (T := { T1 with lk := 30 }) hT3))) ?_; rintro _ _ ⟨_, ⟨rfl, rfl⟩, rfl⟩; refine O_n ?_
  rw [show ([(7, xLive)] : List Ent).length = 1 from rfl]
  repeat' (first | refine go ?_ | intro _ | (apply cG; first | refine cT ?_ | refine cF ?_ | refine cS (fun _ => ?_) fun _ => ?_) | (apply gW; refine sW ?_) | (apply gI; refine sI ?_) | (apply gE; refine sE ?_) | (apply gP; refine sP ?_) | (apply gC; refine sC ?_) | (apply gD; refine sD ?_) | fail)
  refine E_res1 (by rfl) (by rfl) ⟨rfl, rfl⟩ Sb
theorem do_ct {T : TR} {R : RM} {o : OP} (h : Both T R) : CT Try.prog 30 #[.pointer (some ⟨T.p, 0, none⟩), .pointer (some ⟨R.p, 0, none⟩), opV o] W0 (trA T :: rtA R :: L) fun r L' => ∃ T' R', Both T' R' ∧ T'.p = T.p ∧ R'.p = R.p ∧ T'.lk = T.lk ∧ R'.lk = R.lk ∧ R'.l = stepO R.l o ∧ r = .bool true ∧ L' = trA T' :: rtA R' :: L := by
  obtain ⟨ht, hw⟩ := h
  have hst := hw.step o
  cases hr : o.r with
  | true =>
    have hs : stepO R.l o = delE o.e.1 R.l := if_pos hr
    rw [hs] at hst ⊢
    unfold opV
    rw [hr]
    refine CT_enter Try.func30 rfl ?_; (simp only [Try.ntmps30, List.size_toArray, List.length_cons, List.length_nil, Nat.reduceAdd, Nat.reduceSub, Array.replicate_succ, Array.replicate_zero, List.push_toArray, List.append_toArray, List.nil_append, List.cons_append])
    repeat' (first | refine go ?_ | intro _ | (apply cG; first | refine cT ?_ | refine cF ?_ | refine cS (fun _ => ?_) fun _ => ?_) | (apply gW; refine sW ?_) | (apply gI; refine sI ?_) | (apply gE; refine sE ?_) | (apply gP; refine sP ?_) | (apply gC; refine sC ?_) | (apply gD; refine sD ?_) | fail)
    rename_i pb
    refine C_draw (n := 99) [cel pb [.bool true, .int .i64 o.e.1, .int .i64 o.e.2.b.x0, .int .i64 o.e.2.b.y0, .int .i64 o.e.2.b.x1, .int .i64 o.e.2.b.y1, .int .i64 o.e.2.f, .int .i64 o.e.2.t] 58] [(0, 1), (1, 1), (2, 1), (3, 1), (5, 1), (6, 1), (7, 1), (8, 1), (4, 0), (9, 0), (10, 1), (11, 1)] (by kernel_rfl) (by kernel_rfl) Sb ?_
    repeat' (first | refine go ?_ | intro _ | (apply cG; first | refine cT ?_ | refine cF ?_ | refine cS (fun _ => ?_) fun _ => ?_) | (apply gW; refine sW ?_) | (apply gI; refine sI ?_) | (apply gE; refine sE ?_) | (apply gP; refine sP ?_) | (apply gC; refine sC ?_) | (apply gD; refine sD ?_) | fail)
    refine D_op rfl ?_; refine X_d (dy_call ArgsI.pf (by first | exact rfl | trivial | (intro a b; rfl)) (CT.pull (i := 1) (by rfl) (Remove_ct (id := o.e.1) ht hw))) ?_; rintro _ _ ⟨_, ⟨T', h1, h2, h3, rfl, rfl⟩, rfl⟩; refine ⟨(by first | exact .inl rfl | exact .inr Sb), D_n ?_⟩
    repeat' (first | refine go ?_ | intro _ | (apply cG; first | refine cT ?_ | refine cF ?_ | refine cS (fun _ => ?_) fun _ => ?_) | (apply gW; refine sW ?_) | (apply gI; refine sI ?_) | (apply gE; refine sE ?_) | (apply gP; refine sP ?_) | (apply gC; refine sC ?_) | (apply gD; refine sD ?_) | fail)
    refine D_op rfl ?_; refine X_d (dy_call ArgsI.pf (by first | exact rfl | trivial | (intro a b; rfl)) (CT.pull (i := 2) (by rfl) (rRemove_ct (R := R) (id := o.e.1) hw))) ?_; rintro _ _ ⟨_, ⟨R', k1, k2, k3, rfl, rfl⟩, rfl⟩; refine ⟨(by first | exact .inl rfl | exact .inr Sb), D_n ?_⟩
    repeat' (first | refine go ?_ | intro _ | (apply cG; first | refine cT ?_ | refine cF ?_ | refine cS (fun _ => ?_) fun _ => ?_) | (apply gW; refine sW ?_) | (apply gI; refine sI ?_) | (apply gE; refine sE ?_) | (apply gP; refine sP ?_) | (apply gC; refine sC ?_) | (apply gD; refine sD ?_) | fail)
    repeat' (first | refine go ?_ | intro _ | (apply cG; first | refine cT ?_ | refine cF ?_ | refine cS (fun _ => ?_) fun _ => ?_) | (apply gW; refine sW ?_) | (apply gI; refine sI ?_) | (apply gE; refine sE ?_) | (apply gP; refine sP ?_) | (apply gC; refine sC ?_) | (apply gD; refine sD ?_) | fail)
    rw [← k3] at h3 hst
    refine E_res1 (by rfl) (by rfl) ⟨T', R', ⟨h3, hst⟩, h1, k1, h2, k2, k3, rfl, rfl⟩ Sb
  | false =>
    have hs : stepO R.l o = addL R.l o.e.1 o.e.2 := if_neg (by rw [hr]; decide)
    rw [hs] at hst ⊢
    unfold opV
    rw [hr]
    refine CT_enter Try.func30 rfl ?_; (simp only [Try.ntmps30, List.size_toArray, List.length_cons, List.length_nil, Nat.reduceAdd, Nat.reduceSub, Array.replicate_succ, Array.replicate_zero, List.push_toArray, List.append_toArray, List.nil_append, List.cons_append])
    repeat' (first | refine go ?_ | intro _ | (apply cG; first | refine cT ?_ | refine cF ?_ | refine cS (fun _ => ?_) fun _ => ?_) | (apply gW; refine sW ?_) | (apply gI; refine sI ?_) | (apply gE; refine sE ?_) | (apply gP; refine sP ?_) | (apply gC; refine sC ?_) | (apply gD; refine sD ?_) | fail)
    rename_i pb
    refine C_draw (n := 99) [cel pb [.bool false, .int .i64 o.e.1, .int .i64 o.e.2.b.x0, .int .i64 o.e.2.b.y0, .int .i64 o.e.2.b.x1, .int .i64 o.e.2.b.y1, .int .i64 o.e.2.f, .int .i64 o.e.2.t] 58] [(0, 1), (1, 1), (2, 1), (3, 1), (4, 1), (5, 1), (6, 1), (7, 1), (8, 1), (9, 1), (10, 1), (11, 1), (12, 1), (14, 1), (15, 1), (16, 1), (17, 1), (18, 1), (19, 1), (20, 1), (21, 1), (22, 1), (23, 1), (24, 1), (25, 1), (26, 1), (13, 0), (27, 0), (28, 1), (29, 1)] (by kernel_rfl) (by kernel_rfl) Sb ?_
    repeat' (first | refine go ?_ | intro _ | (apply cG; first | refine cT ?_ | refine cF ?_ | refine cS (fun _ => ?_) fun _ => ?_) | (apply gW; refine sW ?_) | (apply gI; refine sI ?_) | (apply gE; refine sE ?_) | (apply gP; refine sP ?_) | (apply gC; refine sC ?_) | (apply gD; refine sD ?_) | fail)
    refine D_op rfl ?_; refine X_d (dy_call ArgsI.pf (by first | exact rfl | trivial | (intro a b; rfl)) (CT.pull (i := 1) (by rfl) (Add_ct (id := o.e.1) (x := o.e.2) ht hw))) ?_; rintro _ _ ⟨_, ⟨T', h1, h2, h3, rfl, rfl⟩, rfl⟩; refine ⟨(by first | exact .inl rfl | exact .inr Sb), D_n ?_⟩
    repeat' (first | refine go ?_ | intro _ | (apply cG; first | refine cT ?_ | refine cF ?_ | refine cS (fun _ => ?_) fun _ => ?_) | (apply gW; refine sW ?_) | (apply gI; refine sI ?_) | (apply gE; refine sE ?_) | (apply gP; refine sP ?_) | (apply gC; refine sC ?_) | (apply gD; refine sD ?_) | fail)
    refine D_op rfl ?_; refine X_d (dy_call ArgsI.pf (by first | exact rfl | trivial | (intro a b; rfl)) (CT.pull (i := 2) (by rfl) (rAdd_ct (R := R) (id := o.e.1) (x := o.e.2) hw))) ?_; rintro _ _ ⟨_, ⟨R', k1, k2, k3, rfl, rfl⟩, rfl⟩; refine ⟨(by first | exact .inl rfl | exact .inr Sb), D_n ?_⟩
    repeat' (first | refine go ?_ | intro _ | (apply cG; first | refine cT ?_ | refine cF ?_ | refine cS (fun _ => ?_) fun _ => ?_) | (apply gW; refine sW ?_) | (apply gI; refine sI ?_) | (apply gE; refine sE ?_) | (apply gP; refine sP ?_) | (apply gC; refine sC ?_) | (apply gD; refine sD ?_) | fail)
    repeat' (first | refine go ?_ | intro _ | (apply cG; first | refine cT ?_ | refine cF ?_ | refine cS (fun _ => ?_) fun _ => ?_) | (apply gW; refine sW ?_) | (apply gI; refine sI ?_) | (apply gE; refine sE ?_) | (apply gP; refine sP ?_) | (apply gC; refine sC ?_) | (apply gD; refine sD ?_) | fail)
    rw [← k3] at h3 hst
    refine E_res1 (by rfl) (by rfl) ⟨T', R', ⟨h3, hst⟩, h1, k1, h2, k2, k3, rfl, rfl⟩ Sb
set_option maxHeartbeats 2000000 in
theorem filled_ct {A : Option Addr} {c : Nat} {l : List Int} {most : Nat} (hv : rd eI (.slice A l.length c) l ∈ L) (hr : ∀ n ∈ l, I64 n) (hl : l.length ≤ 9223372036854775807) (hm : most ≤ 1000) :
    CT Try.prog 10 #[.slice A l.length c, .int .i64 (most : Int)] W0 L fun r L' => ∃ T R, Both T R ∧ T.lk = 0 ∧ R.lk = 0 ∧ FillOk R.l ∧ R.l.length ≤ most ∧ r = .tuple #[.pointer (some ⟨T.p, 0, none⟩), .pointer (some ⟨R.p, 0, none⟩), .bool true] ∧ L' = trA T :: rtA R :: L := by
  refine CT_enter Try.func10 rfl ?_; (simp only [Try.ntmps10, List.size_toArray, List.length_cons, List.length_nil, Nat.reduceAdd, Nat.reduceSub, Array.replicate_succ, Array.replicate_zero, List.push_toArray, List.append_toArray, List.nil_append, List.cons_append])
  repeat' (first | refine go ?_ | intro _ | (apply cG; first | refine cT ?_ | refine cF ?_ | refine cS (fun _ => ?_) fun _ => ?_) | (apply gW; refine sW ?_) | (apply gI; refine sI ?_) | (apply gE; refine sE ?_) | (apply gP; refine sP ?_) | (apply gC; refine sC ?_) | (apply gD; refine sD ?_) | fail)
  refine O_d (dy_call ArgsI.pf (by first | exact rfl | trivial | (intro a b; rfl)) (New_ct)) ?_; rintro _ _ ⟨_, ⟨T, hT, hlk, rfl, rfl⟩, rfl⟩; refine O_n ?_
  repeat' (first | refine go ?_ | intro _ | (apply cG; first | refine cT ?_ | refine cF ?_ | refine cS (fun _ => ?_) fun _ => ?_) | (apply gW; refine sW ?_) | (apply gI; refine sI ?_) | (apply gE; refine sE ?_) | (apply gP; refine sP ?_) | (apply gC; refine sC ?_) | (apply gD; refine sD ?_) | fail)
  rename_i rp
  refine O_d (dy_call ArgsI.pf (by first | exact rfl | trivial | (intro a b; rfl)) (rScript_ct (l := l) (most := most) (.tail _ (.tail _ hv)) hr hl hm)) ?_; rintro _ _ ⟨_, ⟨A1, c1, os, hos, hol, rfl, rfl⟩, rfl⟩; refine O_n ?_
  repeat' (first | refine go ?_ | intro _ | (apply cG; first | refine cT ?_ | refine cF ?_ | refine cS (fun _ => ?_) fun _ => ?_) | (apply gW; refine sW ?_) | (apply gI; refine sI ?_) | (apply gE; refine sE ?_) | (apply gP; refine sP ?_) | (apply gC; refine sC ?_) | (apply gD; refine sD ?_) | fail)
  refine C_rdnil eTh none 0 ?_
  refine C_sub (S := trA T :: rtA ⟨rp, none, 0, [], 0⟩ :: own 58 eOP (.slice A1 os.length c1) os :: L) (Sub.trans (B := cel rp [.slice none 0 0, .int .i64 0] 36 :: rd eTh (.slice none 0 0) [] :: trA T :: own 58 eOP (.slice A1 os.length c1) os :: L) Sb (Sub.trans (rtA_close (R := ⟨rp, none, 0, [], 0⟩)) Sb)) ?_
  obtain ⟨tp, htp⟩ : ∃ tp, T.p = tp := ⟨_, rfl⟩
  rw [htp]
  refine C_loopS (κ := Nat × TR × RM) [false, false, false, false, true, true, true, false, false, false, true, false, false, false, false, false, false, false, false, false, true, true, true, true, true, true, true, true, true, true, true, true, true, true, true, true, true, true, true, true, true, true, true, true, true, false, false] (fun k => [(10, .int .i64 (k.1 : Int))]) (fun k => [(0, trA k.2.1), (1, rtA k.2.2)]) (fun k => k.1 ≤ os.length ∧ Both k.2.1 k.2.2 ∧ k.2.1.p = tp ∧ k.2.2.p = rp ∧ k.2.1.lk = 0 ∧ k.2.2.lk = 0 ∧ FillOk k.2.2.l ∧ k.2.2.l.length ≤ k.1) (fun k => os.length - k.1) (0, T, ⟨rp, none, 0, [], 0⟩) ⟨Nat.zero_le _, ⟨hT, WFL.nil⟩, htp, rfl, hlk, rfl, (fun e h => (by cases h)), Nat.zero_le _⟩ ⟨rfl, trivial⟩ ?_
  clear hT hlk htp
  rintro ⟨i, T, R⟩ u ⟨hi, hB, hp, hq, hk, hlk2, hf, hlen⟩
  dsimp only at hi hB hp hq hk hlk2 hf hlen
  dsimp only
  ((try dsimp only); refine C_n ?_; (try simp only [Nat.reduceAdd, Nat.zero_add]))
  rw [← hp, ← hq]
  by_cases hio : i < os.length
  rotate_left
  · repeat' (first | refine go ?_ | intro _ | (apply cG; first | refine cT ?_ | refine cF ?_ | refine cS (fun _ => ?_) fun _ => ?_) | (apply gW; refine sW ?_) | (apply gI; refine sI ?_) | (apply gE; refine sE ?_) | (apply gP; refine sP ?_) | (apply gC; refine sC ?_) | (apply gD; refine sD ?_) | fail)
    refine E_res3 (by rfl) (by rfl) ⟨T, R, hB, hk, hlk2, hf, by omega, rfl, rfl⟩ Sb
  obtain ⟨o, ho⟩ : ∃ o, os[i]? = some o := ⟨_, List.getElem?_eq_getElem hio⟩
  have hao : At os i o := ⟨ho⟩
  have hox := hos o (List.mem_of_getElem? ho)
  repeat' (first | refine go ?_ | intro _ | (apply cG; first | refine cT ?_ | refine cF ?_ | refine cS (fun _ => ?_) fun _ => ?_) | (apply gW; refine sW ?_) | (apply gI; refine sI ?_) | (apply gE; refine sE ?_) | (apply gP; refine sP ?_) | (apply gC; refine sC ?_) | (apply gD; refine sD ?_) | fail)
  refine C_drawU (n := 99) [own 58 eOP (.slice A1 os.length c1) os] (.two [(0, 1), (1, 1), (2, 1), (3, 1), (4, 1), (5, 1), (6, 0), (7, 1), (8, 1), (9, 1), (11, 1), (12, 1), (13, 1)] 10 (.leaf [(14, 0), (15, 1), (16, 1), (17, 1)]) 14 (.leaf [(15, 1), (10, 0), (16, 1), (17, 1)])) (by kernel_rfl) (by kernel_rfl) Sb ?_
  refine DT_two ?_
  repeat' (first | refine go ?_ | intro _ | (apply cG; first | refine cT ?_ | refine cF ?_ | refine cS (fun _ => ?_) fun _ => ?_) | (apply gW; refine sW ?_) | (apply gI; refine sI ?_) | (apply gE; refine sE ?_) | (apply gP; refine sP ?_) | (apply gC; refine sC ?_) | (apply gD; refine sD ?_) | fail)
  refine D_op rfl ?_; refine X_d (dy_call ArgsI.pf (by first | exact rfl | trivial | (intro a b; rfl)) (do_ct (o := o) hB)) ?_; rintro _ _ ⟨_, ⟨T', R', hB', h1, h2, h3, h4, h5, rfl, rfl⟩, rfl⟩; refine ⟨(by first | exact .inl rfl | exact .inr Sb), D_n ?_⟩
  rw [← h1, ← h2]
  repeat' (first | refine go ?_ | intro _ | (apply cG; first | refine cT ?_ | refine cF ?_ | refine cS (fun _ => ?_) fun _ => ?_) | (apply gW; refine sW ?_) | (apply gI; refine sI ?_) | (apply gE; refine sE ?_) | (apply gP; refine sP ?_) | (apply gC; refine sC ?_) | (apply gD; refine sD ?_) | fail)
  refine E_two ?_ ?_
  · refine D_op rfl ?_; refine X_d (dy_call ArgsI.pf (by first | exact rfl | trivial | (intro a b; rfl)) (Len_ct hB'.t)) ?_; rintro _ _ ⟨_, ⟨rfl, rfl⟩, rfl⟩; refine ⟨(by first | exact .inl rfl | exact .inr Sb), D_n ?_⟩
    repeat' (first | refine go ?_ | intro _ | (apply cG; first | refine cT ?_ | refine cF ?_ | refine cS (fun _ => ?_) fun _ => ?_) | (apply gW; refine sW ?_) | (apply gI; refine sI ?_) | (apply gE; refine sE ?_) | (apply gP; refine sP ?_) | (apply gC; refine sC ?_) | (apply gD; refine sD ?_) | fail)
    refine E_way (DT_leaf ?_)
    refine D_sub (L' := cel R'.p [.slice R'.A R'.l.length R'.c, .int .i64 R'.lk] 36 :: rd eTh (.slice R'.A R'.l.length R'.c) R'.l :: trA T' :: own 58 eOP (.slice A1 os.length c1) os :: L) (Sub.trans (B := rtA R' :: trA T' :: own 58 eOP (.slice A1 os.length c1) os :: L) Sb rtA_open) ?_
    refine D_op rfl ?_; refine X_d (dy_of_sv SVc.pf) ?_; rintro _ _ ⟨rfl, rfl⟩; refine ⟨(by first | exact .inl rfl | exact .inr Sb), D_n ?_⟩
    repeat' (first | refine go ?_ | intro _ | (apply cG; first | refine cT ?_ | refine cF ?_ | refine cS (fun _ => ?_) fun _ => ?_) | (apply gW; refine sW ?_) | (apply gI; refine sI ?_) | (apply gE; refine sE ?_) | (apply gP; refine sP ?_) | (apply gC; refine sC ?_) | (apply gD; refine sD ?_) | fail)
    repeat' (first | refine go ?_ | intro _ | (apply cG; first | refine cT ?_ | refine cF ?_ | refine cS (fun _ => ?_) fun _ => ?_) | (apply gW; refine sW ?_) | (apply gI; refine sI ?_) | (apply gE; refine sE ?_) | (apply gP; refine sP ?_) | (apply gC; refine sC ?_) | (apply gD; refine sD ?_) | fail)
    refine E_round (i + 1, T', R') ⟨hio, hB', rfl, rfl, h3.trans hk, h4.trans hlk2, by dsimp only; rw [h5]; exact hf.step hox, by dsimp only; rw [h5]; have := step_len (l := R.l) (o := o); omega⟩ (by dsimp only; omega) ⟨rfl, trivial⟩ ?_
    exact Sub.trans (B := cel R'.p [.slice R'.A R'.l.length R'.c, .int .i64 R'.lk] 36 :: rd eTh (.slice R'.A R'.l.length R'.c) R'.l :: trA T' :: own 58 eOP (.slice A1 os.length c1) os :: L) Sb (Sub.trans rtA_close Sb)
  · refine D_sub (L' := cel R'.p [.slice R'.A R'.l.length R'.c, .int .i64 R'.lk] 36 :: rd eTh (.slice R'.A R'.l.length R'.c) R'.l :: trA T' :: own 58 eOP (.slice A1 os.length c1) os :: L) (Sub.trans (B := rtA R' :: trA T' :: own 58 eOP (.slice A1 os.length c1) os :: L) Sb rtA_open) ?_
    refine D_op rfl ?_; refine X_d (dy_of_sv SVc.pf) ?_; rintro _ _ ⟨rfl, rfl⟩; refine ⟨(by first | exact .inl rfl | exact .inr Sb), D_n ?_⟩
    repeat' (first | refine go ?_ | intro _ | (apply cG; first | refine cT ?_ | refine cF ?_ | refine cS (fun _ => ?_) fun _ => ?_) | (apply gW; refine sW ?_) | (apply gI; refine sI ?_) | (apply gE; refine sE ?_) | (apply gP; refine sP ?_) | (apply gC; refine sC ?_) | (apply gD; refine sD ?_) | fail)
    refine E_way (DT_leaf ?_)
    repeat' (first | refine go ?_ | intro _ | (apply cG; first | refine cT ?_ | refine cF ?_ | refine cS (fun _ => ?_) fun _ => ?_) | (apply gW; refine sW ?_) | (apply gI; refine sI ?_) | (apply gE; refine sE ?_) | (apply gP; refine sP ?_) | (apply gC; refine sC ?_) | (apply gD; refine sD ?_) | fail)
    refine D_op rfl ?_; refine X_d (dy_call ArgsI.pf (by first | exact rfl | trivial | (intro a b; rfl)) (CT.pull (i := 2) (by rfl) (Len_ct hB'.t))) ?_; rintro _ _ ⟨_, ⟨rfl, rfl⟩, rfl⟩; refine ⟨(by first | exact .inl rfl | exact .inr Sb), D_n ?_⟩
    repeat' (first | refine go ?_ | intro _ | (apply cG; first | refine cT ?_ | refine cF ?_ | refine cS (fun _ => ?_) fun _ => ?_) | (apply gW; refine sW ?_) | (apply gI; refine sI ?_) | (apply gE; refine sE ?_) | (apply gP; refine sP ?_) | (apply gC; refine sC ?_) | (apply gD; refine sD ?_) | fail)
    repeat' (first | refine go ?_ | intro _ | (apply cG; first | refine cT ?_ | refine cF ?_ | refine cS (fun _ => ?_) fun _ => ?_) | (apply gW; refine sW ?_) | (apply gI; refine sI ?_) | (apply gE; refine sE ?_) | (apply gP; refine sP ?_) | (apply gC; refine sC ?_) | (apply gD; refine sD ?_) | fail)
    refine E_round (i + 1, T', R') ⟨hio, hB', rfl, rfl, h3.trans hk, h4.trans hlk2, by dsimp only; rw [h5]; exact hf.step hox, by dsimp only; rw [h5]; have := step_len (l := R.l) (o := o); omega⟩ (by dsimp only; omega) ⟨rfl, trivial⟩ ?_
    exact Sub.trans (B := cel R'.p [.slice R'.A R'.l.length R'.c, .int .i64 R'.lk] 36 :: rd eTh (.slice R'.A R'.l.length R'.c) R'.l :: trA T' :: own 58 eOP (.slice A1 os.length c1) os :: L) Sb (Sub.trans rtA_close Sb)
end
end Go.Proofs.Ytnjjifikogblpaa
namespace Go.Proofs.Ytnjjifikogblpaa
open Go Go.RowKit
set_option linter.unusedVariables false
set_option linter.unusedSimpArgs false
set_option maxRecDepth 20000
set_option synthInstance.maxSize 100000
set_option synthInstance.maxHeartbeats 400000
theorem look_point {l : List Ent} {b : BX} (hx : b.x1 = b.x0) (hy : b.y1 = b.y0) : lookF l b ≤ 33 := by
  have ex : X1 b = X0 b := by unfold X1 X0; rw [hx]
  have ey : Y1 b = Y0 b := by unfold Y1 Y0; rw [hy]
  unfold lookF
  rw [List.countP_eq_length_filter]
  have h := List.Nodup.length_le_of_subset (l₁ := (blkL l).filter (covB b)) (l₂ := (List.range 33).map fun n => (n, X0 b / 2 ^ n, Y0 b / 2 ^ n)) (blkL_nodup.sublist List.filter_sublist) fun x hx => by
    obtain ⟨h1, h2⟩ := List.mem_filter.1 hx
    obtain ⟨e, he, h3, h4, h5⟩ := blkL_mem.1 h1
    obtain ⟨g1, g2, g3, g4⟩ := of_decide_eq_true h2
    rw [ex] at g2
    rw [ey] at g4
    obtain ⟨n, i, j⟩ := x
    dsimp only at g1 g2 g3 g4 h4
    refine List.mem_map.2 ⟨n, List.mem_range.2 (by omega), ?_⟩
    rw [Nat.le_antisymm g1 g2, Nat.le_antisymm g3 g4]
  rw [List.length_map, List.length_range] at h
  exact h
theorem look_pos {l : List Ent} {b : BX} (hb : b.good) (hg : ∀ e ∈ l, e.2.b.good) : lookF l b = 0 ↔ l.length = 0 := by
  constructor
  · intro h
    cases l with
    | nil => rfl
    | cons e l =>
      exfalso
      have hge := hg e (.head _)
      obtain ⟨_, _, _, _, h1, h2, h3, h4⟩ := hge.nums
      have hm : (32, blkB e.2.b 32) ∈ blkL (e :: l) := blkL_mem.2 ⟨e, .head _, lv_le _, Nat.le_refl _, rfl⟩
      have hc := covB b (32, blkB e.2.b 32)
      unfold lookF at h
      rw [List.countP_eq_zero] at h
      refine h _ hm ?_
      obtain ⟨_, _, _, _, g1, g2, g3, g4⟩ := hb.nums
      refine decide_eq_true ?_
      show X0 b / 2 ^ 32 ≤ X0 e.2.b / 2 ^ 32 ∧ X0 e.2.b / 2 ^ 32 ≤ X1 b / 2 ^ 32 ∧ Y0 b / 2 ^ 32 ≤ Y0 e.2.b / 2 ^ 32 ∧ Y0 e.2.b / 2 ^ 32 ≤ Y1 b / 2 ^ 32
      rw [Nat.div_eq_of_lt (by omega), Nat.div_eq_of_lt (by omega), Nat.div_eq_of_lt (by omega), Nat.div_eq_of_lt (by omega), Nat.div_eq_of_lt (by omega), Nat.div_eq_of_lt (by omega)]
      exact ⟨Nat.le_refl _, Nat.le_refl _, Nat.le_refl _, Nat.le_refl _⟩
  · intro h
    rw [List.length_eq_zero_iff.1 h]
    rfl
section
variable {P : Program} {W0 : World} {L : List HP}
theorem Find2_ct {T : TR} {l : List Ent} {b : BX} {d : Int} (h : TROk T l) (hl : WFL l) : CT Try.prog 14 #[.pointer (some ⟨T.p, 0, none⟩), bxV b, .int .i64 d] W0 (trA T :: L) fun r L' => ∃ A c T', T'.p = T.p ∧ TROk T' l ∧ (T'.lk = if fokB b d = true then (lookF l b : Int) else T.lk) ∧ r = .tuple #[.slice A (findL l b d).length c, .int .i64 (findE b d)] ∧ L' = own 3 eI (.slice A (findL l b d).length c) (findL l b d) :: trA T' :: L :=
  (Find_ct h hl).mono fun r L' ⟨A, c, lk, h1, h2, h3⟩ => ⟨A, c, { T with lk := lk }, rfl, ⟨h.mm, h.rt⟩, h1, h2, h3⟩
theorem rFind2_ct {R : RM} {b : BX} {d : Int} (hl : WFL R.l) : CT Try.prog 15 #[.pointer (some ⟨R.p, 0, none⟩), bxV b, .int .i64 d] W0 (rtA R :: L) fun r L' => ∃ A c R', R'.p = R.p ∧ R'.l = R.l ∧ (R'.lk = if fokB b d = true then (lookF R.l b : Int) else R.lk) ∧ r = .tuple #[.slice A (findL R.l b d).length c, .int .i64 (findE b d)] ∧ L' = own 3 eI (.slice A (findL R.l b d).length c) (findL R.l b d) :: rtA R' :: L :=
  (rFind_ct hl).mono fun r L' ⟨A, c, lk, h1, h2, h3⟩ => ⟨A, c, { R with lk := lk }, rfl, rfl, h1, h2, h3⟩
set_option maxHeartbeats 2000000 in
theorem IndexFew_ct {v : Value} {l : List Int} {n m : Int} (hv : rd eI v l ∈ L) (hl : l.length ≤ 9223372036854775807) (hr : ∀ n ∈ l, I64 n) (hn : I64 n) (hm : I64 m) :
    CT Try.prog 8 #[v, .int .i64 n, .int .i64 m] W0 L fun r L' => r = .bool true ∧ L' = L := by
  refine CT_fact (fun w s => ((Src.sl (.inl hv) s).form)) ?_
  rintro ⟨A0, c0, rfl, hc0⟩
  refine CT_enter Try.func8 rfl ?_; (simp only [Try.ntmps8, List.size_toArray, List.length_cons, List.length_nil, Nat.reduceAdd, Nat.reduceSub, Array.replicate_succ, Array.replicate_zero, List.push_toArray, List.append_toArray, List.nil_append, List.cons_append])
  repeat' (first | refine go ?_ | intro _ | (apply cG; first | refine cT ?_ | refine cF ?_ | refine cS (fun _ => ?_) fun _ => ?_) | (apply gW; refine sW ?_) | (apply gI; refine sI ?_) | (apply gE; refine sE ?_) | (apply gP; refine sP ?_) | (apply gC; refine sC ?_) | (apply gD; refine sD ?_) | fail)
  refine O_d (dy_call ArgsI.pf (by first | exact rfl | trivial | (intro a b; rfl)) (filled_ct (l := l) (most := 20) hv hr hl (by decide))) ?_; rintro _ _ ⟨_, ⟨T, R, hB, hk, hlk, hf, hlen, rfl, rfl⟩, rfl⟩; refine O_n ?_
  have hgd := fun e he => (hB.w.g e he).1
  repeat' (first | refine go ?_ | intro _ | (apply cG; first | refine cT ?_ | refine cF ?_ | refine cS (fun _ => ?_) fun _ => ?_) | (apply gW; refine sW ?_) | (apply gI; refine sI ?_) | (apply gE; refine sE ?_) | (apply gP; refine sP ?_) | (apply gC; refine sC ?_) | (apply gD; refine sD ?_) | fail)
  refine O_d (dy_call ArgsI.pf (by first | exact rfl | trivial | (intro a b; rfl)) (rBox_ct hn hm)) ?_; rintro _ _ ⟨_, ⟨b, hb, rfl, rfl⟩, rfl⟩; refine O_n ?_
  repeat' (first | refine go ?_ | intro _ | (apply cG; first | refine cT ?_ | refine cF ?_ | refine cS (fun _ => ?_) fun _ => ?_) | (apply gW; refine sW ?_) | (apply gI; refine sI ?_) | (apply gE; refine sE ?_) | (apply gP; refine sP ?_) | (apply gC; refine sC ?_) | (apply gD; refine sD ?_) | fail)
  rename_i pb
  have hfk : fokB b 0 = true := by unfold fokB; rw [decide_eq_true hb]; rfl
  have hlook := look_le R.l b
  refine O_d (dy_call ArgsI.pf (by first | exact rfl | trivial | (intro a b; rfl)) (CT.pull (i := 1) (by rfl) (Find2_ct (b := b) (d := 0) hB.t hB.w))) ?_; rintro _ _ ⟨_, ⟨A1, c1, T1, hp1, hT1, hlk1, rfl, rfl⟩, rfl⟩; refine O_n ?_
  rw [if_pos hfk] at hlk1
  rw [show findE b 0 = 0 from if_pos hfk]
  obtain ⟨o1, ho1⟩ : ∃ o, findL R.l b 0 = o := ⟨_, rfl⟩
  rw [ho1]
  obtain ⟨n1, hn1⟩ : ∃ n, lookF R.l b = n := ⟨_, rfl⟩
  rw [hn1] at hlook hlk1
  rw [← hp1]
  repeat' (first | refine go ?_ | intro _ | (apply cG; first | refine cT ?_ | refine cF ?_ | refine cS (fun _ => ?_) fun _ => ?_) | (apply gW; refine sW ?_) | (apply gI; refine sI ?_) | (apply gE; refine sE ?_) | (apply gP; refine sP ?_) | (apply gC; refine sC ?_) | (apply gD; refine sD ?_) | fail)
  refine C_sub (S := cel R.p [.slice R.A R.l.length R.c, .int .i64 R.lk] 36 :: rd eTh (.slice R.A R.l.length R.c) R.l :: trA T1 :: cel pb [.int .i64 b.x0, .int .i64 b.y0, .int .i64 b.x1, .int .i64 b.y1] 31 :: L) (Sub.trans (B := rtA R :: trA T1 :: cel pb [.int .i64 b.x0, .int .i64 b.y0, .int .i64 b.x1, .int .i64 b.y1] 31 :: L) Sb rtA_open) ?_
  refine C_draw (n := 99) [cel R.p [.slice R.A R.l.length R.c, .int .i64 R.lk] 36] [(0, 1), (1, 1), (2, 1), (3, 1), (5, 1), (6, 1), (7, 1), (8, 1), (9, 1), (10, 1), (4, 0), (11, 1), (12, 1), (13, 1), (14, 1), (15, 0), (16, 1), (17, 1)] (by kernel_rfl) (by kernel_rfl) Sb ?_
  repeat' (first | refine go ?_ | intro _ | (apply cG; first | refine cT ?_ | refine cF ?_ | refine cS (fun _ => ?_) fun _ => ?_) | (apply gW; refine sW ?_) | (apply gI; refine sI ?_) | (apply gE; refine sE ?_) | (apply gP; refine sP ?_) | (apply gC; refine sC ?_) | (apply gD; refine sD ?_) | fail)
  refine D_op rfl ?_; refine X_d (dy_call ArgsI.pf (by first | exact rfl | trivial | (intro a b; rfl)) (CT.pull (i := 2) (by rfl) (Looks_ct (T := T1)))) ?_; rintro _ _ ⟨_, ⟨rfl, rfl⟩, rfl⟩; refine ⟨(by first | exact .inl rfl | exact .inr Sb), D_n ?_⟩
  rw [hlk1]
  repeat' (first | refine go ?_ | intro _ | (apply cG; first | refine cT ?_ | refine cF ?_ | refine cS (fun _ => ?_) fun _ => ?_) | (apply gW; refine sW ?_) | (apply gI; refine sI ?_) | (apply gE; refine sE ?_) | (apply gP; refine sP ?_) | (apply gC; refine sC ?_) | (apply gD; refine sD ?_) | fail)
  refine D_op rfl ?_; refine X_d (dy_call ArgsI.pf (by first | exact rfl | trivial | (intro a b; rfl)) (Looks_ct (T := T1))) ?_; rintro _ _ ⟨_, ⟨rfl, hLL⟩, rfl⟩; replace hLL := hLL.symm; subst hLL; refine ⟨(by first | exact .inl rfl | exact .inr Sb), D_n ?_⟩
  rw [hlk1]
  repeat' (first | refine go ?_ | intro _ | (apply cG; first | refine cT ?_ | refine cF ?_ | refine cS (fun _ => ?_) fun _ => ?_) | (apply gW; refine sW ?_) | (apply gI; refine sI ?_) | (apply gE; refine sE ?_) | (apply gP; refine sP ?_) | (apply gC; refine sC ?_) | (apply gD; refine sD ?_) | fail)
  repeat' (first | refine go ?_ | intro _ | (apply cG; first | refine cT ?_ | refine cF ?_ | refine cS (fun _ => ?_) fun _ => ?_) | (apply gW; refine sW ?_) | (apply gI; refine sI ?_) | (apply gE; refine sE ?_) | (apply gP; refine sP ?_) | (apply gC; refine sC ?_) | (apply gD; refine sD ?_) | fail)
  have hfk2 : fokB ⟨b.x0, b.y0, b.x0, b.y0⟩ 0 = true := by
    unfold fokB
    rw [decide_eq_true (show BX.good ⟨b.x0, b.y0, b.x0, b.y0⟩ from ⟨hb.1, hb.2.1, hb.1, hb.2.1, Int.le_refl _, Int.le_refl _⟩)]
    rfl
  have hlook2 := look_point (l := R.l) (b := ⟨b.x0, b.y0, b.x0, b.y0⟩) rfl rfl
  have hpos := look_pos (l := R.l) (b := ⟨b.x0, b.y0, b.x0, b.y0⟩) ⟨hb.1, hb.2.1, hb.1, hb.2.1, Int.le_refl _, Int.le_refl _⟩ hgd
  refine O_d (dy_call ArgsI.pf (by first | exact rfl | trivial | (intro a b; rfl)) (Find2_ct (T := T1) (b := ⟨b.x0, b.y0, b.x0, b.y0⟩) (d := 0) hT1 hB.w)) ?_; rintro _ _ ⟨_, ⟨A2, c2, T2, hp2, hT2, hlk2, rfl, rfl⟩, rfl⟩; refine O_n ?_
  rw [if_pos hfk2] at hlk2
  rw [show findE ⟨b.x0, b.y0, b.x0, b.y0⟩ 0 = 0 from if_pos hfk2]
  obtain ⟨o2, ho2⟩ : ∃ o, findL R.l ⟨b.x0, b.y0, b.x0, b.y0⟩ 0 = o := ⟨_, rfl⟩
  rw [ho2]
  obtain ⟨n2, hn2⟩ : ∃ n, lookF R.l ⟨b.x0, b.y0, b.x0, b.y0⟩ = n := ⟨_, rfl⟩
  rw [hn2] at hlook2 hlk2 hpos
  rw [← hp2]
  repeat' (first | refine go ?_ | intro _ | (apply cG; first | refine cT ?_ | refine cF ?_ | refine cS (fun _ => ?_) fun _ => ?_) | (apply gW; refine sW ?_) | (apply gI; refine sI ?_) | (apply gE; refine sE ?_) | (apply gP; refine sP ?_) | (apply gC; refine sC ?_) | (apply gD; refine sD ?_) | fail)
  refine C_draw (n := 99) [cel R.p [.slice R.A R.l.length R.c, .int .i64 R.lk] 36] [(0, 1), (1, 1), (2, 1), (3, 1), (4, 0), (5, 1), (6, 1), (7, 1), (8, 1), (9, 1), (10, 1), (11, 1), (12, 1), (13, 1), (14, 1), (15, 0), (16, 1), (17, 1), (18, 1), (19, 1), (20, 0), (21, 1), (22, 1)] (by kernel_rfl) (by kernel_rfl) Sb ?_
  repeat' (first | refine go ?_ | intro _ | (apply cG; first | refine cT ?_ | refine cF ?_ | refine cS (fun _ => ?_) fun _ => ?_) | (apply gW; refine sW ?_) | (apply gI; refine sI ?_) | (apply gE; refine sE ?_) | (apply gP; refine sP ?_) | (apply gC; refine sC ?_) | (apply gD; refine sD ?_) | fail)
  refine D_op rfl ?_; refine X_d (dy_call ArgsI.pf (by first | exact rfl | trivial | (intro a b; rfl)) (CT.pull (i := 1) (by rfl) (Looks_ct (T := T2)))) ?_; rintro _ _ ⟨_, ⟨rfl, rfl⟩, rfl⟩; refine ⟨(by first | exact .inl rfl | exact .inr Sb), D_n ?_⟩
  rw [hlk2]
  by_cases h0 : R.l.length = 0
  · have h1 := hpos.2 h0
    repeat' (first | refine go ?_ | intro _ | (apply cG; first | refine cT ?_ | refine cF ?_ | refine cS (fun _ => ?_) fun _ => ?_) | (apply gW; refine sW ?_) | (apply gI; refine sI ?_) | (apply gE; refine sE ?_) | (apply gP; refine sP ?_) | (apply gC; refine sC ?_) | (apply gD; refine sD ?_) | fail)
    refine D_op rfl ?_; refine X_d (dy_call ArgsI.pf (by first | exact rfl | trivial | (intro a b; rfl)) (Looks_ct (T := T2))) ?_; rintro _ _ ⟨_, ⟨rfl, hLL⟩, rfl⟩; replace hLL := hLL.symm; subst hLL; refine ⟨(by first | exact .inl rfl | exact .inr Sb), D_n ?_⟩
    rw [hlk2]
    repeat' (first | refine go ?_ | intro _ | (apply cG; first | refine cT ?_ | refine cF ?_ | refine cS (fun _ => ?_) fun _ => ?_) | (apply gW; refine sW ?_) | (apply gI; refine sI ?_) | (apply gE; refine sE ?_) | (apply gP; refine sP ?_) | (apply gC; refine sC ?_) | (apply gD; refine sD ?_) | fail)
    refine D_op rfl ?_; refine X_d (dy_call ArgsI.pf (by first | exact rfl | trivial | (intro a b; rfl)) (lives_ct)) ?_; rintro _ _ ⟨_, ⟨rfl, hLL⟩, rfl⟩; replace hLL := hLL.symm; subst hLL; refine ⟨(by first | exact .inl rfl | exact .inr Sb), D_n ?_⟩
    repeat' (first | refine go ?_ | intro _ | (apply cG; first | refine cT ?_ | refine cF ?_ | refine cS (fun _ => ?_) fun _ => ?_) | (apply gW; refine sW ?_) | (apply gI; refine sI ?_) | (apply gE; refine sE ?_) | (apply gP; refine sP ?_) | (apply gC; refine sC ?_) | (apply gD; refine sD ?_) | fail)
    repeat' (first | refine go ?_ | intro _ | (apply cG; first | refine cT ?_ | refine cF ?_ | refine cS (fun _ => ?_) fun _ => ?_) | (apply gW; refine sW ?_) | (apply gI; refine sI ?_) | (apply gE; refine sE ?_) | (apply gP; refine sP ?_) | (apply gC; refine sC ?_) | (apply gD; refine sD ?_) | fail)
    refine E_res1 (by rfl) (by rfl) ⟨rfl, rfl⟩ Sb
  · have h1 : ¬ n2 = 0 := fun h => h0 (hpos.1 h)
    repeat' (first | refine go ?_ | intro _ | (apply cG; first | refine cT ?_ | refine cF ?_ | refine cS (fun _ => ?_) fun _ => ?_) | (apply gW; refine sW ?_) | (apply gI; refine sI ?_) | (apply gE; refine sE ?_) | (apply gP; refine sP ?_) | (apply gC; refine sC ?_) | (apply gD; refine sD ?_) | fail)
    refine D_op rfl ?_; refine X_d (dy_call ArgsI.pf (by first | exact rfl | trivial | (intro a b; rfl)) (Looks_ct (T := T2))) ?_; rintro _ _ ⟨_, ⟨rfl, hLL⟩, rfl⟩; replace hLL := hLL.symm; subst hLL; refine ⟨(by first | exact .inl rfl | exact .inr Sb), D_n ?_⟩
    rw [hlk2]
    repeat' (first | refine go ?_ | intro _ | (apply cG; first | refine cT ?_ | refine cF ?_ | refine cS (fun _ => ?_) fun _ => ?_) | (apply gW; refine sW ?_) | (apply gI; refine sI ?_) | (apply gE; refine sE ?_) | (apply gP; refine sP ?_) | (apply gC; refine sC ?_) | (apply gD; refine sD ?_) | fail)
    refine D_op rfl ?_; refine X_d (dy_call ArgsI.pf (by first | exact rfl | trivial | (intro a b; rfl)) (lives_ct)) ?_; rintro _ _ ⟨_, ⟨rfl, hLL⟩, rfl⟩; replace hLL := hLL.symm; subst hLL; refine ⟨(by first | exact .inl rfl | exact .inr Sb), D_n ?_⟩
    repeat' (first | refine go ?_ | intro _ | (apply cG; first | refine cT ?_ | refine cF ?_ | refine cS (fun _ => ?_) fun _ => ?_) | (apply gW; refine sW ?_) | (apply gI; refine sI ?_) | (apply gE; refine sE ?_) | (apply gP; refine sP ?_) | (apply gC; refine sC ?_) | (apply gD; refine sD ?_) | fail)
    repeat' (first | refine go ?_ | intro _ | (apply cG; first | refine cT ?_ | refine cF ?_ | refine cS (fun _ => ?_) fun _ => ?_) | (apply gW; refine sW ?_) | (apply gI; refine sI ?_) | (apply gE; refine sE ?_) | (apply gP; refine sP ?_) | (apply gC; refine sC ?_) | (apply gD; refine sD ?_) | fail)
    refine E_res1 (by rfl) (by rfl) ⟨rfl, rfl⟩ Sb
end
theorem IndexFew_any {v : Value} {l : List Int} {n m : Int} {w : World} (s : St w w [rd eI v l]) (hl : l.length ≤ 9223372036854775807) (hr : ∀ n ∈ l, I64 n) (hn : I64 n) (hm : I64 m) :
    Calls Try.prog 8 #[v, .int .i64 n, .int .i64 m] w fun e w' => e = .returned (.bool true) ∧ Below w.heap.size w w' :=
  ((IndexFew_ct (W0 := w) (.head _) hl hr hn hm).run w s).mono fun e w' h => by
    obtain ⟨v, L', rfl, ⟨rfl, rfl⟩, s⟩ := h
    exact ⟨rfl, s.below⟩
end Go.Proofs.Ytnjjifikogblpaa
