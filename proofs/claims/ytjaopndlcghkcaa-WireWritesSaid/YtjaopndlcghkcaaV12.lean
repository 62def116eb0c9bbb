/-
  The wire laws' values, read: read; compared: Same.
-/
import Derived.Test.YtjaopndlcghkcaaV11
namespace Go.Proofs.Ytjaopndlcghkcaa
open Go Go.RowKit
set_option linter.unusedVariables false
set_option linter.unusedSimpArgs false
set_option synthInstance.maxSize 100000
set_option synthInstance.maxHeartbeats 400000
section
variable {W0 : World} {L : List HP}
set_option maxHeartbeats 1000000 in
theorem read_ct {p : Nat} {k : Int} {bs bs' : List UInt8} {e e' : Int} {x : Val} (hk1 : -9223372036854775808 ≤ k) (hk2 : k ≤ 9223372036854775807) (h : rV k (bs, e) = (x, (bs', e'))) (hl : bs.length ≤ 1000000000000) :
    CT Try.prog 23 #[.pointer (some ⟨p, 0, none⟩), .int .i64 k] W0 (rr p bs e :: L) fun r L' => ∃ A c A' c', r = .agg #[.int .i64 x.k, .int .u64 (x.u : Int), .int .i64 x.n, .slice A x.b.length c, .slice A' x.l.length c'] ∧ L' = rd eB (.slice A x.b.length c) x.b :: rd eI (.slice A' x.l.length c') x.l :: rr p bs' e' :: L := by
  refine CT_enter Try.func23 rfl ?_; (simp only [Try.ntmps23, List.size_toArray, List.length_cons, List.length_nil, Nat.reduceAdd, Nat.reduceSub, Array.replicate_succ, Array.replicate_zero, List.push_toArray, List.append_toArray, List.nil_append, List.cons_append])
  unfold rV at h
  by_cases e0 : k = 0
  · subst e0
    rw [if_pos rfl] at h
    simp only [Prod.mk.injEq] at h
    obtain ⟨rfl, h⟩ := h
    repeat' (first | refine go ?_ | intro _ | (apply cG; first | refine cT ?_ | refine cF ?_ | refine cS (fun _ => ?_) fun _ => ?_) | (apply gW; refine sW ?_) | (apply gI; refine sI ?_) | (apply gE; refine sE ?_) | (apply gP; refine sP ?_) | (apply gC; refine sC ?_) | (apply gD; refine sD ?_) | fail)
    refine O_d (dy_call ArgsI.pf (by first | exact rfl | trivial | (intro a b; rfl)) (CT.pull (i := 2) (by rfl) (Uint_ct (m := (rU (bs, e)).1) (bs' := bs') (e' := e') (by rw [← h]) (by omega)))) ?_; rintro _ _ ⟨_, ⟨rfl, rfl⟩, rfl⟩; refine O_n ?_
    repeat' (first | refine go ?_ | intro _ | (apply cG; first | refine cT ?_ | refine cF ?_ | refine cS (fun _ => ?_) fun _ => ?_) | (apply gW; refine sW ?_) | (apply gI; refine sI ?_) | (apply gE; refine sE ?_) | (apply gP; refine sP ?_) | (apply gC; refine sC ?_) | (apply gD; refine sD ?_) | fail)
    refine E_rdnil eI none 0 ?_
    refine E_rdnil eB none 0 ?_
    refine E_res1 (by rfl) (by rfl) ⟨_, _, _, _, rfl, rfl⟩ Sb
  rw [if_neg e0] at h
  by_cases e1 : k = 1
  · subst e1
    rw [if_pos rfl] at h
    simp only [Prod.mk.injEq] at h
    obtain ⟨rfl, h⟩ := h
    repeat' (first | refine go ?_ | intro _ | (apply cG; first | refine cT ?_ | refine cF ?_ | refine cS (fun _ => ?_) fun _ => ?_) | (apply gW; refine sW ?_) | (apply gI; refine sI ?_) | (apply gE; refine sE ?_) | (apply gP; refine sP ?_) | (apply gC; refine sC ?_) | (apply gD; refine sD ?_) | fail)
    refine O_d (dy_call ArgsI.pf (by first | exact rfl | trivial | (intro a b; rfl)) (CT.pull (i := 2) (by rfl) (Int_ct (x := (rI (bs, e)).1) (bs' := bs') (e' := e') (by rw [← h]) (by omega)))) ?_; rintro _ _ ⟨_, ⟨rfl, rfl⟩, rfl⟩; refine O_n ?_
    repeat' (first | refine go ?_ | intro _ | (apply cG; first | refine cT ?_ | refine cF ?_ | refine cS (fun _ => ?_) fun _ => ?_) | (apply gW; refine sW ?_) | (apply gI; refine sI ?_) | (apply gE; refine sE ?_) | (apply gP; refine sP ?_) | (apply gC; refine sC ?_) | (apply gD; refine sD ?_) | fail)
    refine E_rdnil eI none 0 ?_
    refine E_rdnil eB none 0 ?_
    refine E_res1 (by rfl) (by rfl) ⟨_, _, _, _, rfl, rfl⟩ Sb
  rw [if_neg e1] at h
  by_cases e2 : k = 2
  · subst e2
    rw [if_pos rfl] at h
    simp only [Prod.mk.injEq] at h
    obtain ⟨rfl, h⟩ := h
    repeat' (first | refine go ?_ | intro _ | (apply cG; first | refine cT ?_ | refine cF ?_ | refine cS (fun _ => ?_) fun _ => ?_) | (apply gW; refine sW ?_) | (apply gI; refine sI ?_) | (apply gE; refine sE ?_) | (apply gP; refine sP ?_) | (apply gC; refine sC ?_) | (apply gD; refine sD ?_) | fail)
    obtain ⟨b, hb⟩ : ∃ b, (rB (bs, e)).1 = b := ⟨_, rfl⟩
    refine O_d (dy_call ArgsI.pf (by first | exact rfl | trivial | (intro a b; rfl)) (CT.pull (i := 2) (by rfl) (Bool_ct (x := b) (bs' := bs') (e' := e') (by rw [← h, ← hb]) (by omega)))) ?_; rintro _ _ ⟨_, ⟨rfl, rfl⟩, rfl⟩; refine O_n ?_
    rw [hb]
    cases b
    · repeat' (first | refine go ?_ | intro _ | (apply cG; first | refine cT ?_ | refine cF ?_ | refine cS (fun _ => ?_) fun _ => ?_) | (apply gW; refine sW ?_) | (apply gI; refine sI ?_) | (apply gE; refine sE ?_) | (apply gP; refine sP ?_) | (apply gC; refine sC ?_) | (apply gD; refine sD ?_) | fail)
      refine E_rdnil eI none 0 ?_
      refine E_rdnil eB none 0 ?_
      refine E_res1 (by rfl) (by rfl) ⟨_, _, _, _, rfl, rfl⟩ Sb
    · repeat' (first | refine go ?_ | intro _ | (apply cG; first | refine cT ?_ | refine cF ?_ | refine cS (fun _ => ?_) fun _ => ?_) | (apply gW; refine sW ?_) | (apply gI; refine sI ?_) | (apply gE; refine sE ?_) | (apply gP; refine sP ?_) | (apply gC; refine sC ?_) | (apply gD; refine sD ?_) | fail)
      refine E_rdnil eI none 0 ?_
      refine E_rdnil eB none 0 ?_
      refine E_res1 (by rfl) (by rfl) ⟨_, _, _, _, rfl, rfl⟩ Sb
  rw [if_neg e2] at h
  by_cases e3 : k = 3
  · subst e3
    rw [if_pos (.inl rfl)] at h
    simp only [Prod.mk.injEq] at h
    obtain ⟨rfl, h⟩ := h
    repeat' (first | refine go ?_ | intro _ | (apply cG; first | refine cT ?_ | refine cF ?_ | refine cS (fun _ => ?_) fun _ => ?_) | (apply gW; refine sW ?_) | (apply gI; refine sI ?_) | (apply gE; refine sE ?_) | (apply gP; refine sP ?_) | (apply gC; refine sC ?_) | (apply gD; refine sD ?_) | fail)
    refine O_d (dy_call ArgsI.pf (by first | exact rfl | trivial | (intro a b; rfl)) (CT.pull (i := 2) (by rfl) (Text_ct (l := (rList rNext (bs, e)).1) (bs' := bs') (e' := e') (by rw [← h]) (by omega)))) ?_; rintro _ _ ⟨_, ⟨rfl, rfl⟩, rfl⟩; refine O_n ?_
    repeat' (first | refine go ?_ | intro _ | (apply cG; first | refine cT ?_ | refine cF ?_ | refine cS (fun _ => ?_) fun _ => ?_) | (apply gW; refine sW ?_) | (apply gI; refine sI ?_) | (apply gE; refine sE ?_) | (apply gP; refine sP ?_) | (apply gC; refine sC ?_) | (apply gD; refine sD ?_) | fail)
    refine E_rdnil eI none 0 ?_
    refine E_sub (fun m h s => s.swap) ?_
    refine E_res1 (by rfl) (by rfl) ⟨_, _, _, _, rfl, rfl⟩ Sb
  by_cases e4 : k = 4
  · subst e4
    rw [if_pos (.inr rfl)] at h
    simp only [Prod.mk.injEq] at h
    obtain ⟨rfl, h⟩ := h
    repeat' (first | refine go ?_ | intro _ | (apply cG; first | refine cT ?_ | refine cF ?_ | refine cS (fun _ => ?_) fun _ => ?_) | (apply gW; refine sW ?_) | (apply gI; refine sI ?_) | (apply gE; refine sE ?_) | (apply gP; refine sP ?_) | (apply gC; refine sC ?_) | (apply gD; refine sD ?_) | fail)
    refine O_d (dy_call ArgsI.pf (by first | exact rfl | trivial | (intro a b; rfl)) (CT.pull (i := 2) (by rfl) (Raw_ct (l := (rList rNext (bs, e)).1) (bs' := bs') (e' := e') (by rw [← h]) (by omega)))) ?_; rintro _ _ ⟨_, ⟨A, c, rfl, rfl⟩, rfl⟩; refine O_n ?_
    repeat' (first | refine go ?_ | intro _ | (apply cG; first | refine cT ?_ | refine cF ?_ | refine cS (fun _ => ?_) fun _ => ?_) | (apply gW; refine sW ?_) | (apply gI; refine sI ?_) | (apply gE; refine sE ?_) | (apply gP; refine sP ?_) | (apply gC; refine sC ?_) | (apply gD; refine sD ?_) | fail)
    refine E_frz 0 ?_
    refine E_rdnil eI none 0 ?_
    refine E_sub (fun m h s => s.swap) ?_
    refine E_res1 (by rfl) (by rfl) ⟨_, _, _, _, rfl, rfl⟩ Sb
  rw [if_neg (by omega)] at h
  simp only [Prod.mk.injEq] at h
  obtain ⟨rfl, h⟩ := h
  repeat' (first | refine go ?_ | intro _ | (apply cG; first | refine cT ?_ | refine cF ?_ | refine cS (fun _ => ?_) fun _ => ?_) | (apply gW; refine sW ?_) | (apply gI; refine sI ?_) | (apply gE; refine sE ?_) | (apply gP; refine sP ?_) | (apply gC; refine sC ?_) | (apply gD; refine sD ?_) | fail)
  refine O_d (dy_call ArgsI.pf (by first | exact rfl | trivial | (intro a b; rfl)) (CT.pull (i := 2) (by rfl) (rInts_ct (l := (rList rI (bs, e)).1) (bs' := bs') (e' := e') (by rw [← h]) (by omega)))) ?_; rintro _ _ ⟨_, ⟨A, c, rfl, rfl⟩, rfl⟩; refine O_n ?_
  repeat' (first | refine go ?_ | intro _ | (apply cG; first | refine cT ?_ | refine cF ?_ | refine cS (fun _ => ?_) fun _ => ?_) | (apply gW; refine sW ?_) | (apply gI; refine sI ?_) | (apply gE; refine sE ?_) | (apply gP; refine sP ?_) | (apply gC; refine sC ?_) | (apply gD; refine sD ?_) | fail)
  refine E_frz 0 ?_
  refine E_rdnil eB none 0 ?_
  refine E_res1 (by rfl) (by rfl) ⟨_, _, _, _, rfl, rfl⟩ Sb
/-- two values, compared -/
theorem Same_ct {x y : Val} {xb xl yb yl : Value} (hx1 : Src L eB xb x.b) (hx2 : Src L eI xl x.l) (hy1 : Src L eB yb y.b) (hy2 : Src L eI yl y.l) (hx : x.b.length ≤ 1000000000000 ∧ x.l.length ≤ 1000000000000) (hy : y.b.length ≤ 1000000000000 ∧ y.l.length ≤ 1000000000000) {q : Bool} (hq : decide (x = y) = q) :
    CT Try.prog 22 #[.agg #[.int .i64 x.k, .int .u64 (x.u : Int), .int .i64 x.n, xb, xl], .agg #[.int .i64 y.k, .int .u64 (y.u : Int), .int .i64 y.n, yb, yl]] W0 L fun r L' => r = .bool q ∧ L' = L := by
  obtain ⟨k, u, n, b, l⟩ := x
  obtain ⟨k', u', n', b', l'⟩ := y
  dsimp only at *
  refine CT_enter Try.func22 rfl ?_; (simp only [Try.ntmps22, List.size_toArray, List.length_cons, List.length_nil, Nat.reduceAdd, Nat.reduceSub, Array.replicate_succ, Array.replicate_zero, List.push_toArray, List.append_toArray, List.nil_append, List.cons_append])
  repeat' (first | refine go ?_ | intro _ | (apply cG; first | refine cT ?_ | refine cF ?_ | refine cS (fun _ => ?_) fun _ => ?_) | (apply gW; refine sW ?_) | (apply gI; refine sI ?_) | (apply gE; refine sE ?_) | (apply gP; refine sP ?_) | (apply gC; refine sC ?_) | (apply gD; refine sD ?_) | fail)
  refine O_d (dy_call ArgsI.pf (by first | exact rfl | trivial | (intro a b; rfl)) (SameBytes_ct (hx1.c.c) (hy1.c.c) (by omega) (by omega) rfl)) ?_; rintro _ _ ⟨_, ⟨rfl, hLL⟩, rfl⟩; replace hLL := hLL.symm; subst hLL; refine O_n ?_
  repeat' (first | refine go ?_ | intro _ | (apply cG; first | refine cT ?_ | refine cF ?_ | refine cS (fun _ => ?_) fun _ => ?_) | (apply gW; refine sW ?_) | (apply gI; refine sI ?_) | (apply gE; refine sE ?_) | (apply gP; refine sP ?_) | (apply gC; refine sC ?_) | (apply gD; refine sD ?_) | fail)
  refine O_d (dy_call ArgsI.pf (by first | exact rfl | trivial | (intro a b; rfl)) (SameInts_ct (hx2.c.c) (hy2.c.c) (by omega) (by omega) rfl)) ?_; rintro _ _ ⟨_, ⟨rfl, hLL⟩, rfl⟩; replace hLL := hLL.symm; subst hLL; refine O_n ?_
  by_cases hk : k = k'
  · subst hk
    by_cases hu : u = u'
    · subst hu
      by_cases hn : n = n'
      · subst hn
        by_cases hb : b = b'
        · subst hb
          by_cases hl : l = l'
          · subst hl
            rw [decide_eq_true rfl, decide_eq_true rfl]
            obtain rfl : q = true := by rw [← hq]; exact decide_eq_true rfl
            repeat' (first | refine go ?_ | intro _ | (apply cG; first | refine cT ?_ | refine cF ?_ | refine cS (fun _ => ?_) fun _ => ?_) | (apply gW; refine sW ?_) | (apply gI; refine sI ?_) | (apply gE; refine sE ?_) | (apply gP; refine sP ?_) | (apply gC; refine sC ?_) | (apply gD; refine sD ?_) | fail)
            refine E_res1 (by rfl) (by rfl) ⟨rfl, rfl⟩ Sb
          · rw [decide_eq_true rfl, decide_eq_false hl]
            obtain rfl : q = false := by rw [← hq]; simp [hl]
            repeat' (first | refine go ?_ | intro _ | (apply cG; first | refine cT ?_ | refine cF ?_ | refine cS (fun _ => ?_) fun _ => ?_) | (apply gW; refine sW ?_) | (apply gI; refine sI ?_) | (apply gE; refine sE ?_) | (apply gP; refine sP ?_) | (apply gC; refine sC ?_) | (apply gD; refine sD ?_) | fail)
            refine E_res1 (by rfl) (by rfl) ⟨rfl, rfl⟩ Sb
        · rw [decide_eq_false hb]
          obtain rfl : q = false := by rw [← hq]; simp [hb]
          repeat' (first | refine go ?_ | intro _ | (apply cG; first | refine cT ?_ | refine cF ?_ | refine cS (fun _ => ?_) fun _ => ?_) | (apply gW; refine sW ?_) | (apply gI; refine sI ?_) | (apply gE; refine sE ?_) | (apply gP; refine sP ?_) | (apply gC; refine sC ?_) | (apply gD; refine sD ?_) | fail)
          refine E_res1 (by rfl) (by rfl) ⟨rfl, rfl⟩ Sb
      · obtain rfl : q = false := by rw [← hq]; simp [hn]
        repeat' (first | refine go ?_ | intro _ | (apply cG; first | refine cT ?_ | refine cF ?_ | refine cS (fun _ => ?_) fun _ => ?_) | (apply gW; refine sW ?_) | (apply gI; refine sI ?_) | (apply gE; refine sE ?_) | (apply gP; refine sP ?_) | (apply gC; refine sC ?_) | (apply gD; refine sD ?_) | fail)
        refine E_res1 (by rfl) (by rfl) ⟨rfl, rfl⟩ Sb
    · obtain rfl : q = false := by rw [← hq]; simp [hu]
      repeat' (first | refine go ?_ | intro _ | (apply cG; first | refine cT ?_ | refine cF ?_ | refine cS (fun _ => ?_) fun _ => ?_) | (apply gW; refine sW ?_) | (apply gI; refine sI ?_) | (apply gE; refine sE ?_) | (apply gP; refine sP ?_) | (apply gC; refine sC ?_) | (apply gD; refine sD ?_) | fail)
      refine E_res1 (by rfl) (by rfl) ⟨rfl, rfl⟩ Sb
  · obtain rfl : q = false := by rw [← hq]; simp [hk]
    repeat' (first | refine go ?_ | intro _ | (apply cG; first | refine cT ?_ | refine cF ?_ | refine cS (fun _ => ?_) fun _ => ?_) | (apply gW; refine sW ?_) | (apply gI; refine sI ?_) | (apply gE; refine sE ?_) | (apply gP; refine sP ?_) | (apply gC; refine sC ?_) | (apply gD; refine sD ?_) | fail)
    refine E_res1 (by rfl) (by rfl) ⟨rfl, rfl⟩ Sb
end
end Go.Proofs.Ytjaopndlcghkcaa
