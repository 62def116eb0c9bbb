/-
  The index's search.
-/
import Derived.Test.YtnjjifikogblpaaMQ
namespace Go.Proofs.Ytnjjifikogblpaa
open Go Go.RowKit
set_option linter.unusedVariables false
set_option linter.unusedSimpArgs false
set_option maxRecDepth 20000
set_option synthInstance.maxSize 100000
set_option synthInstance.maxHeartbeats 400000
def hitsF (b : BX) (d : Int) (E : List Ent) : List Int := (E.filter (hitF b d)).map Prod.fst
theorem hits_perm {b : BX} {d : Int} {E E' : List Ent} (h : E.Perm E') : (hitsF b d E).Perm (hitsF b d E') := (h.filter _).map _
theorem hits_app {b : BX} {d : Int} {E E' : List Ent} : hitsF b d (E ++ E') = hitsF b d E ++ hitsF b d E' := by unfold hitsF; rw [List.filter_append, List.map_append]
/-- what lies in a block is there, or in one of its quarters -/
theorem split_perm {n : Nat} {E : List Ent} (h : ∀ e ∈ E, lvB e.2.b ≤ n) : (E.filter (hereQ n) ++ (E.filter (inQ n 0) ++ (E.filter (inQ n 1) ++ (E.filter (inQ n 2) ++ E.filter (inQ n 3))))).Perm E := by
  induction E with
  | nil => exact List.Perm.nil
  | cons e E ih =>
    have ih' := ih fun a ha => h a (.tail _ ha)
    have hl := h e (.head _)
    have hq := qB_lt e.2.b n
    by_cases hn : lvB e.2.b = n
    · have h0 : hereQ n e = true := decide_eq_true hn
      have h1 : ∀ q, ¬ inQ n q e = true := fun q hx => by have := (of_decide_eq_true hx).1; omega
      rw [List.filter_cons_of_pos h0, List.filter_cons_of_neg (h1 0), List.filter_cons_of_neg (h1 1), List.filter_cons_of_neg (h1 2), List.filter_cons_of_neg (h1 3)]
      exact ih'.cons e
    · have h0 : ¬ hereQ n e = true := fun hx => hn (of_decide_eq_true hx)
      have hy : inQ n (qB e.2.b n) e = true := decide_eq_true ⟨by omega, rfl⟩
      have hno : ∀ q, q ≠ qB e.2.b n → ¬ inQ n q e = true := fun q hne hx => hne (of_decide_eq_true hx).2.symm
      rw [List.filter_cons_of_neg h0]
      rcases (show qB e.2.b n = 0 ∨ qB e.2.b n = 1 ∨ qB e.2.b n = 2 ∨ qB e.2.b n = 3 by omega) with hk | hk | hk | hk <;> rw [hk] at hy hno
      · rw [List.filter_cons_of_pos hy, List.filter_cons_of_neg (hno 1 (by decide)), List.filter_cons_of_neg (hno 2 (by decide)), List.filter_cons_of_neg (hno 3 (by decide))]
        exact List.perm_middle.trans (ih'.cons e)
      · rw [List.filter_cons_of_pos hy, List.filter_cons_of_neg (hno 0 (by decide)), List.filter_cons_of_neg (hno 2 (by decide)), List.filter_cons_of_neg (hno 3 (by decide))]
        exact ((List.perm_middle.append_left _).trans List.perm_middle).trans (ih'.cons e)
      · rw [List.filter_cons_of_pos hy, List.filter_cons_of_neg (hno 0 (by decide)), List.filter_cons_of_neg (hno 1 (by decide)), List.filter_cons_of_neg (hno 3 (by decide))]
        exact ((((List.perm_middle.append_left _).trans List.perm_middle).append_left _).trans List.perm_middle).trans (ih'.cons e)
      · rw [List.filter_cons_of_pos hy, List.filter_cons_of_neg (hno 0 (by decide)), List.filter_cons_of_neg (hno 1 (by decide)), List.filter_cons_of_neg (hno 2 (by decide))]
        exact ((((((List.perm_middle.append_left _).trans List.perm_middle).append_left _).trans List.perm_middle).append_left _).trans List.perm_middle).trans (ih'.cons e)
theorem meets_eq {a c : BX} (ha : a.good) (hc : c.good) : decide (max a.x0 c.x0 ≤ min a.x1 c.x1 ∧ max a.y0 c.y0 ≤ min a.y1 c.y1) = meetF a c := by
  obtain ⟨_, _, _, _, h1, h2⟩ := ha
  obtain ⟨_, _, _, _, h3, h4⟩ := hc
  unfold meetF
  refine decide_eq_decide.2 ?_
  omega
theorem hits_none {n i j : Nat} {b : BX} {d : Int} {E : List Ent} (hb : b.good) (hu : Under n i j E) (hc : covB b (n, i, j) = false) : hitsF b d E = [] := by
  unfold hitsF
  rw [List.filter_eq_nil_iff.2 fun e he => ?_]
  · rfl
  obtain ⟨g, hl, hk⟩ := hu e he
  intro hh
  unfold hitF at hh
  rw [Bool.and_eq_true] at hh
  rw [cov_meet hb g hl hk hh.2] at hc
  cases hc
def sum4 (v0 v1 v2 v3 : Nat) : Nat → Nat
  | 0 => 0
  | 1 => v0
  | 2 => v0 + v1
  | 3 => v0 + v1 + v2
  | _ => v0 + v1 + v2 + v3
def cat4 (v0 v1 v2 v3 : List Int) : Nat → List Int
  | 0 => []
  | 1 => v0
  | 2 => v0 ++ v1
  | 3 => v0 ++ v1 ++ v2
  | _ => v0 ++ v1 ++ v2 ++ v3
section
variable {W0 : World} {L : List HP}
abbrev vfn (pb pt pd po pv : Nat) : Value := .func (.func 34) #[] #[.pointer (some ⟨pb, 0, none⟩), .pointer (some ⟨pt, 0, none⟩), .pointer (some ⟨pd, 0, none⟩), .pointer (some ⟨po, 0, none⟩), .pointer (some ⟨pv, 0, none⟩)]
/-- what a search in a tree does -/
def VisT (W0 : World) (b : BX) (d : Int) (pb pt pd po pv tp tm : Nat) (rv : Value) (t : QT) : Prop :=
  ∀ (L : List HP) (n i j : Nat) (z lk x y : Int) (E : List Ent) (o : List Int) (A : Option Addr) (c : Nat), x = (i : Int) → y = (j : Int) → QOk t n E → Under n i j E → n ≤ 32 → (t ≠ .nil → z = (n : Int)) → -10 ≤ z ∧ z ≤ 32 → 0 ≤ lk → lk + (visC b t n i j : Int) ≤ 4611686018427387904 → o.length + E.length ≤ 1000000 →
  CT Try.prog 34 #[t.val, .agg #[.int .i64 z, .int .i64 x, .int .i64 y], .pointer (some ⟨pb, 0, none⟩), .pointer (some ⟨pt, 0, none⟩), .pointer (some ⟨pd, 0, none⟩), .pointer (some ⟨po, 0, none⟩), .pointer (some ⟨pv, 0, none⟩)] W0
    (qta t :: cel po [.slice A o.length c] 22 :: own 3 eI (.slice A o.length c) o :: cel tp [rv, .map (some tm), .int .i64 (lk)] 68 :: cel pb [.int .i64 b.x0, .int .i64 b.y0, .int .i64 b.x1, .int .i64 b.y1] 31 :: cel pt [.pointer (some ⟨tp, 0, none⟩)] 23 :: cel pd [.int .i64 d] 3 :: cel pv [vfn pb pt pd po pv] 72 :: L)
    fun r L' => ∃ A' c' o', o'.Perm (o ++ hitsF b d E) ∧ r = .tuple #[] ∧ L' = qta t :: cel po [.slice A' o'.length c'] 22 :: own 3 eI (.slice A' o'.length c') o' :: cel tp [rv, .map (some tm), .int .i64 (lk + (visC b t n i j : Int))] 68 :: cel pb [.int .i64 b.x0, .int .i64 b.y0, .int .i64 b.x1, .int .i64 b.y1] 31 :: cel pt [.pointer (some ⟨tp, 0, none⟩)] 23 :: cel pd [.int .i64 d] 3 :: cel pv [vfn pb pt pd po pv] 72 :: L
set_option maxHeartbeats 4000000 in
theorem visit_ct {b : BX} {d : Int} {pb pt pd po pv tp tm : Nat} {rv : Value} (hb : b.good) : ∀ t : QT, VisT W0 b d pb pt pd po pv tp tm rv t := by
  intro t
  induction t with
  | nil =>
    rintro L n i j z lk _ _ E o A c rfl rfl ht hu hn hz hzr hlk hlk2 hol
    obtain rfl : E = [] := ht
    show CT _ _ #[.pointer none, _, _, _, _, _, _] _ _ _
    refine CT_enter Try.func34 rfl ?_; (simp only [Try.ntmps34, List.size_toArray, List.length_cons, List.length_nil, Nat.reduceAdd, Nat.reduceSub, Array.replicate_succ, Array.replicate_zero, List.push_toArray, List.append_toArray, List.nil_append, List.cons_append])
    repeat' (first | refine go ?_ | intro _ | (apply cG; first | refine cT ?_ | refine cF ?_ | refine cS (fun _ => ?_) fun _ => ?_) | (apply gW; refine sW ?_) | (apply gI; refine sI ?_) | (apply gE; refine sE ?_) | (apply gP; refine sP ?_) | (apply gC; refine sC ?_) | (apply gD; refine sD ?_) | fail)
    refine E_sub (S := qta .nil :: cel po [.slice A o.length c] 22 :: own 3 eI (.slice A o.length c) o :: cel tp [rv, .map (some tm), .int .i64 (lk + ((0 : Nat) : Int))] 68 :: cel pb [.int .i64 b.x0, .int .i64 b.y0, .int .i64 b.x1, .int .i64 b.y1] 31 :: cel pt [.pointer (some ⟨tp, 0, none⟩)] 23 :: cel pd [.int .i64 d] 3 :: cel pv [vfn pb pt pd po pv] 72 :: L) ?_ (E_end0 (.inr rfl) rfl rfl ⟨A, c, o, by rw [show hitsF b d [] = [] from rfl, List.append_nil], rfl, rfl⟩)
    rw [show lk + ((0 : Nat) : Int) = lk from Int.add_zero _]
    exact Sb
  | nd p m mm k0 k1 k2 k3 ih0 ih1 ih2 ih3 =>
    rintro L n i j z lk _ _ E o A c rfl rfl ht hu hn hz hzr hlk hlk2 hol
    obtain rfl := hz (by intro h; cases h)
    obtain ⟨e0, he0⟩ := List.exists_mem_of_ne_nil _ ht.1
    obtain ⟨hg0, hl0, hk0⟩ := hu e0 he0
    obtain ⟨_, _, _, _, hx0, hy0, hx1, hy1⟩ := hg0.nums
    have h32 : 2 ^ n ≤ 4294967296 := Nat.pow_le_pow_right (by decide) hn
    have hij : i * 2 ^ n ≤ 2147483648 ∧ j * 2 ^ n ≤ 2147483648 ∧ i ≤ 2147483648 ∧ j ≤ 2147483648 := by
      unfold blkB at hk0
      injection hk0 with h1 h2
      have := Nat.div_mul_le_self (X0 e0.2.b) (2 ^ n)
      have := Nat.div_mul_le_self (Y0 e0.2.b) (2 ^ n)
      have := Nat.div_le_self (X0 e0.2.b) (2 ^ n)
      have := Nat.div_le_self (Y0 e0.2.b) (2 ^ n)
      rw [h1] at *
      rw [h2] at *
      omega
    have hi1 : (i + 1) * 2 ^ n ≤ 8589934592 := by rw [Nat.succ_mul]; omega
    have hj1 : (j + 1) * 2 ^ n ≤ 8589934592 := by rw [Nat.succ_mul]; omega
    refine CT.sub ?_ qta_open
    show CT _ _ #[.pointer (some ⟨p, 0, none⟩), _, _, _, _, _, _] _ _ _
    refine CT_enter Try.func34 rfl ?_; (simp only [Try.ntmps34, List.size_toArray, List.length_cons, List.length_nil, Nat.reduceAdd, Nat.reduceSub, Array.replicate_succ, Array.replicate_zero, List.push_toArray, List.append_toArray, List.nil_append, List.cons_append])
    repeat' (first | refine go ?_ | intro _ | (apply cG; first | refine cT ?_ | refine cF ?_ | refine cS (fun _ => ?_) fun _ => ?_) | (apply gW; refine sW ?_) | (apply gI; refine sI ?_) | (apply gE; refine sE ?_) | (apply gP; refine sP ?_) | (apply gC; refine sC ?_) | (apply gD; refine sD ?_) | fail)
    rename_i pa
    refine O_d (dy_call ArgsI.pf (by first | exact rfl | trivial | (intro a b; rfl)) (covers_ct (n := n) (i := i) (j := j) hb hn hi1 hj1)) ?_; rintro _ _ ⟨_, ⟨rfl, hLL⟩, rfl⟩; replace hLL := hLL.symm; subst hLL; refine O_n ?_
    cases hcov : covB b (n, i, j) with
    | false =>
      have hv0 : visC b (.nd p m mm k0 k1 k2 k3) n i j = 0 := by unfold visC; rw [if_neg (by rw [hcov]; decide)]
      have hh0 := hits_none (d := d) hb hu hcov
      rw [hv0, hh0]
      repeat' (first | refine go ?_ | intro _ | (apply cG; first | refine cT ?_ | refine cF ?_ | refine cS (fun _ => ?_) fun _ => ?_) | (apply gW; refine sW ?_) | (apply gI; refine sI ?_) | (apply gE; refine sE ?_) | (apply gP; refine sP ?_) | (apply gC; refine sC ?_) | (apply gD; refine sD ?_) | fail)
      refine E_sub (S := qta (.nd p m mm k0 k1 k2 k3) :: cel po [.slice A o.length c] 22 :: own 3 eI (.slice A o.length c) o :: cel tp [rv, .map (some tm), .int .i64 (lk + ((0 : Nat) : Int))] 68 :: cel pb [.int .i64 b.x0, .int .i64 b.y0, .int .i64 b.x1, .int .i64 b.y1] 31 :: cel pt [.pointer (some ⟨tp, 0, none⟩)] 23 :: cel pd [.int .i64 d] 3 :: cel pv [vfn pb pt pd po pv] 72 :: L) ?_ (E_end0 (.inr rfl) rfl rfl ⟨A, c, o, by rw [List.append_nil], rfl, rfl⟩)
      rw [show lk + ((0 : Nat) : Int) = lk from Int.add_zero _]
      exact Sub.trans (B := ndC p m k0 k1 k2 k3 :: mapo mIT m mm :: qta k0 :: qta k1 :: qta k2 :: qta k3 :: cel po [.slice A o.length c] 22 :: own 3 eI (.slice A o.length c) o :: cel tp [rv, .map (some tm), .int .i64 (lk)] 68 :: cel pb [.int .i64 b.x0, .int .i64 b.y0, .int .i64 b.x1, .int .i64 b.y1] 31 :: cel pt [.pointer (some ⟨tp, 0, none⟩)] 23 :: cel pd [.int .i64 d] 3 :: cel pv [vfn pb pt pd po pv] 72 :: L) Sb qta_close
    | true =>
    repeat' (first | refine go ?_ | intro _ | (apply cG; first | refine cT ?_ | refine cF ?_ | refine cS (fun _ => ?_) fun _ => ?_) | (apply gW; refine sW ?_) | (apply gI; refine sI ?_) | (apply gE; refine sE ?_) | (apply gP; refine sP ?_) | (apply gC; refine sC ?_) | (apply gD; refine sD ?_) | fail)
    refine O_d (dy_iter (R := mIT) (i := 2) rfl Ev.pf) ?_; rintro _ _ ⟨r, rfl, hLL⟩; replace hLL := hLL.trans SAt.pf; subst hLL; refine O_n ?_
    repeat' (first | refine go ?_ | intro _ | (apply cG; first | refine cT ?_ | refine cF ?_ | refine cS (fun _ => ?_) fun _ => ?_) | (apply gW; refine sW ?_) | (apply gI; refine sI ?_) | (apply gE; refine sE ?_) | (apply gP; refine sP ?_) | (apply gC; refine sC ?_) | (apply gD; refine sD ?_) | fail)
    have hmml : mm.length ≤ E.length := by rw [ht.pre.mm.length_eq]; exact List.length_filter_le _ _
    have hmg : ∀ e ∈ mm, e.2.b.good := fun e he => (hu e (List.mem_filter.1 (ht.pre.mm.mem_iff.1 he)).1).1
    refine C_loopS (κ := List Ent × Option Ent × Option Addr × Nat × List Int) [false, false, false, false, false, false, false, false, false, true, true, false, false, false, false, false, false, false, false, false, false, false, false, false, false, false, false, false, false, false, false, false, false, true, true, true, true, true, true, true, true, true, true, true, true, true, true, true, true, true, true, true, true, true, true, true, true, true, false, false, false, false, false, false, false, false, false, false, false, false, false, false, false, false, false, false, false, false, false, false, false, false, false, false, false, false] (fun k => []) (fun k => [(2, iti mIT r m mm k.1 k.2.1), (7, cel po [.slice k.2.2.1 k.2.2.2.2.length k.2.2.2.1] 22), (8, own 3 eI (.slice k.2.2.1 k.2.2.2.2.length k.2.2.2.1) k.2.2.2.2)]) (fun k => (k.2.2.2.2 ++ hitsF b d k.1).Perm (o ++ hitsF b d mm) ∧ k.1.length ≤ mm.length ∧ ∀ e ∈ k.1, e ∈ mm) (fun k => k.1.length) (mm, none, A, c, o) ⟨List.Perm.refl _, Nat.le_refl _, fun e h => h⟩ trivial ?_
    rintro ⟨rem, cur, A1, c1, o1⟩ u1 ⟨hperm, hrl, hrm⟩
    dsimp only at hperm hrl hrm
    dsimp only
    ((try dsimp only); refine C_n ?_; (try simp only [Nat.reduceAdd, Nat.zero_add]))
    have hol1 : o1.length ≤ o.length + mm.length := by
      have h1 := hperm.length_eq
      have h2 : (hitsF b d mm).length ≤ mm.length := by unfold hitsF; rw [List.length_map]; exact List.length_filter_le _ _
      rw [List.length_append, List.length_append] at h1
      omega
    repeat' (first | refine go ?_ | intro _ | (apply cG; first | refine cT ?_ | refine cF ?_ | refine cS (fun _ => ?_) fun _ => ?_) | (apply gW; refine sW ?_) | (apply gI; refine sI ?_) | (apply gE; refine sE ?_) | (apply gP; refine sP ?_) | (apply gC; refine sC ?_) | (apply gD; refine sD ?_) | fail)
    refine O_d (dy_next (R := mIT) (i := 2) rfl Ev.pf) ?_; rintro a' L' h
    rcases h with ⟨hr, rfl, rfl⟩ | ⟨q, rem', hq, rfl, hLL⟩
    rotate_left
    · replace hLL := hLL.trans SAt.pf; subst hLL; refine O_n ?_
      rw [show mIT.val q.2 = itV q.2 from rfl]
      have hqm : q ∈ mm := hrm q (hq.mem_iff.2 (.head _))
      have hql := hq.length_eq
      rw [List.length_cons] at hql
      have hqg := hmg q hqm
      have hme := meets_eq hqg hb
      have hst : hitF b d q = (decide (q.2.f ≤ d ∧ d ≤ q.2.t) && meetF q.2.b b) := rfl
      have hrm' : ∀ e ∈ rem', e ∈ mm := fun e he => hrm e (hq.mem_iff.2 (.tail _ he))
      have hqp := hits_perm (b := b) (d := d) hq
      have hno : hitF b d q = false → (o1 ++ hitsF b d rem').Perm (o ++ hitsF b d mm) := fun hf => by
        have : hitsF b d (q :: rem') = hitsF b d rem' := by unfold hitsF; rw [List.filter_cons_of_neg (by rw [hf]; decide)]
        rw [this] at hqp
        exact (hqp.symm.append_left _).trans hperm
      repeat' (first | refine go ?_ | intro _ | (apply cG; first | refine cT ?_ | refine cF ?_ | refine cS (fun _ => ?_) fun _ => ?_) | (apply gW; refine sW ?_) | (apply gI; refine sI ?_) | (apply gE; refine sE ?_) | (apply gP; refine sP ?_) | (apply gC; refine sC ?_) | (apply gD; refine sD ?_) | fail)
      refine O_s (sv_entry (R := mIT) (by repeat (first | exact .head _ | refine .tail _ ?_)) Ev.pf) ?_
      rw [show mIT.val q.2 = itV q.2 from rfl]
      by_cases f1 : q.2.f ≤ d
      rotate_left
      · repeat' (first | refine go ?_ | intro _ | (apply cG; first | refine cT ?_ | refine cF ?_ | refine cS (fun _ => ?_) fun _ => ?_) | (apply gW; refine sW ?_) | (apply gI; refine sI ?_) | (apply gE; refine sE ?_) | (apply gP; refine sP ?_) | (apply gC; refine sC ?_) | (apply gD; refine sD ?_) | fail)
        exact E_round (rem', some q, A1, c1, o1) ⟨hno (by rw [hst, decide_eq_false (fun h => f1 h.1), Bool.false_and]), by dsimp only; omega, hrm'⟩ (by dsimp only; omega) trivial Sb
      by_cases f2 : d ≤ q.2.t
      rotate_left
      · repeat' (first | refine go ?_ | intro _ | (apply cG; first | refine cT ?_ | refine cF ?_ | refine cS (fun _ => ?_) fun _ => ?_) | (apply gW; refine sW ?_) | (apply gI; refine sI ?_) | (apply gE; refine sE ?_) | (apply gP; refine sP ?_) | (apply gC; refine sC ?_) | (apply gD; refine sD ?_) | fail)
        exact E_round (rem', some q, A1, c1, o1) ⟨hno (by rw [hst, decide_eq_false (fun h => f2 h.2), Bool.false_and]), by dsimp only; omega, hrm'⟩ (by dsimp only; omega) trivial Sb
      repeat' (first | refine go ?_ | intro _ | (apply cG; first | refine cT ?_ | refine cF ?_ | refine cS (fun _ => ?_) fun _ => ?_) | (apply gW; refine sW ?_) | (apply gI; refine sI ?_) | (apply gE; refine sE ?_) | (apply gP; refine sP ?_) | (apply gC; refine sC ?_) | (apply gD; refine sD ?_) | fail)
      refine O_d (dy_call ArgsI.pf (by first | exact rfl | trivial | (intro a b; rfl)) (Meets_ct (a := q.2.b) (c := b))) ?_; rintro _ _ ⟨_, ⟨rfl, hLL⟩, rfl⟩; replace hLL := hLL.symm; subst hLL; refine O_n ?_
      rw [hme]
      cases hm : meetF q.2.b b with
      | false =>
        repeat' (first | refine go ?_ | intro _ | (apply cG; first | refine cT ?_ | refine cF ?_ | refine cS (fun _ => ?_) fun _ => ?_) | (apply gW; refine sW ?_) | (apply gI; refine sI ?_) | (apply gE; refine sE ?_) | (apply gP; refine sP ?_) | (apply gC; refine sC ?_) | (apply gD; refine sD ?_) | fail)
        exact E_round (rem', some q, A1, c1, o1) ⟨hno (by rw [hst, hm, Bool.and_false]), by dsimp only; omega, hrm'⟩ (by dsimp only; omega) trivial Sb
      | true =>
        have hy : hitF b d q = true := by rw [hst, hm, decide_eq_true ⟨f1, f2⟩]; rfl
        repeat' (first | refine go ?_ | intro _ | (apply cG; first | refine cT ?_ | refine cF ?_ | refine cS (fun _ => ?_) fun _ => ?_) | (apply gW; refine sW ?_) | (apply gI; refine sI ?_) | (apply gE; refine sE ?_) | (apply gP; refine sP ?_) | (apply gC; refine sC ?_) | (apply gD; refine sD ?_) | fail)
        refine O_d (dy_lit1 (R := eI) q.1 (hcs := by rfl) (hel := fun _ _ _ => by rfl)) ?_; rintro _ _ ⟨_, rfl, rfl⟩; refine O_n ?_
        repeat' (first | refine go ?_ | intro _ | (apply cG; first | refine cT ?_ | refine cF ?_ | refine cS (fun _ => ?_) fun _ => ?_) | (apply gW; refine sW ?_) | (apply gI; refine sI ?_) | (apply gE; refine sE ?_) | (apply gP; refine sP ?_) | (apply gC; refine sC ?_) | (apply gD; refine sD ?_) | fail)
        rename_i A2 c2
        refine E_round (rem', some q, A2, c2, o1 ++ [q.1]) ⟨?_, by dsimp only; omega, hrm'⟩ (by dsimp only; omega) trivial ?_
        · have h1 : hitsF b d (q :: rem') = q.1 :: hitsF b d rem' := by unfold hitsF; rw [List.filter_cons_of_pos hy, List.map_cons]
          rw [h1] at hqp
          dsimp only
          rw [List.append_assoc]
          exact (hqp.symm.append_left _).trans hperm
        · dsimp only
          rw [List.length_append]
          exact Sb
    refine O_n ?_
    subst hr
    rw [show hitsF b d [] = [] from rfl, List.append_nil] at hperm
    repeat' (first | refine go ?_ | intro _ | (apply cG; first | refine cT ?_ | refine cF ?_ | refine cS (fun _ => ?_) fun _ => ?_) | (apply gW; refine sW ?_) | (apply gI; refine sI ?_) | (apply gE; refine sE ?_) | (apply gP; refine sP ?_) | (apply gC; refine sC ?_) | (apply gD; refine sD ?_) | fail)
    refine C_sub (S := cel po [.slice A1 o1.length c1] 22 :: own 3 eI (.slice A1 o1.length c1) o1 :: cel tp [rv, .map (some tm), .int .i64 (lk + 1 + ((sum4 (visC b k0 (n - 1) (2 * i) (2 * j)) (visC b k1 (n - 1) (2 * i + 1) (2 * j)) (visC b k2 (n - 1) (2 * i) (2 * j + 1)) (visC b k3 (n - 1) (2 * i + 1) (2 * j + 1)) 0 : Nat) : Int))] 68 :: cel pb [.int .i64 b.x0, .int .i64 b.y0, .int .i64 b.x1, .int .i64 b.y1] 31 :: cel pt [.pointer (some ⟨tp, 0, none⟩)] 23 :: cel pd [.int .i64 d] 3 :: cel pv [vfn pb pt pd po pv] 72 :: cel pa [.int .i64 (n : Int), .int .i64 (i : Int), .int .i64 (j : Int)] 74 :: ndC p m k0 k1 k2 k3 :: mapo mIT m mm :: qta k0 :: qta k1 :: qta k2 :: qta k3 :: L) ?_ ?_
    · rw [show ∀ a b c d : Nat, lk + 1 + ((sum4 a b c d 0 : Nat) : Int) = lk + 1 from fun _ _ _ _ => Int.add_zero _]
      exact Sub.trans (B := iti mIT r m mm [] cur :: cel po [.slice A1 o1.length c1] 22 :: own 3 eI (.slice A1 o1.length c1) o1 :: cel tp [rv, .map (some tm), .int .i64 (lk + 1)] 68 :: cel pb [.int .i64 b.x0, .int .i64 b.y0, .int .i64 b.x1, .int .i64 b.y1] 31 :: cel pt [.pointer (some ⟨tp, 0, none⟩)] 23 :: cel pd [.int .i64 d] 3 :: cel pv [vfn pb pt pd po pv] 72 :: cel pa [.int .i64 (n : Int), .int .i64 (i : Int), .int .i64 (j : Int)] 74 :: ndC p m k0 k1 k2 k3 :: qta k0 :: qta k1 :: qta k2 :: qta k3 :: L) Sb (Sub.trans sub_iti Sb)
    have hvis : visC b (.nd p m mm k0 k1 k2 k3) n i j = 1 + visC b k0 (n - 1) (2 * i) (2 * j) + visC b k1 (n - 1) (2 * i + 1) (2 * j) + visC b k2 (n - 1) (2 * i) (2 * j + 1) + visC b k3 (n - 1) (2 * i + 1) (2 * j + 1) := by
      show (if covB b (n, i, j) = true then _ else _) = _
      rw [if_pos hcov]
    have hlen := fun q => List.length_filter_le (inQ n q) E
    have hsp := split_perm (n := n) (E := E) fun e he => (hu e he).2.1
    have hspl := hsp.length_eq
    simp only [List.length_append] at hspl
    have hmml2 := ht.pre.mm.length_eq
    have hhit := hits_perm (b := b) (d := d) hsp
    rw [hits_app, hits_app, hits_app, hits_app] at hhit
    have hhm := hits_perm (b := b) (d := d) ht.pre.mm
    have u0 := hu.kid (q := 0)
    have u1' := hu.kid (q := 1)
    have u2' := hu.kid (q := 2)
    have u3' := hu.kid (q := 3)
    simp only [Nat.reduceMod, Nat.reduceDiv, Nat.add_zero] at u0 u1' u2' u3'
    obtain ⟨v0, hv0⟩ : ∃ v, visC b k0 (n - 1) (2 * i) (2 * j) = v := ⟨_, rfl⟩
    obtain ⟨v1, hv1⟩ : ∃ v, visC b k1 (n - 1) (2 * i + 1) (2 * j) = v := ⟨_, rfl⟩
    obtain ⟨v2, hv2⟩ : ∃ v, visC b k2 (n - 1) (2 * i) (2 * j + 1) = v := ⟨_, rfl⟩
    obtain ⟨v3, hv3⟩ : ∃ v, visC b k3 (n - 1) (2 * i + 1) (2 * j + 1) = v := ⟨_, rfl⟩
    have hs0 : sum4 v0 v1 v2 v3 0 = 0 := rfl
    have hs1 : sum4 v0 v1 v2 v3 1 = v0 := rfl
    have hs2 : sum4 v0 v1 v2 v3 2 = v0 + v1 := rfl
    have hs3 : sum4 v0 v1 v2 v3 3 = v0 + v1 + v2 := rfl
    have hs4 : sum4 v0 v1 v2 v3 4 = v0 + v1 + v2 + v3 := rfl
    rw [hv0, hv1, hv2, hv3] at hvis ⊢
    rw [hvis] at hlk2
    refine C_loopS (κ := Nat × Option Addr × Nat × List Int) [false, false, false, false, false, false, false, false, false, false, false, true, true, false, false, false, false, false, false, false, false, false, false, false, false, false, false, false, false, false, false, false, false, false, false, false, false, false, false, false, false, false, false, false, false, false, false, false, false, false, false, false, false, false, false, false, false, false, false, false, false, false, true, true, true, true, true, true, true, true, true, true, true, true, true, true, true, true, true, true, true, true, true, true, true, true] (fun k => [(62, .int .i64 (k.1 : Int))]) (fun k => [(0, cel po [.slice k.2.1 k.2.2.2.length k.2.2.1] 22), (1, own 3 eI (.slice k.2.1 k.2.2.2.length k.2.2.1) k.2.2.2), (2, cel tp [rv, .map (some tm), .int .i64 (lk + 1 + ((sum4 v0 v1 v2 v3 k.1 : Nat) : Int))] 68)]) (fun k => k.1 ≤ 4 ∧ k.2.2.2.Perm (o1 ++ cat4 (hitsF b d (E.filter (inQ n 0))) (hitsF b d (E.filter (inQ n 1))) (hitsF b d (E.filter (inQ n 2))) (hitsF b d (E.filter (inQ n 3))) k.1)) (fun k => 4 - k.1) (0, A1, c1, o1) ⟨Nat.zero_le _, by rw [show cat4 _ _ _ _ 0 = [] from rfl, List.append_nil]⟩ ⟨rfl, trivial⟩ ?_
    rintro ⟨k, A3, c3, o3⟩ u2 ⟨hk, hp3⟩
    dsimp only at hk hp3
    dsimp only
    ((try dsimp only); refine C_n ?_; (try simp only [Nat.reduceAdd, Nat.zero_add]))
    obtain ⟨h0, hh0⟩ : ∃ h, hitsF b d (E.filter (inQ n 0)) = h := ⟨_, rfl⟩
    obtain ⟨h1, hh1⟩ : ∃ h, hitsF b d (E.filter (inQ n 1)) = h := ⟨_, rfl⟩
    obtain ⟨h2, hh2⟩ : ∃ h, hitsF b d (E.filter (inQ n 2)) = h := ⟨_, rfl⟩
    obtain ⟨h3, hh3⟩ : ∃ h, hitsF b d (E.filter (inQ n 3)) = h := ⟨_, rfl⟩
    have hle : ∀ X : List Ent, (hitsF b d X).length ≤ X.length := fun X => by unfold hitsF; rw [List.length_map]; exact List.length_filter_le _ _
    have l0 := hle (E.filter (inQ n 0))
    have l1 := hle (E.filter (inQ n 1))
    have l2 := hle (E.filter (inQ n 2))
    have l3 := hle (E.filter (inQ n 3))
    rw [hh0] at hp3 hhit l0 ⊢
    rw [hh1] at hp3 hhit l1 ⊢
    rw [hh2] at hp3 hhit l2 ⊢
    rw [hh3] at hp3 hhit l3 ⊢
    have hp3l := hp3.length_eq
    rw [List.length_append] at hp3l
    rcases (show k = 0 ∨ k = 1 ∨ k = 2 ∨ k = 3 ∨ k = 4 by omega) with rfl | rfl | rfl | rfl | rfl
    · have hcl : (cat4 h0 h1 h2 h3 0).length = 0 := by
        show ([] : List Int).length = _
        rfl
      rw [hcl] at hp3l
      repeat' (first | refine go ?_ | intro _ | (apply cG; first | refine cT ?_ | refine cF ?_ | refine cS (fun _ => ?_) fun _ => ?_) | (apply gW; refine sW ?_) | (apply gI; refine sI ?_) | (apply gE; refine sE ?_) | (apply gP; refine sP ?_) | (apply gC; refine sC ?_) | (apply gD; refine sD ?_) | fail)
      refine O_s (sv_index (len := 4) (e := 65) (k := .i64) (i := ((0 : Nat) : Int)) (cs := #[k0.val, k1.val, k2.val, k3.val]) (size := 1) (v := k0.val) (by kernel_rfl) (fun w => by kernel_rfl) Ev.pf Ev.pf (by decide) (by decide) (fun w => part_ptr Try.underlying65 rfl)) ?_
      repeat' (first | refine go ?_ | intro _ | (apply cG; first | refine cT ?_ | refine cF ?_ | refine cS (fun _ => ?_) fun _ => ?_) | (apply gW; refine sW ?_) | (apply gI; refine sI ?_) | (apply gE; refine sE ?_) | (apply gP; refine sP ?_) | (apply gC; refine sC ?_) | (apply gD; refine sD ?_) | fail)
      refine O_sub (S := qta k0 :: cel po [.slice A3 o3.length c3] 22 :: own 3 eI (.slice A3 o3.length c3) o3 :: cel tp [rv, .map (some tm), .int .i64 (lk + 1 + ((sum4 v0 v1 v2 v3 0 : Nat) : Int))] 68 :: cel pb [.int .i64 b.x0, .int .i64 b.y0, .int .i64 b.x1, .int .i64 b.y1] 31 :: cel pt [.pointer (some ⟨tp, 0, none⟩)] 23 :: cel pd [.int .i64 d] 3 :: cel pv [vfn pb pt pd po pv] 72 :: cel pa [.int .i64 (n : Int), .int .i64 (i : Int), .int .i64 (j : Int)] 74 :: ndC p m k0 k1 k2 k3 :: mapo mIT m mm :: qta k1 :: qta k2 :: qta k3 :: L) Sb ?_
      refine O_d (dy_callv Ev.pf ArgsI.pf (by simp only [List.append_toArray, List.nil_append, List.append_nil, List.cons_append] <;> exact rfl) (by first | exact rfl | trivial | (intro a b; rfl)) (ih0 _ (n - 1) (2 * i) (2 * j) _ (lk + 1 + ((sum4 v0 v1 v2 v3 0 : Nat) : Int)) _ _ (E.filter (inQ n 0)) o3 A3 c3 ?_ ?_ ht.pre.a u0 ?_ ?_ ?_ ?_ ?_ ?_)) ?_
      rotate_right
      · rintro _ _ ⟨_, ⟨A4, c4, o4, hp4, rfl, rfl⟩, rfl⟩
        refine O_n ?_
        rw [hv0, show lk + 1 + ((sum4 v0 v1 v2 v3 0 : Nat) : Int) + (v0 : Int) = lk + 1 + ((sum4 v0 v1 v2 v3 1 : Nat) : Int) from by omega]
        rw [hh0] at hp4
        repeat' (first | refine go ?_ | intro _ | (apply cG; first | refine cT ?_ | refine cF ?_ | refine cS (fun _ => ?_) fun _ => ?_) | (apply gW; refine sW ?_) | (apply gI; refine sI ?_) | (apply gE; refine sE ?_) | (apply gP; refine sP ?_) | (apply gC; refine sC ?_) | (apply gD; refine sD ?_) | fail)
        refine E_round (1, A4, c4, o4) ⟨by dsimp only; omega, ?_⟩ (by dsimp only; omega) ⟨rfl, trivial⟩ Sb
        refine hp4.trans ((hp3.append_right _).trans ?_)
        rw [List.append_assoc]
        exact List.Perm.refl _
      · omega
      · omega
      · omega
      · intro hne
        rcases ht.pre.a.ne with h | h
        · exact absurd h hne
        · omega
      · omega
      · omega
      · rw [hv0]; omega
      · omega
    · have hcl : (cat4 h0 h1 h2 h3 1).length = h0.length := by
        show (h0 : List Int).length = _
        rfl
      rw [hcl] at hp3l
      repeat' (first | refine go ?_ | intro _ | (apply cG; first | refine cT ?_ | refine cF ?_ | refine cS (fun _ => ?_) fun _ => ?_) | (apply gW; refine sW ?_) | (apply gI; refine sI ?_) | (apply gE; refine sE ?_) | (apply gP; refine sP ?_) | (apply gC; refine sC ?_) | (apply gD; refine sD ?_) | fail)
      refine O_s (sv_index (len := 4) (e := 65) (k := .i64) (i := ((1 : Nat) : Int)) (cs := #[k0.val, k1.val, k2.val, k3.val]) (size := 1) (v := k1.val) (by kernel_rfl) (fun w => by kernel_rfl) Ev.pf Ev.pf (by decide) (by decide) (fun w => part_ptr Try.underlying65 rfl)) ?_
      repeat' (first | refine go ?_ | intro _ | (apply cG; first | refine cT ?_ | refine cF ?_ | refine cS (fun _ => ?_) fun _ => ?_) | (apply gW; refine sW ?_) | (apply gI; refine sI ?_) | (apply gE; refine sE ?_) | (apply gP; refine sP ?_) | (apply gC; refine sC ?_) | (apply gD; refine sD ?_) | fail)
      refine O_sub (S := qta k1 :: cel po [.slice A3 o3.length c3] 22 :: own 3 eI (.slice A3 o3.length c3) o3 :: cel tp [rv, .map (some tm), .int .i64 (lk + 1 + ((sum4 v0 v1 v2 v3 1 : Nat) : Int))] 68 :: cel pb [.int .i64 b.x0, .int .i64 b.y0, .int .i64 b.x1, .int .i64 b.y1] 31 :: cel pt [.pointer (some ⟨tp, 0, none⟩)] 23 :: cel pd [.int .i64 d] 3 :: cel pv [vfn pb pt pd po pv] 72 :: cel pa [.int .i64 (n : Int), .int .i64 (i : Int), .int .i64 (j : Int)] 74 :: ndC p m k0 k1 k2 k3 :: mapo mIT m mm :: qta k0 :: qta k2 :: qta k3 :: L) Sb ?_
      refine O_d (dy_callv Ev.pf ArgsI.pf (by simp only [List.append_toArray, List.nil_append, List.append_nil, List.cons_append] <;> exact rfl) (by first | exact rfl | trivial | (intro a b; rfl)) (ih1 _ (n - 1) (2 * i + 1) (2 * j) _ (lk + 1 + ((sum4 v0 v1 v2 v3 1 : Nat) : Int)) _ _ (E.filter (inQ n 1)) o3 A3 c3 ?_ ?_ ht.pre.b u1' ?_ ?_ ?_ ?_ ?_ ?_)) ?_
      rotate_right
      · rintro _ _ ⟨_, ⟨A4, c4, o4, hp4, rfl, rfl⟩, rfl⟩
        refine O_n ?_
        rw [hv1, show lk + 1 + ((sum4 v0 v1 v2 v3 1 : Nat) : Int) + (v1 : Int) = lk + 1 + ((sum4 v0 v1 v2 v3 2 : Nat) : Int) from by omega]
        rw [hh1] at hp4
        repeat' (first | refine go ?_ | intro _ | (apply cG; first | refine cT ?_ | refine cF ?_ | refine cS (fun _ => ?_) fun _ => ?_) | (apply gW; refine sW ?_) | (apply gI; refine sI ?_) | (apply gE; refine sE ?_) | (apply gP; refine sP ?_) | (apply gC; refine sC ?_) | (apply gD; refine sD ?_) | fail)
        refine E_round (2, A4, c4, o4) ⟨by dsimp only; omega, ?_⟩ (by dsimp only; omega) ⟨rfl, trivial⟩ Sb
        refine hp4.trans ((hp3.append_right _).trans ?_)
        rw [List.append_assoc]
        exact List.Perm.refl _
      · omega
      · omega
      · omega
      · intro hne
        rcases ht.pre.b.ne with h | h
        · exact absurd h hne
        · omega
      · omega
      · omega
      · rw [hv1]; omega
      · omega
    · have hcl : (cat4 h0 h1 h2 h3 2).length = h0.length + h1.length := by
        show (h0 ++ h1 : List Int).length = _
        simp only [List.length_append]
      rw [hcl] at hp3l
      repeat' (first | refine go ?_ | intro _ | (apply cG; first | refine cT ?_ | refine cF ?_ | refine cS (fun _ => ?_) fun _ => ?_) | (apply gW; refine sW ?_) | (apply gI; refine sI ?_) | (apply gE; refine sE ?_) | (apply gP; refine sP ?_) | (apply gC; refine sC ?_) | (apply gD; refine sD ?_) | fail)
      refine O_s (sv_index (len := 4) (e := 65) (k := .i64) (i := ((2 : Nat) : Int)) (cs := #[k0.val, k1.val, k2.val, k3.val]) (size := 1) (v := k2.val) (by kernel_rfl) (fun w => by kernel_rfl) Ev.pf Ev.pf (by decide) (by decide) (fun w => part_ptr Try.underlying65 rfl)) ?_
      repeat' (first | refine go ?_ | intro _ | (apply cG; first | refine cT ?_ | refine cF ?_ | refine cS (fun _ => ?_) fun _ => ?_) | (apply gW; refine sW ?_) | (apply gI; refine sI ?_) | (apply gE; refine sE ?_) | (apply gP; refine sP ?_) | (apply gC; refine sC ?_) | (apply gD; refine sD ?_) | fail)
      refine O_sub (S := qta k2 :: cel po [.slice A3 o3.length c3] 22 :: own 3 eI (.slice A3 o3.length c3) o3 :: cel tp [rv, .map (some tm), .int .i64 (lk + 1 + ((sum4 v0 v1 v2 v3 2 : Nat) : Int))] 68 :: cel pb [.int .i64 b.x0, .int .i64 b.y0, .int .i64 b.x1, .int .i64 b.y1] 31 :: cel pt [.pointer (some ⟨tp, 0, none⟩)] 23 :: cel pd [.int .i64 d] 3 :: cel pv [vfn pb pt pd po pv] 72 :: cel pa [.int .i64 (n : Int), .int .i64 (i : Int), .int .i64 (j : Int)] 74 :: ndC p m k0 k1 k2 k3 :: mapo mIT m mm :: qta k0 :: qta k1 :: qta k3 :: L) Sb ?_
      refine O_d (dy_callv Ev.pf ArgsI.pf (by simp only [List.append_toArray, List.nil_append, List.append_nil, List.cons_append] <;> exact rfl) (by first | exact rfl | trivial | (intro a b; rfl)) (ih2 _ (n - 1) (2 * i) (2 * j + 1) _ (lk + 1 + ((sum4 v0 v1 v2 v3 2 : Nat) : Int)) _ _ (E.filter (inQ n 2)) o3 A3 c3 ?_ ?_ ht.pre.c u2' ?_ ?_ ?_ ?_ ?_ ?_)) ?_
      rotate_right
      · rintro _ _ ⟨_, ⟨A4, c4, o4, hp4, rfl, rfl⟩, rfl⟩
        refine O_n ?_
        rw [hv2, show lk + 1 + ((sum4 v0 v1 v2 v3 2 : Nat) : Int) + (v2 : Int) = lk + 1 + ((sum4 v0 v1 v2 v3 3 : Nat) : Int) from by omega]
        rw [hh2] at hp4
        repeat' (first | refine go ?_ | intro _ | (apply cG; first | refine cT ?_ | refine cF ?_ | refine cS (fun _ => ?_) fun _ => ?_) | (apply gW; refine sW ?_) | (apply gI; refine sI ?_) | (apply gE; refine sE ?_) | (apply gP; refine sP ?_) | (apply gC; refine sC ?_) | (apply gD; refine sD ?_) | fail)
        refine E_round (3, A4, c4, o4) ⟨by dsimp only; omega, ?_⟩ (by dsimp only; omega) ⟨rfl, trivial⟩ Sb
        refine hp4.trans ((hp3.append_right _).trans ?_)
        rw [List.append_assoc]
        exact List.Perm.refl _
      · omega
      · omega
      · omega
      · intro hne
        rcases ht.pre.c.ne with h | h
        · exact absurd h hne
        · omega
      · omega
      · omega
      · rw [hv2]; omega
      · omega
    · have hcl : (cat4 h0 h1 h2 h3 3).length = h0.length + h1.length + h2.length := by
        show (h0 ++ h1 ++ h2 : List Int).length = _
        simp only [List.length_append]
      rw [hcl] at hp3l
      repeat' (first | refine go ?_ | intro _ | (apply cG; first | refine cT ?_ | refine cF ?_ | refine cS (fun _ => ?_) fun _ => ?_) | (apply gW; refine sW ?_) | (apply gI; refine sI ?_) | (apply gE; refine sE ?_) | (apply gP; refine sP ?_) | (apply gC; refine sC ?_) | (apply gD; refine sD ?_) | fail)
      refine O_s (sv_index (len := 4) (e := 65) (k := .i64) (i := ((3 : Nat) : Int)) (cs := #[k0.val, k1.val, k2.val, k3.val]) (size := 1) (v := k3.val) (by kernel_rfl) (fun w => by kernel_rfl) Ev.pf Ev.pf (by decide) (by decide) (fun w => part_ptr Try.underlying65 rfl)) ?_
      repeat' (first | refine go ?_ | intro _ | (apply cG; first | refine cT ?_ | refine cF ?_ | refine cS (fun _ => ?_) fun _ => ?_) | (apply gW; refine sW ?_) | (apply gI; refine sI ?_) | (apply gE; refine sE ?_) | (apply gP; refine sP ?_) | (apply gC; refine sC ?_) | (apply gD; refine sD ?_) | fail)
      refine O_sub (S := qta k3 :: cel po [.slice A3 o3.length c3] 22 :: own 3 eI (.slice A3 o3.length c3) o3 :: cel tp [rv, .map (some tm), .int .i64 (lk + 1 + ((sum4 v0 v1 v2 v3 3 : Nat) : Int))] 68 :: cel pb [.int .i64 b.x0, .int .i64 b.y0, .int .i64 b.x1, .int .i64 b.y1] 31 :: cel pt [.pointer (some ⟨tp, 0, none⟩)] 23 :: cel pd [.int .i64 d] 3 :: cel pv [vfn pb pt pd po pv] 72 :: cel pa [.int .i64 (n : Int), .int .i64 (i : Int), .int .i64 (j : Int)] 74 :: ndC p m k0 k1 k2 k3 :: mapo mIT m mm :: qta k0 :: qta k1 :: qta k2 :: L) Sb ?_
      refine O_d (dy_callv Ev.pf ArgsI.pf (by simp only [List.append_toArray, List.nil_append, List.append_nil, List.cons_append] <;> exact rfl) (by first | exact rfl | trivial | (intro a b; rfl)) (ih3 _ (n - 1) (2 * i + 1) (2 * j + 1) _ (lk + 1 + ((sum4 v0 v1 v2 v3 3 : Nat) : Int)) _ _ (E.filter (inQ n 3)) o3 A3 c3 ?_ ?_ ht.pre.d u3' ?_ ?_ ?_ ?_ ?_ ?_)) ?_
      rotate_right
      · rintro _ _ ⟨_, ⟨A4, c4, o4, hp4, rfl, rfl⟩, rfl⟩
        refine O_n ?_
        rw [hv3, show lk + 1 + ((sum4 v0 v1 v2 v3 3 : Nat) : Int) + (v3 : Int) = lk + 1 + ((sum4 v0 v1 v2 v3 4 : Nat) : Int) from by omega]
        rw [hh3] at hp4
        repeat' (first | refine go ?_ | intro _ | (apply cG; first | refine cT ?_ | refine cF ?_ | refine cS (fun _ => ?_) fun _ => ?_) | (apply gW; refine sW ?_) | (apply gI; refine sI ?_) | (apply gE; refine sE ?_) | (apply gP; refine sP ?_) | (apply gC; refine sC ?_) | (apply gD; refine sD ?_) | fail)
        refine E_round (4, A4, c4, o4) ⟨by dsimp only; omega, ?_⟩ (by dsimp only; omega) ⟨rfl, trivial⟩ Sb
        refine hp4.trans ((hp3.append_right _).trans ?_)
        rw [List.append_assoc]
        exact List.Perm.refl _
      · omega
      · omega
      · omega
      · intro hne
        rcases ht.pre.d.ne with h | h
        · exact absurd h hne
        · omega
      · omega
      · omega
      · rw [hv3]; omega
      · omega
    · repeat' (first | refine go ?_ | intro _ | (apply cG; first | refine cT ?_ | refine cF ?_ | refine cS (fun _ => ?_) fun _ => ?_) | (apply gW; refine sW ?_) | (apply gI; refine sI ?_) | (apply gE; refine sE ?_) | (apply gP; refine sP ?_) | (apply gC; refine sC ?_) | (apply gD; refine sD ?_) | fail)
      refine E_sub (S := qta (.nd p m mm k0 k1 k2 k3) :: cel po [.slice A3 o3.length c3] 22 :: own 3 eI (.slice A3 o3.length c3) o3 :: cel tp [rv, .map (some tm), .int .i64 (lk + (visC b (.nd p m mm k0 k1 k2 k3) n i j : Int))] 68 :: cel pb [.int .i64 b.x0, .int .i64 b.y0, .int .i64 b.x1, .int .i64 b.y1] 31 :: cel pt [.pointer (some ⟨tp, 0, none⟩)] 23 :: cel pd [.int .i64 d] 3 :: cel pv [vfn pb pt pd po pv] 72 :: L) ?_ (E_end0 (.inl rfl) rfl rfl ⟨A3, c3, o3, ?_, rfl, rfl⟩)
      · rw [hvis, show lk + ((1 + v0 + v1 + v2 + v3 : Nat) : Int) = lk + 1 + ((sum4 v0 v1 v2 v3 4 : Nat) : Int) from by omega]
        exact Sub.trans (B := ndC p m k0 k1 k2 k3 :: mapo mIT m mm :: qta k0 :: qta k1 :: qta k2 :: qta k3 :: cel po [.slice A3 o3.length c3] 22 :: own 3 eI (.slice A3 o3.length c3) o3 :: cel tp [rv, .map (some tm), .int .i64 (lk + 1 + ((sum4 v0 v1 v2 v3 4 : Nat) : Int))] 68 :: cel pb [.int .i64 b.x0, .int .i64 b.y0, .int .i64 b.x1, .int .i64 b.y1] 31 :: cel pt [.pointer (some ⟨tp, 0, none⟩)] 23 :: cel pd [.int .i64 d] 3 :: cel pv [vfn pb pt pd po pv] 72 :: L) Sb qta_close
      · refine hp3.trans ((hperm.append_right _).trans ?_)
        rw [List.append_assoc]
        refine List.Perm.append_left _ (((hhm.append_right _).trans ?_).trans hhit)
        show (_ ++ (h0 ++ h1 ++ h2 ++ h3)).Perm _
        simp only [List.append_assoc]
        exact List.Perm.refl _
end
end Go.Proofs.Ytnjjifikogblpaa
