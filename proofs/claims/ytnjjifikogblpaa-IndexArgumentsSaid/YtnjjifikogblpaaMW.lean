/-
  The reference of the index: find, Add, Remove, Copy.
-/
import Derived.Test.YtnjjifikogblpaaMT
import Derived.Test.YtnjjifikogblpaaMU
import Derived.Test.YtnjjifikogblpaaMV
namespace Go.Proofs.Ytnjjifikogblpaa
open Go Go.RowKit
set_option linter.unusedVariables false
set_option linter.unusedSimpArgs false
set_option maxRecDepth 20000
set_option synthInstance.maxSize 100000
set_option synthInstance.maxHeartbeats 400000
def eTh : Enc Ent :=
  ⟨7, fun m e cs => cs = [.int .i64 e.1, .int .i64 e.2.b.x0, .int .i64 e.2.b.y0, .int .i64 e.2.b.x1, .int .i64 e.2.b.y1, .int .i64 e.2.f, .int .i64 e.2.t], fun hm e => e, fun e => by subst e; rfl,
    fun {_ x _} e u hu => by
      subst e
      simp only [List.mem_cons, List.not_mem_nil, or_false] at hu
      rcases hu with rfl | rfl | rfl | rfl | rfl | rfl | rfl <;> rfl⟩
instance : Sz eTh 7 := ⟨rfl⟩
instance {e : Ent} : EncC eTh e [.int .i64 e.1, .int .i64 e.2.b.x0, .int .i64 e.2.b.y0, .int .i64 e.2.b.x1, .int .i64 e.2.b.y1, .int .i64 e.2.f, .int .i64 e.2.t] := ⟨fun _ _ h => h⟩
structure RM where
  p : Nat
  A : Option Addr
  c : Nat
  l : List Ent
  lk : Int
def rtA (R : RM) : HP := sp [cel R.p [.slice R.A R.l.length R.c, .int .i64 R.lk] 36, rd eTh (.slice R.A R.l.length R.c) R.l]
def findI (l : List Ent) (id : Int) : Int := match posM id l 0 with
  | some q => (q.1 : Int)
  | none => -1
theorem posM_step {l : List Ent} {id : Int} {k : Nat} {x : Ent} (hx : l[k]? = some x) : posM id (l.drop k) k = if id = x.1 then some (k, x.2) else posM id (l.drop (k + 1)) (k + 1) := by
  rw [List.drop_eq_getElem_cons (List.getElem?_eq_some_iff.1 hx).1, (List.getElem?_eq_some_iff.1 hx).2]
  rfl
section
variable {P : Program} {W0 : World} {L : List HP}
theorem rtA_open {R : RM} : Sub (rtA R :: L) (cel R.p [.slice R.A R.l.length R.c, .int .i64 R.lk] 36 :: rd eTh (.slice R.A R.l.length R.c) R.l :: L) := sub_open (Ls := [cel R.p [.slice R.A R.l.length R.c, .int .i64 R.lk] 36, rd eTh (.slice R.A R.l.length R.c) R.l])
theorem rtA_close {R : RM} : Sub (cel R.p [.slice R.A R.l.length R.c, .int .i64 R.lk] 36 :: rd eTh (.slice R.A R.l.length R.c) R.l :: L) (rtA R :: L) := sub_close (Ls := [cel R.p [.slice R.A R.l.length R.c, .int .i64 R.lk] 36, rd eTh (.slice R.A R.l.length R.c) R.l])
theorem cutN {α : Type} {R : Enc α} {A : Option Addr} {n c N : Nat} {l : List α} (hm : rd R (.slice A n c) l ∈ L) (hN : N ≤ n) : Sub L (rd R (.slice A N c) (l.take N) :: L) := fun m h s =>
  ⟨Hp.none, h, Hp.none_dj _, Hp.none_le _, Hp.le_refl _, Sl.cut0 (rd_mem s hm) hN, s⟩
theorem cap_of {α : Type} {R : Enc α} {A : Option Addr} {n c : Nat} {l : List α} {c' : Code} {a : Act} {Q : Exit → Act → World → Prop} (hm : rd R (.slice A n c) l ∈ L) (k : n ≤ c → CL P W0 L c' Q a) : CL P W0 L c' Q a :=
  C_fact (φ := n ≤ c) (fun w s => by
    obtain ⟨A', c', e, h⟩ := (Src.sl (.inl hm) s).form
    injection e with e1 e2 e3
    omega) k
theorem rfind_ct {R : RM} {id : Int} (hl : R.l.length ≤ 1000000) : CT Try.prog 44 #[.pointer (some ⟨R.p, 0, none⟩), .int .i64 id] W0 (rtA R :: L) fun r L' => r = .int .i64 (findI R.l id) ∧ L' = rtA R :: L := by
  refine CT.sub ?_ rtA_open
  obtain ⟨p, A, c, l, lk⟩ := R
  dsimp only at hl ⊢
  refine CT_enter Try.func44 rfl ?_; (simp only [Try.ntmps44, List.size_toArray, List.length_cons, List.length_nil, Nat.reduceAdd, Nat.reduceSub, Array.replicate_succ, Array.replicate_zero, List.push_toArray, List.append_toArray, List.nil_append, List.cons_append])
  repeat' (first | refine go ?_ | intro _ | (apply cG; first | refine cT ?_ | refine cF ?_ | refine cS (fun _ => ?_) fun _ => ?_) | (apply gW; refine sW ?_) | (apply gI; refine sI ?_) | (apply gE; refine sE ?_) | (apply gP; refine sP ?_) | (apply gC; refine sC ?_) | (apply gD; refine sD ?_) | fail)
  refine C_loopS (κ := Nat) [false, false, false, false, true, true, true, true, true, true, true, true, true, true, true, true, true, true, true, true, true, true, true, true, true, true] (fun k => [(5, .int .i64 (k : Int))]) (fun k => []) (fun k => k ≤ l.length ∧ posM id l 0 = posM id (l.drop k) k) (fun k => l.length - k) 0 ⟨Nat.zero_le _, rfl⟩ ⟨rfl, trivial⟩ ?_
  rintro k u ⟨hk, hp⟩
  ((try dsimp only); refine C_n ?_; (try simp only [Nat.reduceAdd, Nat.zero_add]))
  by_cases hkl : k < l.length
  · obtain ⟨x, hx⟩ : ∃ x, l[k]? = some x := ⟨_, List.getElem?_eq_getElem hkl⟩
    have hax : At l k x := ⟨hx⟩
    rw [posM_step hx] at hp
    by_cases hid : x.1 = id
    · rw [if_pos hid.symm] at hp
      have hf : findI l id = (k : Int) := by unfold findI; rw [hp]
      rw [hf]
      repeat' (first | refine go ?_ | intro _ | (apply cG; first | refine cT ?_ | refine cF ?_ | refine cS (fun _ => ?_) fun _ => ?_) | (apply gW; refine sW ?_) | (apply gI; refine sI ?_) | (apply gE; refine sE ?_) | (apply gP; refine sP ?_) | (apply gC; refine sC ?_) | (apply gD; refine sD ?_) | fail)
      refine E_res1 (by rfl) (by rfl) ⟨rfl, rfl⟩ (rtA_close (R := ⟨p, A, c, l, lk⟩))
    · rw [if_neg (fun h => hid h.symm)] at hp
      repeat' (first | refine go ?_ | intro _ | (apply cG; first | refine cT ?_ | refine cF ?_ | refine cS (fun _ => ?_) fun _ => ?_) | (apply gW; refine sW ?_) | (apply gI; refine sI ?_) | (apply gE; refine sE ?_) | (apply gP; refine sP ?_) | (apply gC; refine sC ?_) | (apply gD; refine sD ?_) | fail)
      exact E_round (k + 1) ⟨hkl, hp⟩ (by omega) ⟨rfl, trivial⟩ Sb
  obtain rfl : k = l.length := by omega
  rw [List.drop_length] at hp
  have hf : findI l id = -1 := by unfold findI; rw [hp]; rfl
  rw [hf]
  repeat' (first | refine go ?_ | intro _ | (apply cG; first | refine cT ?_ | refine cF ?_ | refine cS (fun _ => ?_) fun _ => ?_) | (apply gW; refine sW ?_) | (apply gI; refine sI ?_) | (apply gE; refine sE ?_) | (apply gP; refine sP ?_) | (apply gC; refine sC ?_) | (apply gD; refine sD ?_) | fail)
  refine E_res1 (by rfl) (by rfl) ⟨rfl, rfl⟩ (rtA_close (R := ⟨p, A, c, l, lk⟩))
theorem find_has {l : List Ent} {id : Int} : (hasK l id = false ∧ findI l id = -1) ∨ ∃ q, hasK l id = true ∧ posM id l 0 = some q ∧ findI l id = (q.1 : Int) := by
  unfold findI
  cases hp : posM id l 0 with
  | none => exact .inl ⟨List.any_eq_false.2 fun a ha h => posM_none.1 hp a ha (of_decide_eq_true h), rfl⟩
  | some q =>
    have h := List.mem_of_getElem? (posM_lt hp).2.2
    exact .inr ⟨q, List.any_eq_true.2 ⟨_, h, decide_eq_true rfl⟩, rfl, rfl⟩
theorem tw_all {p : Ent → Bool} : ∀ {l : List Ent}, (∀ a ∈ l, p a = true) → l.takeWhile p = l ∧ l.dropWhile p = []
  | [], _ => ⟨rfl, rfl⟩
  | x :: l, h => by
    have hx := h x (.head _)
    obtain ⟨h1, h2⟩ := tw_all fun a ha => h a (.tail _ ha)
    rw [List.takeWhile_cons_of_pos hx, List.dropWhile_cons_of_pos hx, h1, h2]
    exact ⟨rfl, rfl⟩
theorem take_step {l : List Ent} {p : Ent → Bool} {k : Nat} {x : Ent} (hx : l[k]? = some x) (h : ∀ a ∈ l.take k, p a = true) : (p x = true → ∀ a ∈ l.take (k + 1), p a = true) ∧ (¬ p x = true → l.takeWhile p = l.take k ∧ l.dropWhile p = l.drop k) := by
  have hk := (List.getElem?_eq_some_iff.1 hx).1
  refine ⟨fun hp a ha => ?_, fun hp => ?_⟩
  · rw [List.take_add_one, hx] at ha
    rcases List.mem_append.1 ha with ha | ha
    · exact h a ha
    · rw [show (some x).toList = [x] from rfl, List.mem_singleton] at ha
      rw [ha]
      exact hp
  · have e : l = l.take k ++ x :: l.drop (k + 1) := by
      conv => lhs; rw [← List.take_append_drop k l, List.drop_eq_getElem_cons hk, (List.getElem?_eq_some_iff.1 hx).2]
    have hd : l.drop k = x :: l.drop (k + 1) := by rw [List.drop_eq_getElem_cons hk, (List.getElem?_eq_some_iff.1 hx).2]
    rw [hd]
    constructor
    · conv => lhs; rw [e]
      rw [List.takeWhile_append_of_pos h, List.takeWhile_cons_of_neg hp, List.append_nil]
    · conv => lhs; rw [e]
      rw [List.dropWhile_append_of_pos h, List.dropWhile_cons_of_neg hp]
set_option maxHeartbeats 2000000 in
theorem rAdd_ct {R : RM} {id : Int} {x : IT} (hl : WFL R.l) : CT Try.prog 20 #[.pointer (some ⟨R.p, 0, none⟩), .int .i64 id, bxV x.b, .int .i64 x.f, .int .i64 x.t] W0 (rtA R :: L) fun r L' => ∃ R' : RM, R'.p = R.p ∧ R'.lk = R.lk ∧ R'.l = addL R.l id x ∧ r = .int .i64 (addE R.l id x) ∧ L' = rtA R' :: L := by
  have hno : argE id x = false → addE R.l id x = 1 ∧ addL R.l id x = R.l := fun h => by
    have : addE R.l id x = 1 := by unfold addE; rw [if_neg (by rw [h]; decide)]
    exact ⟨this, by unfold addL; rw [if_neg (by rw [this]; decide)]⟩
  have hln := hl.n
  cases c1 : inF id 0 1073741824 with
  | false =>
    obtain ⟨e1, e2⟩ := hno (by unfold argE; rw [decide_eq_false (fun h => of_decide_eq_false c1 ⟨h.1, h.2.1⟩)]; rfl)
    rw [e1, e2]
    refine CT_enter Try.func20 rfl ?_; (simp only [Try.ntmps20, List.size_toArray, List.length_cons, List.length_nil, Nat.reduceAdd, Nat.reduceSub, Array.replicate_succ, Array.replicate_zero, List.push_toArray, List.append_toArray, List.nil_append, List.cons_append])
    repeat' (first | refine go ?_ | intro _ | (apply cG; first | refine cT ?_ | refine cF ?_ | refine cS (fun _ => ?_) fun _ => ?_) | (apply gW; refine sW ?_) | (apply gI; refine sI ?_) | (apply gE; refine sE ?_) | (apply gP; refine sP ?_) | (apply gC; refine sC ?_) | (apply gD; refine sD ?_) | fail)
    refine O_d (dy_call ArgsI.pf (by first | exact rfl | trivial | (intro a b; rfl)) (rValid_ct (b := x.b))) ?_; rintro _ _ ⟨_, ⟨rfl, hLL⟩, rfl⟩; replace hLL := hLL.symm; subst hLL; refine O_n ?_
    repeat' (first | refine go ?_ | intro _ | (apply cG; first | refine cT ?_ | refine cF ?_ | refine cS (fun _ => ?_) fun _ => ?_) | (apply gW; refine sW ?_) | (apply gI; refine sI ?_) | (apply gE; refine sE ?_) | (apply gP; refine sP ?_) | (apply gC; refine sC ?_) | (apply gD; refine sD ?_) | fail)
    refine O_d (dy_call ArgsI.pf (by first | exact rfl | trivial | (intro a b; rfl)) (rwithin_ct)) ?_; rintro _ _ ⟨_, ⟨rfl, hLL⟩, rfl⟩; replace hLL := hLL.symm; subst hLL; refine O_n ?_
    rw [c1]
    repeat' (first | refine go ?_ | intro _ | (apply cG; first | refine cT ?_ | refine cF ?_ | refine cS (fun _ => ?_) fun _ => ?_) | (apply gW; refine sW ?_) | (apply gI; refine sI ?_) | (apply gE; refine sE ?_) | (apply gP; refine sP ?_) | (apply gC; refine sC ?_) | (apply gD; refine sD ?_) | fail)
    refine E_res1 (by rfl) (by rfl) ⟨R, rfl, rfl, rfl, rfl, rfl⟩ Sb
  | true =>
  by_cases c2 : x.b.good
  rotate_left
  · obtain ⟨e1, e2⟩ := hno (by unfold argE; rw [decide_eq_false (fun h => c2 h.2.2)]; rfl)
    rw [e1, e2]
    refine CT_enter Try.func20 rfl ?_; (simp only [Try.ntmps20, List.size_toArray, List.length_cons, List.length_nil, Nat.reduceAdd, Nat.reduceSub, Array.replicate_succ, Array.replicate_zero, List.push_toArray, List.append_toArray, List.nil_append, List.cons_append])
    repeat' (first | refine go ?_ | intro _ | (apply cG; first | refine cT ?_ | refine cF ?_ | refine cS (fun _ => ?_) fun _ => ?_) | (apply gW; refine sW ?_) | (apply gI; refine sI ?_) | (apply gE; refine sE ?_) | (apply gP; refine sP ?_) | (apply gC; refine sC ?_) | (apply gD; refine sD ?_) | fail)
    refine O_d (dy_call ArgsI.pf (by first | exact rfl | trivial | (intro a b; rfl)) (rValid_ct (b := x.b))) ?_; rintro _ _ ⟨_, ⟨rfl, hLL⟩, rfl⟩; replace hLL := hLL.symm; subst hLL; refine O_n ?_
    rw [decide_eq_false c2]
    repeat' (first | refine go ?_ | intro _ | (apply cG; first | refine cT ?_ | refine cF ?_ | refine cS (fun _ => ?_) fun _ => ?_) | (apply gW; refine sW ?_) | (apply gI; refine sI ?_) | (apply gE; refine sE ?_) | (apply gP; refine sP ?_) | (apply gC; refine sC ?_) | (apply gD; refine sD ?_) | fail)
    refine O_d (dy_call ArgsI.pf (by first | exact rfl | trivial | (intro a b; rfl)) (rwithin_ct)) ?_; rintro _ _ ⟨_, ⟨rfl, hLL⟩, rfl⟩; replace hLL := hLL.symm; subst hLL; refine O_n ?_
    rw [c1]
    repeat' (first | refine go ?_ | intro _ | (apply cG; first | refine cT ?_ | refine cF ?_ | refine cS (fun _ => ?_) fun _ => ?_) | (apply gW; refine sW ?_) | (apply gI; refine sI ?_) | (apply gE; refine sE ?_) | (apply gP; refine sP ?_) | (apply gC; refine sC ?_) | (apply gD; refine sD ?_) | fail)
    refine E_res1 (by rfl) (by rfl) ⟨R, rfl, rfl, rfl, rfl, rfl⟩ Sb
  cases c3 : inF x.f 0 73048 with
  | false =>
    obtain ⟨e1, e2⟩ := hno (by unfold argE daysF; rw [Bool.and_eq_false_iff]; exact .inr (decide_eq_false fun h => of_decide_eq_false c3 ⟨h.1, by omega⟩))
    rw [e1, e2]
    refine CT_enter Try.func20 rfl ?_; (simp only [Try.ntmps20, List.size_toArray, List.length_cons, List.length_nil, Nat.reduceAdd, Nat.reduceSub, Array.replicate_succ, Array.replicate_zero, List.push_toArray, List.append_toArray, List.nil_append, List.cons_append])
    repeat' (first | refine go ?_ | intro _ | (apply cG; first | refine cT ?_ | refine cF ?_ | refine cS (fun _ => ?_) fun _ => ?_) | (apply gW; refine sW ?_) | (apply gI; refine sI ?_) | (apply gE; refine sE ?_) | (apply gP; refine sP ?_) | (apply gC; refine sC ?_) | (apply gD; refine sD ?_) | fail)
    refine O_d (dy_call ArgsI.pf (by first | exact rfl | trivial | (intro a b; rfl)) (rValid_ct (b := x.b))) ?_; rintro _ _ ⟨_, ⟨rfl, hLL⟩, rfl⟩; replace hLL := hLL.symm; subst hLL; refine O_n ?_
    rw [decide_eq_true c2]
    repeat' (first | refine go ?_ | intro _ | (apply cG; first | refine cT ?_ | refine cF ?_ | refine cS (fun _ => ?_) fun _ => ?_) | (apply gW; refine sW ?_) | (apply gI; refine sI ?_) | (apply gE; refine sE ?_) | (apply gP; refine sP ?_) | (apply gC; refine sC ?_) | (apply gD; refine sD ?_) | fail)
    refine O_d (dy_call ArgsI.pf (by first | exact rfl | trivial | (intro a b; rfl)) (rwithin_ct)) ?_; rintro _ _ ⟨_, ⟨rfl, hLL⟩, rfl⟩; replace hLL := hLL.symm; subst hLL; refine O_n ?_
    rw [c1]
    repeat' (first | refine go ?_ | intro _ | (apply cG; first | refine cT ?_ | refine cF ?_ | refine cS (fun _ => ?_) fun _ => ?_) | (apply gW; refine sW ?_) | (apply gI; refine sI ?_) | (apply gE; refine sE ?_) | (apply gP; refine sP ?_) | (apply gC; refine sC ?_) | (apply gD; refine sD ?_) | fail)
    refine O_d (dy_call ArgsI.pf (by first | exact rfl | trivial | (intro a b; rfl)) (rwithin_ct)) ?_; rintro _ _ ⟨_, ⟨rfl, hLL⟩, rfl⟩; replace hLL := hLL.symm; subst hLL; refine O_n ?_
    rw [c3]
    repeat' (first | refine go ?_ | intro _ | (apply cG; first | refine cT ?_ | refine cF ?_ | refine cS (fun _ => ?_) fun _ => ?_) | (apply gW; refine sW ?_) | (apply gI; refine sI ?_) | (apply gE; refine sE ?_) | (apply gP; refine sP ?_) | (apply gC; refine sC ?_) | (apply gD; refine sD ?_) | fail)
    refine E_res1 (by rfl) (by rfl) ⟨R, rfl, rfl, rfl, rfl, rfl⟩ Sb
  | true =>
  cases c4 : inF x.t x.f 73048 with
  | false =>
    obtain ⟨e1, e2⟩ := hno (by unfold argE daysF; rw [Bool.and_eq_false_iff]; exact .inr (decide_eq_false fun h => of_decide_eq_false c4 ⟨h.2.1, h.2.2⟩))
    rw [e1, e2]
    refine CT_enter Try.func20 rfl ?_; (simp only [Try.ntmps20, List.size_toArray, List.length_cons, List.length_nil, Nat.reduceAdd, Nat.reduceSub, Array.replicate_succ, Array.replicate_zero, List.push_toArray, List.append_toArray, List.nil_append, List.cons_append])
    repeat' (first | refine go ?_ | intro _ | (apply cG; first | refine cT ?_ | refine cF ?_ | refine cS (fun _ => ?_) fun _ => ?_) | (apply gW; refine sW ?_) | (apply gI; refine sI ?_) | (apply gE; refine sE ?_) | (apply gP; refine sP ?_) | (apply gC; refine sC ?_) | (apply gD; refine sD ?_) | fail)
    refine O_d (dy_call ArgsI.pf (by first | exact rfl | trivial | (intro a b; rfl)) (rValid_ct (b := x.b))) ?_; rintro _ _ ⟨_, ⟨rfl, hLL⟩, rfl⟩; replace hLL := hLL.symm; subst hLL; refine O_n ?_
    rw [decide_eq_true c2]
    repeat' (first | refine go ?_ | intro _ | (apply cG; first | refine cT ?_ | refine cF ?_ | refine cS (fun _ => ?_) fun _ => ?_) | (apply gW; refine sW ?_) | (apply gI; refine sI ?_) | (apply gE; refine sE ?_) | (apply gP; refine sP ?_) | (apply gC; refine sC ?_) | (apply gD; refine sD ?_) | fail)
    refine O_d (dy_call ArgsI.pf (by first | exact rfl | trivial | (intro a b; rfl)) (rwithin_ct)) ?_; rintro _ _ ⟨_, ⟨rfl, hLL⟩, rfl⟩; replace hLL := hLL.symm; subst hLL; refine O_n ?_
    rw [c1]
    repeat' (first | refine go ?_ | intro _ | (apply cG; first | refine cT ?_ | refine cF ?_ | refine cS (fun _ => ?_) fun _ => ?_) | (apply gW; refine sW ?_) | (apply gI; refine sI ?_) | (apply gE; refine sE ?_) | (apply gP; refine sP ?_) | (apply gC; refine sC ?_) | (apply gD; refine sD ?_) | fail)
    refine O_d (dy_call ArgsI.pf (by first | exact rfl | trivial | (intro a b; rfl)) (rwithin_ct)) ?_; rintro _ _ ⟨_, ⟨rfl, hLL⟩, rfl⟩; replace hLL := hLL.symm; subst hLL; refine O_n ?_
    rw [c3]
    repeat' (first | refine go ?_ | intro _ | (apply cG; first | refine cT ?_ | refine cF ?_ | refine cS (fun _ => ?_) fun _ => ?_) | (apply gW; refine sW ?_) | (apply gI; refine sI ?_) | (apply gE; refine sE ?_) | (apply gP; refine sP ?_) | (apply gC; refine sC ?_) | (apply gD; refine sD ?_) | fail)
    refine O_d (dy_call ArgsI.pf (by first | exact rfl | trivial | (intro a b; rfl)) (rwithin_ct)) ?_; rintro _ _ ⟨_, ⟨rfl, hLL⟩, rfl⟩; replace hLL := hLL.symm; subst hLL; refine O_n ?_
    rw [c4]
    repeat' (first | refine go ?_ | intro _ | (apply cG; first | refine cT ?_ | refine cF ?_ | refine cS (fun _ => ?_) fun _ => ?_) | (apply gW; refine sW ?_) | (apply gI; refine sI ?_) | (apply gE; refine sE ?_) | (apply gP; refine sP ?_) | (apply gC; refine sC ?_) | (apply gD; refine sD ?_) | fail)
    refine E_res1 (by rfl) (by rfl) ⟨R, rfl, rfl, rfl, rfl, rfl⟩ Sb
  | true =>
  have harg : argE id x = true := by
    have g1 := of_decide_eq_true c1
    have g3 := of_decide_eq_true c3
    have g4 := of_decide_eq_true c4
    unfold argE daysF
    rw [decide_eq_true ⟨g1.1, g1.2, c2⟩, decide_eq_true ⟨g3.1, g4.1, g4.2⟩]
    rfl
  refine CT_enter Try.func20 rfl ?_; (simp only [Try.ntmps20, List.size_toArray, List.length_cons, List.length_nil, Nat.reduceAdd, Nat.reduceSub, Array.replicate_succ, Array.replicate_zero, List.push_toArray, List.append_toArray, List.nil_append, List.cons_append])
  repeat' (first | refine go ?_ | intro _ | (apply cG; first | refine cT ?_ | refine cF ?_ | refine cS (fun _ => ?_) fun _ => ?_) | (apply gW; refine sW ?_) | (apply gI; refine sI ?_) | (apply gE; refine sE ?_) | (apply gP; refine sP ?_) | (apply gC; refine sC ?_) | (apply gD; refine sD ?_) | fail)
  refine O_d (dy_call ArgsI.pf (by first | exact rfl | trivial | (intro a b; rfl)) (rValid_ct (b := x.b))) ?_; rintro _ _ ⟨_, ⟨rfl, hLL⟩, rfl⟩; replace hLL := hLL.symm; subst hLL; refine O_n ?_
  rw [decide_eq_true c2]
  repeat' (first | refine go ?_ | intro _ | (apply cG; first | refine cT ?_ | refine cF ?_ | refine cS (fun _ => ?_) fun _ => ?_) | (apply gW; refine sW ?_) | (apply gI; refine sI ?_) | (apply gE; refine sE ?_) | (apply gP; refine sP ?_) | (apply gC; refine sC ?_) | (apply gD; refine sD ?_) | fail)
  refine O_d (dy_call ArgsI.pf (by first | exact rfl | trivial | (intro a b; rfl)) (rwithin_ct)) ?_; rintro _ _ ⟨_, ⟨rfl, hLL⟩, rfl⟩; replace hLL := hLL.symm; subst hLL; refine O_n ?_
  rw [c1]
  repeat' (first | refine go ?_ | intro _ | (apply cG; first | refine cT ?_ | refine cF ?_ | refine cS (fun _ => ?_) fun _ => ?_) | (apply gW; refine sW ?_) | (apply gI; refine sI ?_) | (apply gE; refine sE ?_) | (apply gP; refine sP ?_) | (apply gC; refine sC ?_) | (apply gD; refine sD ?_) | fail)
  refine O_d (dy_call ArgsI.pf (by first | exact rfl | trivial | (intro a b; rfl)) (rwithin_ct)) ?_; rintro _ _ ⟨_, ⟨rfl, hLL⟩, rfl⟩; replace hLL := hLL.symm; subst hLL; refine O_n ?_
  rw [c3]
  repeat' (first | refine go ?_ | intro _ | (apply cG; first | refine cT ?_ | refine cF ?_ | refine cS (fun _ => ?_) fun _ => ?_) | (apply gW; refine sW ?_) | (apply gI; refine sI ?_) | (apply gE; refine sE ?_) | (apply gP; refine sP ?_) | (apply gC; refine sC ?_) | (apply gD; refine sD ?_) | fail)
  refine O_d (dy_call ArgsI.pf (by first | exact rfl | trivial | (intro a b; rfl)) (rwithin_ct)) ?_; rintro _ _ ⟨_, ⟨rfl, hLL⟩, rfl⟩; replace hLL := hLL.symm; subst hLL; refine O_n ?_
  rw [c4]
  repeat' (first | refine go ?_ | intro _ | (apply cG; first | refine cT ?_ | refine cF ?_ | refine cS (fun _ => ?_) fun _ => ?_) | (apply gW; refine sW ?_) | (apply gI; refine sI ?_) | (apply gE; refine sE ?_) | (apply gP; refine sP ?_) | (apply gC; refine sC ?_) | (apply gD; refine sD ?_) | fail)
  refine O_d (dy_call ArgsI.pf (by first | exact rfl | trivial | (intro a b; rfl)) (CT.pull (i := 1) (by rfl) (rfind_ct (R := R) (id := id) (by omega)))) ?_; rintro _ _ ⟨_, ⟨rfl, rfl⟩, rfl⟩; refine O_n ?_
  rcases find_has (l := R.l) (id := id) with ⟨c5, hf⟩ | ⟨q, c5, hq, hf⟩
  rotate_left
  · have e1 : addE R.l id x = 8 := by unfold addE; rw [if_pos harg, if_pos c5]
    have e2 : addL R.l id x = R.l := by unfold addL; rw [if_neg (by rw [e1]; decide)]
    rw [e1, e2, hf]
    repeat' (first | refine go ?_ | intro _ | (apply cG; first | refine cT ?_ | refine cF ?_ | refine cS (fun _ => ?_) fun _ => ?_) | (apply gW; refine sW ?_) | (apply gI; refine sI ?_) | (apply gE; refine sE ?_) | (apply gP; refine sP ?_) | (apply gC; refine sC ?_) | (apply gD; refine sD ?_) | fail)
    refine E_res1 (by rfl) (by rfl) ⟨R, rfl, rfl, rfl, rfl, rfl⟩ Sb
  rw [hf]
  refine O_sub rtA_open ?_
  obtain ⟨p, A, c, l, lk⟩ := R
  dsimp only at *
  by_cases c6 : 65536 ≤ l.length
  · have e1 : addE l id x = 4 := by unfold addE; rw [if_pos harg, if_neg (by rw [c5]; decide), if_pos c6]
    have e2 : addL l id x = l := by unfold addL; rw [if_neg (by rw [e1]; decide)]
    rw [e1, e2]
    repeat' (first | refine go ?_ | intro _ | (apply cG; first | refine cT ?_ | refine cF ?_ | refine cS (fun _ => ?_) fun _ => ?_) | (apply gW; refine sW ?_) | (apply gI; refine sI ?_) | (apply gE; refine sE ?_) | (apply gP; refine sP ?_) | (apply gC; refine sC ?_) | (apply gD; refine sD ?_) | fail)
    refine E_res1 (by rfl) (by rfl) ⟨⟨p, A, c, l, lk⟩, rfl, rfl, rfl, rfl, rfl⟩ (Sub.trans Sb rtA_close)
  have e1 : addE l id x = 0 := by unfold addE; rw [if_pos harg, if_neg (by rw [c5]; decide), if_neg c6]
  have e2 : addL l id x = insE l (id, x) := by unfold addL; rw [if_pos e1]
  rw [e1, e2]
  repeat' (first | ((fail_if_success apply AtE); refine go ?_) | intro _ | (apply cG; first | refine cT ?_ | refine cF ?_ | refine cS (fun _ => ?_) fun _ => ?_) | (apply gW; refine sW ?_) | (apply gI; refine sI ?_) | (apply gE; refine sE ?_) | (apply gP; refine sP ?_) | (apply gC; refine sC ?_) | (apply gD; refine sD ?_) | fail)
  refine go ?_
  repeat' (first | ((fail_if_success apply AtE); refine go ?_) | intro _ | (apply cG; first | refine cT ?_ | refine cF ?_ | refine cS (fun _ => ?_) fun _ => ?_) | (apply gW; refine sW ?_) | (apply gI; refine sI ?_) | (apply gE; refine sE ?_) | (apply gP; refine sP ?_) | (apply gC; refine sC ?_) | (apply gD; refine sD ?_) | fail)
  refine go ?_
  repeat' (first | ((fail_if_success apply AtE); refine go ?_) | intro _ | (apply cG; first | refine cT ?_ | refine cF ?_ | refine cS (fun _ => ?_) fun _ => ?_) | (apply gW; refine sW ?_) | (apply gI; refine sI ?_) | (apply gE; refine sE ?_) | (apply gP; refine sP ?_) | (apply gC; refine sC ?_) | (apply gD; refine sD ?_) | fail)
  refine go ?_
  repeat' (first | ((fail_if_success apply AtE); refine go ?_) | intro _ | (apply cG; first | refine cT ?_ | refine cF ?_ | refine cS (fun _ => ?_) fun _ => ?_) | (apply gW; refine sW ?_) | (apply gI; refine sI ?_) | (apply gE; refine sE ?_) | (apply gP; refine sP ?_) | (apply gC; refine sC ?_) | (apply gD; refine sD ?_) | fail)
  refine go ?_
  repeat' (first | ((fail_if_success apply AtE); refine go ?_) | intro _ | (apply cG; first | refine cT ?_ | refine cF ?_ | refine cS (fun _ => ?_) fun _ => ?_) | (apply gW; refine sW ?_) | (apply gI; refine sI ?_) | (apply gE; refine sE ?_) | (apply gP; refine sP ?_) | (apply gC; refine sC ?_) | (apply gD; refine sD ?_) | fail)
  refine go ?_; refine go ?_; refine C_join (κ := Nat) [false, false, false, false, false, false, false, false, false, false, false, false, true, false, false, false, false, false, false, false, false, false, false, false, false, false, false, false, false, false, false, false, false, false, false, false, false, false, false, false, false, false, false, false, true, true, true, true, true, true, true, true, true, true, true, true, true, true, true, true, true, true, true, true, true, false, false, false, false, false, false, false, false, false, false, false, false, false, false, false, false, false, false, false, false, false, false, false, false, false, false] (fun k => [(12, .int .i64 (k : Int))]) (fun k => []) (fun k => k ≤ l.length ∧ l.takeWhile (fun a => decide (a.1 < id)) = l.take k ∧ l.dropWhile (fun a => decide (a.1 < id)) = l.drop k) ?_ ?_
  · refine go ?_
    refine C_loopS (κ := Nat) [false, false, false, false, false, false, false, false, false, false, false, false, true, false, false, false, false, false, false, false, false, false, false, false, false, false, false, false, false, false, false, false, false, false, false, false, false, false, false, false, false, false, false, false, true, true, true, true, true, true, true, true, true, true, true, true, true, true, true, true, true, true, true, true, true, false, false, false, false, false, false, false, false, false, false, false, false, false, false, false, false, false, false, false, false, false, false, false, false, false, false] (fun k => [(12, .int .i64 (k : Int))]) (fun k => []) (fun k => k ≤ l.length ∧ ∀ a ∈ l.take k, (fun a : Ent => decide (a.1 < id)) a = true) (fun k => l.length - k) 0 ⟨Nat.zero_le _, fun a h => (by cases h)⟩ ⟨rfl, trivial⟩ ?_
    rintro k u ⟨hk, hall⟩
    ((try dsimp only); refine C_n ?_; (try simp only [Nat.reduceAdd, Nat.zero_add]))
    by_cases hkl : k < l.length
    rotate_left
    · obtain rfl : k = l.length := by omega
      rw [List.take_length] at hall
      repeat' (first | refine go ?_ | intro _ | (apply cG; first | refine cT ?_ | refine cF ?_ | refine cS (fun _ => ?_) fun _ => ?_) | (apply gW; refine sW ?_) | (apply gI; refine sI ?_) | (apply gE; refine sE ?_) | (apply gP; refine sP ?_) | (apply gC; refine sC ?_) | (apply gD; refine sD ?_) | fail)
      refine E_join l.length ⟨Nat.le_refl _, ?_, ?_⟩ ⟨rfl, trivial⟩
      · rw [List.take_length]; exact (tw_all hall).1
      · rw [List.drop_length]; exact (tw_all hall).2
    obtain ⟨y, hy⟩ : ∃ y, l[k]? = some y := ⟨_, List.getElem?_eq_getElem hkl⟩
    have hay : At l k y := ⟨hy⟩
    obtain ⟨t1, t2⟩ := take_step hy hall
    by_cases hyi : y.1 < id
    · repeat' (first | refine go ?_ | intro _ | (apply cG; first | refine cT ?_ | refine cF ?_ | refine cS (fun _ => ?_) fun _ => ?_) | (apply gW; refine sW ?_) | (apply gI; refine sI ?_) | (apply gE; refine sE ?_) | (apply gP; refine sP ?_) | (apply gC; refine sC ?_) | (apply gD; refine sD ?_) | fail)
      exact E_round (k + 1) ⟨hkl, t1 (decide_eq_true hyi)⟩ (by omega) ⟨rfl, trivial⟩ Sb
    · obtain ⟨t3, t4⟩ := t2 (fun h => hyi (of_decide_eq_true h))
      repeat' (first | refine go ?_ | intro _ | (apply cG; first | refine cT ?_ | refine cF ?_ | refine cS (fun _ => ?_) fun _ => ?_) | (apply gW; refine sW ?_) | (apply gI; refine sI ?_) | (apply gE; refine sE ?_) | (apply gP; refine sP ?_) | (apply gC; refine sC ?_) | (apply gD; refine sD ?_) | fail)
      exact E_join k ⟨hk, t3, t4⟩ ⟨rfl, trivial⟩
  rintro k u ⟨hk, htw, hdw⟩
  ((try dsimp only); refine C_n ?_; (try simp only [Nat.reduceAdd, Nat.zero_add]))
  have hins : insE l (id, x) = l.take k ++ (id, x) :: l.drop k := by unfold insE; rw [htw, hdw]
  rw [hins]
  have htl : (l.take k).length = k := by rw [List.length_take]; omega
  have hdl : (l.drop k).length = l.length - k := List.length_drop
  clear htw hdw
  obtain ⟨l1, hl1⟩ : ∃ l1, l.take k = l1 := ⟨_, rfl⟩
  obtain ⟨l2, hl2⟩ : ∃ l2, l.drop k = l2 := ⟨_, rfl⟩
  rw [hl1] at htl hins ⊢
  rw [hl2] at hdl hins ⊢
  subst htl
  repeat' (first | refine go ?_ | intro _ | (apply cG; first | refine cT ?_ | refine cF ?_ | refine cS (fun _ => ?_) fun _ => ?_) | (apply gW; refine sW ?_) | (apply gI; refine sI ?_) | (apply gE; refine sE ?_) | (apply gP; refine sP ?_) | (apply gC; refine sC ?_) | (apply gD; refine sD ?_) | fail)
  rename_i pb
  refine C_ownnil 38 eTh ?_
  refine cap_of (.tail _ (.tail _ (.head _))) fun hcap => ?_
  refine C_sub (cutN (N := l1.length) (.tail _ (.tail _ (.head _))) hk) ?_
  rw [hl1]
  have hdd : List.take (l.length - l1.length) (List.drop l1.length l) = l2 := by rw [hl2, ← hdl, List.take_length]
  refine C_drawU (n := 99) [cel p [.slice A l.length c, .int .i64 lk] 36, cel pb [.int .i64 x.b.x0, .int .i64 x.b.y0, .int .i64 x.b.x1, .int .i64 x.b.y1] 31] (.two [(0, 1), (1, 1), (2, 1), (3, 1), (4, 1), (5, 1), (6, 1), (8, 1), (9, 1), (10, 1), (11, 1), (12, 1)] 7 (.leaf [(13, 0), (14, 0), (15, 1)]) 13 (.leaf [(7, 0), (14, 0), (15, 1)])) (by kernel_rfl) (by kernel_rfl) Sb ?_
  refine DT_two ?_
  repeat' (first | refine go ?_ | intro _ | (apply cG; first | refine cT ?_ | refine cF ?_ | refine cS (fun _ => ?_) fun _ => ?_) | (apply gW; refine sW ?_) | (apply gI; refine sI ?_) | (apply gE; refine sE ?_) | (apply gP; refine sP ?_) | (apply gC; refine sC ?_) | (apply gD; refine sD ?_) | fail)
  refine D_op rfl ?_; refine X_s (sv_sliceH (h' := l1.length)) ?_
  repeat' (first | refine go ?_ | intro _ | (apply cG; first | refine cT ?_ | refine cF ?_ | refine cS (fun _ => ?_) fun _ => ?_) | (apply gW; refine sW ?_) | (apply gI; refine sI ?_) | (apply gE; refine sE ?_) | (apply gP; refine sP ?_) | (apply gC; refine sC ?_) | (apply gD; refine sD ?_) | fail)
  refine E_two ?_ ?_
  · repeat' (first | refine go ?_ | intro _ | (apply cG; first | refine cT ?_ | refine cF ?_ | refine cS (fun _ => ?_) fun _ => ?_) | (apply gW; refine sW ?_) | (apply gI; refine sI ?_) | (apply gE; refine sE ?_) | (apply gP; refine sP ?_) | (apply gC; refine sC ?_) | (apply gD; refine sD ?_) | fail)
    refine E_way (DT_leaf ?_)
    refine D_d rfl (dy_lit1 (R := eTh) ((id, x) : Ent) (hcs := by rfl) (hel := fun _ _ _ => by rfl)) ?_; rintro _ _ ⟨_, rfl, rfl⟩; refine ⟨(by first | exact .inl rfl | exact .inr Sb), D_n ?_⟩
    repeat' (first | refine go ?_ | intro _ | (apply cG; first | refine cT ?_ | refine cF ?_ | refine cS (fun _ => ?_) fun _ => ?_) | (apply gW; refine sW ?_) | (apply gI; refine sI ?_) | (apply gE; refine sE ?_) | (apply gP; refine sP ?_) | (apply gC; refine sC ?_) | (apply gD; refine sD ?_) | fail)
    repeat' (first | refine go ?_ | intro _ | (apply cG; first | refine cT ?_ | refine cF ?_ | refine cS (fun _ => ?_) fun _ => ?_) | (apply gW; refine sW ?_) | (apply gI; refine sI ?_) | (apply gE; refine sE ?_) | (apply gP; refine sP ?_) | (apply gC; refine sC ?_) | (apply gD; refine sD ?_) | fail)
    rw [hdd]
    apply gP
    refine sP (r := l1.length + 1 + l2.length) ?_ ⟨by simp, by omega, by omega⟩
    repeat' (first | refine go ?_ | intro _ | (apply cG; first | refine cT ?_ | refine cF ?_ | refine cS (fun _ => ?_) fun _ => ?_) | (apply gW; refine sW ?_) | (apply gI; refine sI ?_) | (apply gE; refine sE ?_) | (apply gP; refine sP ?_) | (apply gC; refine sC ?_) | (apply gD; refine sD ?_) | fail)
    rename_i A9 c9
    refine E_frz 3 ?_
    rw [show [] ++ l1 ++ [(id, x)] ++ l2 = l1 ++ (id, x) :: l2 from by simp, show l1.length + 1 + l2.length = (l1 ++ (id, x) :: l2).length from by simp; omega]
    refine E_res1 (by rfl) (by rfl) ⟨⟨p, A9, c9, l1 ++ (id, x) :: l2, lk⟩, rfl, rfl, rfl, rfl, rfl⟩ ?_
    exact Sub.trans (B := cel p [.slice A9 (l1 ++ (id, x) :: l2).length c9, .int .i64 lk] 36 :: rd eTh (.slice A9 (l1 ++ (id, x) :: l2).length c9) (l1 ++ (id, x) :: l2) :: L) Sb (rtA_close (R := ⟨p, A9, c9, l1 ++ (id, x) :: l2, lk⟩))
  · refine D_d rfl (dy_lit1 (R := eTh) ((id, x) : Ent) (hcs := by rfl) (hel := fun _ _ _ => by rfl)) ?_; rintro _ _ ⟨_, rfl, rfl⟩; refine ⟨(by first | exact .inl rfl | exact .inr Sb), D_n ?_⟩
    repeat' (first | refine go ?_ | intro _ | (apply cG; first | refine cT ?_ | refine cF ?_ | refine cS (fun _ => ?_) fun _ => ?_) | (apply gW; refine sW ?_) | (apply gI; refine sI ?_) | (apply gE; refine sE ?_) | (apply gP; refine sP ?_) | (apply gC; refine sC ?_) | (apply gD; refine sD ?_) | fail)
    refine E_way (DT_leaf ?_)
    repeat' (first | refine go ?_ | intro _ | (apply cG; first | refine cT ?_ | refine cF ?_ | refine cS (fun _ => ?_) fun _ => ?_) | (apply gW; refine sW ?_) | (apply gI; refine sI ?_) | (apply gE; refine sE ?_) | (apply gP; refine sP ?_) | (apply gC; refine sC ?_) | (apply gD; refine sD ?_) | fail)
    repeat' (first | refine go ?_ | intro _ | (apply cG; first | refine cT ?_ | refine cF ?_ | refine cS (fun _ => ?_) fun _ => ?_) | (apply gW; refine sW ?_) | (apply gI; refine sI ?_) | (apply gE; refine sE ?_) | (apply gP; refine sP ?_) | (apply gC; refine sC ?_) | (apply gD; refine sD ?_) | fail)
    rw [hdd]
    apply gP
    refine sP (r := l1.length + 1 + l2.length) ?_ ⟨by simp, by omega, by omega⟩
    repeat' (first | refine go ?_ | intro _ | (apply cG; first | refine cT ?_ | refine cF ?_ | refine cS (fun _ => ?_) fun _ => ?_) | (apply gW; refine sW ?_) | (apply gI; refine sI ?_) | (apply gE; refine sE ?_) | (apply gP; refine sP ?_) | (apply gC; refine sC ?_) | (apply gD; refine sD ?_) | fail)
    rename_i A9 c9
    refine E_frz 3 ?_
    rw [show [] ++ l1 ++ [(id, x)] ++ l2 = l1 ++ (id, x) :: l2 from by simp, show l1.length + 1 + l2.length = (l1 ++ (id, x) :: l2).length from by simp; omega]
    refine E_res1 (by rfl) (by rfl) ⟨⟨p, A9, c9, l1 ++ (id, x) :: l2, lk⟩, rfl, rfl, rfl, rfl, rfl⟩ ?_
    exact Sub.trans (B := cel p [.slice A9 (l1 ++ (id, x) :: l2).length c9, .int .i64 lk] 36 :: rd eTh (.slice A9 (l1 ++ (id, x) :: l2).length c9) (l1 ++ (id, x) :: l2) :: L) Sb (rtA_close (R := ⟨p, A9, c9, l1 ++ (id, x) :: l2, lk⟩))
theorem rRemove_ct {R : RM} {id : Int} (hl : WFL R.l) : CT Try.prog 23 #[.pointer (some ⟨R.p, 0, none⟩), .int .i64 id] W0 (rtA R :: L) fun r L' => ∃ R' : RM, R'.p = R.p ∧ R'.lk = R.lk ∧ R'.l = delE id R.l ∧ r = .int .i64 (remE R.l id) ∧ L' = rtA R' :: L := by
  have hln := hl.n
  refine CT_enter Try.func23 rfl ?_; (simp only [Try.ntmps23, List.size_toArray, List.length_cons, List.length_nil, Nat.reduceAdd, Nat.reduceSub, Array.replicate_succ, Array.replicate_zero, List.push_toArray, List.append_toArray, List.nil_append, List.cons_append])
  repeat' (first | refine go ?_ | intro _ | (apply cG; first | refine cT ?_ | refine cF ?_ | refine cS (fun _ => ?_) fun _ => ?_) | (apply gW; refine sW ?_) | (apply gI; refine sI ?_) | (apply gE; refine sE ?_) | (apply gP; refine sP ?_) | (apply gC; refine sC ?_) | (apply gD; refine sD ?_) | fail)
  refine O_d (dy_call ArgsI.pf (by first | exact rfl | trivial | (intro a b; rfl)) (rfind_ct (R := R) (id := id) (by omega))) ?_; rintro _ _ ⟨_, ⟨rfl, rfl⟩, rfl⟩; refine O_n ?_
  rcases find_has (l := R.l) (id := id) with ⟨c5, hf⟩ | ⟨q, c5, hq, hf⟩
  · have e1 : remE R.l id = 7 := by unfold remE; rw [if_neg (by rw [c5]; decide)]
    rw [hf, e1, delE_none (hasK_false c5)]
    repeat' (first | refine go ?_ | intro _ | (apply cG; first | refine cT ?_ | refine cF ?_ | refine cS (fun _ => ?_) fun _ => ?_) | (apply gW; refine sW ?_) | (apply gI; refine sI ?_) | (apply gE; refine sE ?_) | (apply gP; refine sP ?_) | (apply gC; refine sC ?_) | (apply gD; refine sD ?_) | fail)
    refine E_res1 (by rfl) (by rfl) ⟨R, rfl, rfl, rfl, rfl, rfl⟩ Sb
  have e1 : remE R.l id = 0 := by unfold remE; rw [if_pos c5]
  have hd := delM_eq (id := id) hl.keys
  unfold delM at hd
  rw [hq] at hd
  dsimp only at hd
  rw [List.eraseIdx_eq_take_drop_succ] at hd
  have hqlt := (posM_lt hq).2.1
  rw [Nat.zero_add] at hqlt
  rw [hf, e1]
  refine O_sub rtA_open ?_
  obtain ⟨p, A, c, l, lk⟩ := R
  dsimp only at *
  obtain ⟨k, hk⟩ : ∃ k, q.1 = k := ⟨_, rfl⟩
  rw [hk] at hd hqlt ⊢
  have htl : (l.take k).length = k := by rw [List.length_take]; omega
  have hdl : (l.drop (k + 1)).length = l.length - (k + 1) := List.length_drop
  have hdd : List.take (l.length - (k + 1)) (List.drop (k + 1) l) = l.drop (k + 1) := by rw [← hdl, List.take_length]
  refine O_fact (φ := l.length ≤ c) (fun w s => by
    obtain ⟨A', c', e, h⟩ := (Src.sl (.inl (.tail _ (.head _)) : Src (_ :: rd eTh (.slice A l.length c) l :: L) eTh (.slice A l.length c) l) s).form
    injection e with e1 e2 e3
    omega) fun hcap => ?_
  refine O_ownnil 38 eTh ?_
  repeat' (first | refine go ?_ | intro _ | (apply cG; first | refine cT ?_ | refine cF ?_ | refine cS (fun _ => ?_) fun _ => ?_) | (apply gW; refine sW ?_) | (apply gI; refine sI ?_) | (apply gE; refine sE ?_) | (apply gP; refine sP ?_) | (apply gC; refine sC ?_) | (apply gD; refine sD ?_) | fail)
  rw [show List.drop 0 l = l from rfl]
  apply gP
  refine sP (r := k) ?_ ⟨by rw [htl]; simp, by omega, by omega⟩
  repeat' (first | refine go ?_ | intro _ | (apply cG; first | refine cT ?_ | refine cF ?_ | refine cS (fun _ => ?_) fun _ => ?_) | (apply gW; refine sW ?_) | (apply gI; refine sI ?_) | (apply gE; refine sE ?_) | (apply gP; refine sP ?_) | (apply gC; refine sC ?_) | (apply gD; refine sD ?_) | fail)
  rw [hdd]
  apply gP
  refine sP (r := k + (l.length - (k + 1))) ?_ ⟨by rw [List.length_append, htl, hdl]; simp, by omega, by omega⟩
  repeat' (first | refine go ?_ | intro _ | (apply cG; first | refine cT ?_ | refine cF ?_ | refine cS (fun _ => ?_) fun _ => ?_) | (apply gW; refine sW ?_) | (apply gI; refine sI ?_) | (apply gE; refine sE ?_) | (apply gP; refine sP ?_) | (apply gC; refine sC ?_) | (apply gD; refine sD ?_) | fail)
  rename_i A9 c9
  have hlen : k + (l.length - (k + 1)) = (delE id l).length := by rw [← hd, List.length_append, htl, hdl]
  rw [show [] ++ List.take k l ++ List.drop (k + 1) l = delE id l from by rw [← hd]; rfl, hlen]
  refine E_sub (S := own 38 eTh (.slice A9 (delE id l).length c9) (delE id l) :: cel p [.slice A9 (delE id l).length c9, .int .i64 lk] 36 :: L) Sb ?_
  refine E_frz 0 ?_
  refine E_res1 (by rfl) (by rfl) ⟨⟨p, A9, c9, delE id l, lk⟩, rfl, rfl, rfl, rfl, rfl⟩ ?_
  exact Sub.trans (B := cel p [.slice A9 (delE id l).length c9, .int .i64 lk] 36 :: rd eTh (.slice A9 (delE id l).length c9) (delE id l) :: L) Sb (rtA_close (R := ⟨p, A9, c9, delE id l, lk⟩))
theorem rCopy_ct {R : RM} (hl : R.l.length ≤ 1000000) : CT Try.prog 29 #[.pointer (some ⟨R.p, 0, none⟩)] W0 (rtA R :: L) fun r L' => ∃ R' : RM, R'.lk = R.lk ∧ R'.l = R.l ∧ r = .pointer (some ⟨R'.p, 0, none⟩) ∧ L' = rtA R' :: rtA R :: L := by
  refine CT.sub ?_ rtA_open
  obtain ⟨p, A, c, l, lk⟩ := R
  dsimp only at hl ⊢
  refine CT_enter Try.func29 rfl ?_; (simp only [Try.ntmps29, List.size_toArray, List.length_cons, List.length_nil, Nat.reduceAdd, Nat.reduceSub, Array.replicate_succ, Array.replicate_zero, List.push_toArray, List.append_toArray, List.nil_append, List.cons_append])
  repeat' (first | refine go ?_ | intro _ | (apply cG; first | refine cT ?_ | refine cF ?_ | refine cS (fun _ => ?_) fun _ => ?_) | (apply gW; refine sW ?_) | (apply gI; refine sI ?_) | (apply gE; refine sE ?_) | (apply gP; refine sP ?_) | (apply gC; refine sC ?_) | (apply gD; refine sD ?_) | fail)
  rename_i p2
  refine C_ownnil 38 eTh ?_
  refine C_draw (n := 12) [cel p2 [.slice none 0 0, .int .i64 lk] 36, cel p [.slice A l.length c, .int .i64 lk] 36] [(0, 1), (1, 1), (2, 1), (3, 1), (4, 1), (5, 1), (6, 1), (7, 1), (8, 1), (9, 0), (10, 1), (11, 1), (12, 0)] (by kernel_rfl) (by kernel_rfl) Sb ?_
  repeat' (first | refine go ?_ | intro _ | (apply cG; first | refine cT ?_ | refine cF ?_ | refine cS (fun _ => ?_) fun _ => ?_) | (apply gW; refine sW ?_) | (apply gI; refine sI ?_) | (apply gE; refine sE ?_) | (apply gP; refine sP ?_) | (apply gC; refine sC ?_) | (apply gD; refine sD ?_) | fail)
  rename_i A9 c9
  rw [List.nil_append]
  refine E_frz 0 ?_
  refine E_res1 (by rfl) (by rfl) ⟨⟨p2, A9, c9, l, lk⟩, rfl, rfl, rfl, rfl⟩ ?_
  exact Sub.trans (B := cel p [.slice A l.length c, .int .i64 lk] 36 :: rd eTh (.slice A l.length c) l :: cel p2 [.slice A9 l.length c9, .int .i64 lk] 36 :: rd eTh (.slice A9 l.length c9) l :: L) Sb (Sub.trans (rtA_close (R := ⟨p, A, c, l, lk⟩)) (Sub.trans (B := cel p2 [.slice A9 l.length c9, .int .i64 lk] 36 :: rd eTh (.slice A9 l.length c9) l :: rtA ⟨p, A, c, l, lk⟩ :: L) Sb (rtA_close (R := ⟨p2, A9, c9, l, lk⟩))))
end
end Go.Proofs.Ytnjjifikogblpaa
