/-
  Walks: the reference's search.
-/
import Derived.Test.YteeapkfakehocaaMU
namespace Go.Proofs.Yteeapkfakehocaa
open Go Go.RowKit
set_option linter.unusedVariables false
set_option linter.unusedSimpArgs false
set_option maxRecDepth 20000
set_option synthInstance.maxSize 100000
set_option synthInstance.maxHeartbeats 400000
def stepR (t : List BX) (ls : List AK) (w : Int) (now : List Int) (bx : List BX) (s : SrS) (c : Int × BX) : SrS := if freeF c.2 bx then enterR t ls w (now ++ [c.1]) (bx ++ [c.2]) s else s
theorem enterR_cons {t : List BX} {a : AK} {ls : List AK} {w : Int} {now : List Int} {bx : List BX} {s : SrS} : enterR t (a :: ls) w now bx s = if w + restF (a :: ls) ≤ s.most then ⟨s.best, s.most, s.steps + 1⟩ else enterR t ls w (now ++ [-1]) bx ((choF a t).foldl (stepR t ls (w + a.g) now bx) ⟨s.best, s.most, s.steps + 1⟩) := rfl
theorem E_res0 {P : Program} {W0 : World} {L L2 : List HP} {a : Act} {fn : Func} {R : Value → List HP → Prop} {e : Exit} (he : e = .normal ∨ e = .ret) (hr : fn.results = #[]) (hd : a.defers = []) (hR : R (.tuple #[]) L2) (hS : Sub L L2) : EL W0 L (bodyPost P fn (RR W0 R)) e a :=
  E_sub hS (E_end0 he hr hd hR)
/-- the state before position k -/
def skF (t : List BX) (a : AK) (ls : List AK) (w : Int) (now : List Int) (bx : List BX) (s : SrS) (k : Nat) : SrS := (choN a t k).foldl (stepR t ls (w + a.g) now bx) ⟨s.best, s.most, s.steps + 1⟩
theorem skF_succ {t : List BX} {a : AK} {ls : List AK} {w : Int} {now : List Int} {bx : List BX} {s : SrS} {k : Nat} : skF t a ls w now bx s (k + 1) = if (boxF a k).2 = 0 ∧ freeF (boxF a k).1 t = true then stepR t ls (w + a.g) now bx (skF t a ls w now bx s k) ((k : Int), (boxF a k).1) else skF t a ls w now bx s k := by
  unfold skF
  rw [choN_succ, List.foldl_append]
  split <;> rfl
/-- what the reference's search leaves -/
def EnQ (l : List AK) (t : List BX) (Al Ax : Option Addr) (cl cx p : Nat) (L : List HP) (q : SrS) (r : Value) (L' : List HP) : Prop :=
  r = .tuple #[] ∧ ∃ (An' : Option Addr) (nn' cn' : Nat) (Aq' : Option Addr) (nq' cq' : Nat) (Ab' : Option Addr) (cb' : Nat), L' = cel p [.slice Al l.length cl, .slice Ax t.length cx, .slice An' nn' cn', .slice Aq' nq' cq', .slice Ab' q.best.length cb', .int .i64 q.most, .int .i64 (q.steps : Int)] 89 :: rd eI (.slice Ab' q.best.length cb') q.best :: L
section
variable {W0 : World}
section
variable {l : List AK} {t : List BX} {Al Ax : Option Addr} {cl cx p : Nat}
set_option maxHeartbeats 4000000 in
theorem renter_ct (hl : l.length ≤ 7) (hg : ∀ a ∈ l, a.good) (ht : t.length ≤ 256) : ∀ (ls : List AK) (i : Nat) (L : List HP), l.drop i = ls → i + ls.length = l.length → rd eAK (.slice Al l.length cl) l ∈ L → rd eBX (.slice Ax t.length cx) t ∈ L →
    ∀ (w : Int) (now : List Int) (bx : List BX) (s : SrS) (An : Option Addr) (cn : Nat) (Aq : Option Addr) (cq : Nat) (Ab : Option Addr) (cb : Nat), now.length ≤ i → bx.length ≤ i → 0 ≤ w → w + restF ls ≤ 100000000 → s.steps + stepsB ls.length ≤ 10000000 →
    CT Try.prog 47 #[.pointer (some ⟨p, 0, none⟩), .int .i64 (i : Int), .int .i64 w] W0 (cel p [.slice Al l.length cl, .slice Ax t.length cx, .slice An now.length cn, .slice Aq bx.length cq, .slice Ab s.best.length cb, .int .i64 s.most, .int .i64 (s.steps : Int)] 89 :: rd eI (.slice An now.length cn) now :: rd eBX (.slice Aq bx.length cq) bx :: rd eI (.slice Ab s.best.length cb) s.best :: L) (EnQ l t Al Ax cl cx p L (enterR t ls w now bx s))
  | [], i, L, hd, hi, hvl, hvt, w, now, bx, s, An, cn, Aq, cq, Ab, cb, hn, hb, hw, hwr, hst => by
    obtain rfl : i = l.length := by simpa using hi
    unfold EnQ enterR
    by_cases hws : w > s.most
    · rw [if_pos hws]
      dsimp only
      refine CT_enter Try.func47 rfl ?_; (simp only [Try.ntmps47, List.size_toArray, List.length_cons, List.length_nil, Nat.reduceAdd, Nat.reduceSub, Array.replicate_succ, Array.replicate_zero, List.push_toArray, List.append_toArray, List.nil_append, List.cons_append])
      repeat' (first | refine go ?_ | intro _ | (apply cG; first | refine cT ?_ | refine cF ?_ | refine cS (fun _ => ?_) fun _ => ?_) | (apply gW; refine sW ?_) | (apply gI; refine sI ?_) | (apply gE; refine sE ?_) | (apply gP; refine sP ?_) | (apply gC; refine sC ?_) | (apply gD; refine sD ?_) | fail)
      refine O_d (dy_lit0 eI rfl) ?_; rintro _ _ ⟨_, rfl, rfl⟩; refine O_n ?_
      repeat' (first | refine go ?_ | intro _ | (apply cG; first | refine cT ?_ | refine cF ?_ | refine cS (fun _ => ?_) fun _ => ?_) | (apply gW; refine sW ?_) | (apply gI; refine sI ?_) | (apply gE; refine sE ?_) | (apply gP; refine sP ?_) | (apply gC; refine sC ?_) | (apply gD; refine sD ?_) | fail)
      rename_i A2 c2
      refine E_frz 0 ?_
      refine E_res0 (.inr rfl) (by rfl) (by rfl) ⟨rfl, An, now.length, cn, Aq, bx.length, cq, A2, c2, rfl⟩ Sb
    · rw [if_neg hws]
      refine CT_enter Try.func47 rfl ?_; (simp only [Try.ntmps47, List.size_toArray, List.length_cons, List.length_nil, Nat.reduceAdd, Nat.reduceSub, Array.replicate_succ, Array.replicate_zero, List.push_toArray, List.append_toArray, List.nil_append, List.cons_append])
      repeat' (first | refine go ?_ | intro _ | (apply cG; first | refine cT ?_ | refine cF ?_ | refine cS (fun _ => ?_) fun _ => ?_) | (apply gW; refine sW ?_) | (apply gI; refine sI ?_) | (apply gE; refine sE ?_) | (apply gP; refine sP ?_) | (apply gC; refine sC ?_) | (apply gD; refine sD ?_) | fail)
      refine E_res0 (.inr rfl) (by rfl) (by rfl) ⟨rfl, An, now.length, cn, Aq, bx.length, cq, Ab, cb, rfl⟩ Sb
  | a :: ls, i, L, hd, hi, hvl, hvt, w, now, bx, s, An, cn, Aq, cq, Ab, cb, hn, hb, hw, hwr, hst => by
    have hlt : i < l.length := by rw [List.length_cons] at hi; omega
    have hli : l[i]? = some a := by
      have := congrArg List.head? hd
      rw [List.head?_drop] at this
      exact this
    have hal : At l i a := ⟨hli⟩
    have hag := (hg a (List.mem_of_getElem? hli)).2.2.2.2
    have hsb : stepsB (a :: ls).length = 1 + 5 * stepsB ls.length := rfl
    rw [hsb] at hst
    have hrn : 0 ≤ restF ls := restF_nn fun b hb => by
      have : b ∈ l := List.mem_of_mem_drop (i := i) (by rw [hd]; exact .tail _ hb)
      have := (hg b this).2.2.2.2
      omega
    have hrc := restF_cons (a := a) (ls := ls)
    have hgl := restF_le hg
    have hdi : restF (l.drop i) = a.g + restF ls := by rw [hd, hrc]
    rw [hrc] at hwr
    rw [enterR_cons, hrc]
    have hst1 : ((s.steps : Int) + 1) = ((s.steps + 1 : Nat) : Int) := by omega
    obtain ⟨q, hq0⟩ : ∃ q, (if w + (a.g + restF ls) ≤ s.most then (⟨s.best, s.most, s.steps + 1⟩ : SrS) else enterR t ls w (now ++ [-1]) bx ((choF a t).foldl (stepR t ls (w + a.g) now bx) ⟨s.best, s.most, s.steps + 1⟩)) = q := ⟨_, rfl⟩
    rw [hq0]
    replace hq0 := Lib.hid hq0
    refine CT.sub ?_ (sub_dup (.tail _ (.tail _ (.tail _ (.tail _ hvl)))))
    refine CT.sub ?_ (sub_dup (.tail _ (.tail _ (.tail _ (.tail _ (.tail _ hvt))))))
    refine CT_enter Try.func47 rfl ?_; (simp only [Try.ntmps47, List.size_toArray, List.length_cons, List.length_nil, Nat.reduceAdd, Nat.reduceSub, Array.replicate_succ, Array.replicate_zero, List.push_toArray, List.append_toArray, List.nil_append, List.cons_append])
    repeat' (first | refine go ?_ | intro _ | (apply cG; first | refine cT ?_ | refine cF ?_ | refine cS (fun _ => ?_) fun _ => ?_) | (apply gW; refine sW ?_) | (apply gI; refine sI ?_) | (apply gE; refine sE ?_) | (apply gP; refine sP ?_) | (apply gC; refine sC ?_) | (apply gD; refine sD ?_) | fail)
    refine C_loopS (κ := Nat × Int) [false, false, false, false, false, false, true, true, false, false, false, false, false, false, false, false, false, false, false, false, false, false, false, false, false, false, false, false, false, false, false, false, false, false, false, false, false, false, false, false, false, false, false, false, false, false, false, true, true, true, true, true, true, true, true, true, true, true, true, true, true, true, true, true, true, true, false, false, false, false, false, false, false, false, false, false, false, false, false, false, false, false, false, false, false, false, false, false, false, false, false, false, false, false, false, false, false, false, false, false, false, false, false, false, false, false, false, false, false, false, false, false, false, false, false, false, false, false, false, false, false, false, false, false, false, false, false, false, false, false, false, false, false, false, false, false, false, false, false, false, false, false, false, false, false, false, false, false, false, false, false, false, false, false, false, false, false, false, false, false, false, false, false, false, false, false, false, false] (fun k => [(6, .int .i64 k.2), (7, .int .i64 (k.1 : Int))]) (fun k => []) (fun k => i ≤ k.1 ∧ k.1 ≤ l.length ∧ 0 ≤ k.2 ∧ k.2 + restF (l.drop k.1) = a.g + restF ls) (fun k => l.length - k.1) (i, 0) ⟨Nat.le_refl _, by dsimp only; omega, Int.le_refl _, by dsimp only; omega⟩ ⟨rfl, rfl, trivial⟩ ?_
    rintro ⟨k, acc⟩ u ⟨hk1, hk2, hk3, hk4⟩
    dsimp only at hk1 hk2 hk3 hk4
    dsimp only
    ((try dsimp only); refine C_n ?_; (try simp only [Nat.reduceAdd, Nat.zero_add]))
    by_cases hkl : k < l.length
    · obtain ⟨x, hx⟩ : ∃ x, l[k]? = some x := ⟨_, List.getElem?_eq_getElem hkl⟩
      have hax : At l k x := ⟨hx⟩
      have hxg := (hg x (List.mem_of_getElem? hx)).2.2.2.2
      have hdk : restF (l.drop k) = x.g + restF (l.drop (k + 1)) := by
        rw [List.drop_eq_getElem_cons hkl, (List.getElem?_eq_some_iff.1 hx).2]
        exact restF_cons
      have hrk := restF_le (ls := l.drop (k + 1)) fun a ha => hg a (List.mem_of_mem_drop ha)
      repeat' (first | refine go ?_ | intro _ | (apply cG; first | refine cT ?_ | refine cF ?_ | refine cS (fun _ => ?_) fun _ => ?_) | (apply gW; refine sW ?_) | (apply gI; refine sI ?_) | (apply gE; refine sE ?_) | (apply gP; refine sP ?_) | (apply gC; refine sC ?_) | (apply gD; refine sD ?_) | fail)
      exact E_round (k + 1, acc + x.g) ⟨by dsimp only; omega, hkl, by dsimp only; omega, by dsimp only; omega⟩ (by dsimp only; omega) ⟨rfl, rfl, trivial⟩ Sb
    obtain rfl : k = l.length := by omega
    rw [List.drop_length] at hk4
    obtain rfl : acc = a.g + restF ls := by
      have : restF [] = 0 := rfl
      omega
    by_cases h2 : w + (a.g + restF ls) ≤ s.most
    · replace hq0 := hq0.out
      rw [if_pos h2] at hq0
      subst hq0
      repeat' (first | refine go ?_ | intro _ | (apply cG; first | refine cT ?_ | refine cF ?_ | refine cS (fun _ => ?_) fun _ => ?_) | (apply gW; refine sW ?_) | (apply gI; refine sI ?_) | (apply gE; refine sE ?_) | (apply gP; refine sP ?_) | (apply gC; refine sC ?_) | (apply gD; refine sD ?_) | fail)
      rw [hst1]
      refine E_res0 (.inr rfl) (by rfl) (by rfl) ⟨rfl, An, now.length, cn, Aq, bx.length, cq, Ab, cb, rfl⟩ Sb
    replace hq0 := hq0.out
    rw [if_neg h2] at hq0
    replace hq0 := Lib.hid hq0
    repeat' (first | refine go ?_ | intro _ | (apply cG; first | refine cT ?_ | refine cF ?_ | refine cS (fun _ => ?_) fun _ => ?_) | (apply gW; refine sW ?_) | (apply gI; refine sI ?_) | (apply gE; refine sE ?_) | (apply gP; refine sP ?_) | (apply gC; refine sC ?_) | (apply gD; refine sD ?_) | fail)
    refine C_loopS (κ := Nat × (Option Addr × Nat × Nat) × (Option Addr × Nat × Nat) × Option Addr × Nat) [false, false, false, false, false, false, false, false, false, false, true, true, true, false, false, false, false, false, false, false, false, false, false, false, false, false, false, false, false, false, false, false, false, false, false, false, false, false, false, false, false, false, false, false, false, false, false, false, false, false, false, false, false, false, false, false, false, false, false, false, false, false, false, false, false, false, false, false, false, false, false, false, false, false, false, false, false, false, false, false, false, false, true, true, true, true, true, true, true, true, true, true, true, true, true, true, true, true, true, true, true, true, true, true, true, true, true, true, true, true, true, true, true, true, true, true, true, true, true, true, true, true, true, true, true, true, true, true, true, true, true, true, true, true, true, true, true, true, true, true, true, true, true, true, true, true, true, false, false, false, false, false, false, false, false, false, false, false, false, false, false, false, false, false, false, false, false, false] (fun k => [(10, .int .i64 (k.1 : Int))]) (fun k => [(2, cel p [.slice Al l.length cl, .slice Ax t.length cx, .slice k.2.1.1 k.2.1.2.1 k.2.1.2.2, .slice k.2.2.1.1 k.2.2.1.2.1 k.2.2.1.2.2, .slice k.2.2.2.1 (skF t a ls w now bx s k.1).best.length k.2.2.2.2, .int .i64 (skF t a ls w now bx s k.1).most, .int .i64 ((skF t a ls w now bx s k.1).steps : Int)] 89), (5, rd eI (.slice k.2.2.2.1 (skF t a ls w now bx s k.1).best.length k.2.2.2.2) (skF t a ls w now bx s k.1).best)]) (fun k => k.1 ≤ 4 ∧ (skF t a ls w now bx s k.1).steps + (4 - k.1) * stepsB ls.length + stepsB ls.length ≤ 10000000) (fun k => 4 - k.1) (0, (An, now.length, cn), (Aq, bx.length, cq), Ab, cb) ⟨Nat.zero_le _, by show s.steps + 1 + 4 * stepsB ls.length + stepsB ls.length ≤ 10000000; omega⟩ ⟨rfl, trivial⟩ ?_
    rintro ⟨k, ⟨An2, nn2, cn2⟩, ⟨Aq2, nq2, cq2⟩, Ab2, cb2⟩ u2 ⟨hk4', hst2⟩
    dsimp only at hk4' hst2
    dsimp only
    have hsuc := skF_succ (t := t) (a := a) (ls := ls) (w := w) (now := now) (bx := bx) (s := s) (k := k)
    ((try dsimp only); refine C_n ?_; (try simp only [Nat.reduceAdd, Nat.zero_add]))
    by_cases hk : k < 4
    rotate_left
    · obtain rfl : k = 4 := by omega
      replace hq0 : enterR t ls w (now ++ [-1]) bx (skF t a ls w now bx s 4) = q := hq0.out
      obtain ⟨sk, hsk⟩ : ∃ sk, skF t a ls w now bx s 4 = sk := ⟨_, rfl⟩
      rw [hsk] at hst2 hq0 ⊢
      have hi1 : (i : Int) + 1 = ((i + 1 : Nat) : Int) := by omega
      have hnl1 : (now ++ [-1]).length = now.length + 1 := by rw [List.length_append]; rfl
      repeat' (first | refine go ?_ | intro _ | (apply cG; first | refine cT ?_ | refine cF ?_ | refine cS (fun _ => ?_) fun _ => ?_) | (apply gW; refine sW ?_) | (apply gI; refine sI ?_) | (apply gE; refine sE ?_) | (apply gP; refine sP ?_) | (apply gC; refine sC ?_) | (apply gD; refine sD ?_) | fail)
      refine O_d (dy_lit0 eI rfl) ?_; rintro _ _ ⟨_, rfl, rfl⟩; refine O_n ?_
      repeat' (first | refine go ?_ | intro _ | (apply cG; first | refine cT ?_ | refine cF ?_ | refine cS (fun _ => ?_) fun _ => ?_) | (apply gW; refine sW ?_) | (apply gI; refine sI ?_) | (apply gE; refine sE ?_) | (apply gP; refine sP ?_) | (apply gC; refine sC ?_) | (apply gD; refine sD ?_) | fail)
      refine O_d (dy_lit1 (R := eI) (-1 : Int) (hcs := by rfl) (hel := fun _ _ _ => by rfl)) ?_; rintro _ _ ⟨_, rfl, rfl⟩; refine O_n ?_
      repeat' (first | refine go ?_ | intro _ | (apply cG; first | refine cT ?_ | refine cF ?_ | refine cS (fun _ => ?_) fun _ => ?_) | (apply gW; refine sW ?_) | (apply gI; refine sI ?_) | (apply gE; refine sE ?_) | (apply gP; refine sP ?_) | (apply gC; refine sC ?_) | (apply gD; refine sD ?_) | fail)
      rename_i A8 c8
      rw [hi1]
      refine O_frz 1 ?_
      refine O_sub (S := cel p [.slice Al l.length cl, .slice Ax t.length cx, .slice A8 (now ++ [-1]).length c8, .slice Aq bx.length cq, .slice Ab2 sk.best.length cb2, .int .i64 sk.most, .int .i64 (sk.steps : Int)] 89 :: rd eI (.slice A8 (now ++ [-1]).length c8) (now ++ [-1]) :: rd eBX (.slice Aq bx.length cq) bx :: rd eI (.slice Ab2 sk.best.length cb2) sk.best :: rd eBX (.slice Ax t.length cx) t :: rd eAK (.slice Al l.length cl) l :: rd eI (.slice An now.length cn) now :: L) (by rw [hnl1]; exact Sb) ?_
      refine O_d (dy_call ArgsI.pf (by first | exact rfl | trivial | (intro a b; rfl)) (renter_ct hl hg ht ls (i + 1) _ (by rw [← List.drop_drop, hd]; rfl) (by rw [List.length_cons] at hi; omega) (by repeat (first | exact .head _ | refine .tail _ ?_)) (by repeat (first | exact .head _ | refine .tail _ ?_)) w (now ++ [-1]) bx sk A8 c8 Aq cq Ab2 cb2 (by omega) (by omega) (by omega) (by omega) (by omega))) ?_; rintro _ L9 ⟨v9, hR, rfl⟩
      rw [hq0] at hR
      obtain ⟨rfl, An3, nn3, cn3, Aq3, nq3, cq3, Ab3, cb3, rfl⟩ := hR
      refine O_n ?_
      repeat' (first | refine go ?_ | intro _ | (apply cG; first | refine cT ?_ | refine cF ?_ | refine cS (fun _ => ?_) fun _ => ?_) | (apply gW; refine sW ?_) | (apply gI; refine sI ?_) | (apply gE; refine sE ?_) | (apply gP; refine sP ?_) | (apply gC; refine sC ?_) | (apply gD; refine sD ?_) | fail)
      refine E_res0 (.inl rfl) (by rfl) (by rfl) ⟨rfl, An, now.length, cn, Aq3, nq3, cq3, Ab3, cb3, rfl⟩ Sb
    obtain ⟨m, hm⟩ : ∃ m, 4 - k = m + 1 := ⟨4 - k - 1, by omega⟩
    have hm2 : 4 - (k + 1) = m := by omega
    rw [hm, Nat.succ_mul] at hst2
    obtain ⟨⟨b, e⟩, hbe⟩ : ∃ be, boxF a (k : Int) = be := ⟨_, rfl⟩
    obtain ⟨sk, hsk⟩ : ∃ sk, skF t a ls w now bx s k = sk := ⟨_, rfl⟩
    rw [hbe, hsk] at hsuc
    rw [hsk] at hst2 ⊢
    dsimp only at hsuc
    repeat' (first | refine go ?_ | intro _ | (apply cG; first | refine cT ?_ | refine cF ?_ | refine cS (fun _ => ?_) fun _ => ?_) | (apply gW; refine sW ?_) | (apply gI; refine sI ?_) | (apply gE; refine sE ?_) | (apply gP; refine sP ?_) | (apply gC; refine sC ?_) | (apply gD; refine sD ?_) | fail)
    refine O_d (dy_call ArgsI.pf (by first | exact rfl | trivial | (intro a b; rfl)) (rBox_ct (a := a) (p := (k : Int)))) ?_; rintro _ _ ⟨_, ⟨rfl, hLL⟩, rfl⟩; replace hLL := hLL.symm; subst hLL; refine O_n ?_
    rw [hbe]
    dsimp only
    repeat' (first | refine go ?_ | intro _ | (apply cG; first | refine cT ?_ | refine cF ?_ | refine cS (fun _ => ?_) fun _ => ?_) | (apply gW; refine sW ?_) | (apply gI; refine sI ?_) | (apply gE; refine sE ?_) | (apply gP; refine sP ?_) | (apply gC; refine sC ?_) | (apply gD; refine sD ?_) | fail)
    rename_i p11
    by_cases he : e = 0
    rotate_left
    · rw [if_neg (fun h => he h.1)] at hsuc
      refine C_draw (n := 99) [cel p11 [.int .i64 b.x0, .int .i64 b.y0, .int .i64 b.x1, .int .i64 b.y1] 32, cel p [.slice Al l.length cl, .slice Ax t.length cx, .slice An2 nn2 cn2, .slice Aq2 nq2 cq2, .slice Ab2 sk.best.length cb2, .int .i64 sk.most, .int .i64 (sk.steps : Int)] 89, rd eBX (.slice Ax t.length cx) t, rd eBX (.slice Aq bx.length cq) bx] [(0, 1), (1, 1), (2, 1), (3, 1), (4, 1), (5, 1), (6, 1), (7, 1), (8, 0), (9, 1), (10, 1), (11, 1), (12, 1), (13, 1), (14, 0), (15, 1), (16, 1)] (by kernel_rfl) (by kernel_rfl) Sb ?_
      repeat' (first | refine go ?_ | intro _ | (apply cG; first | refine cT ?_ | refine cF ?_ | refine cS (fun _ => ?_) fun _ => ?_) | (apply gW; refine sW ?_) | (apply gI; refine sI ?_) | (apply gE; refine sE ?_) | (apply gP; refine sP ?_) | (apply gC; refine sC ?_) | (apply gD; refine sD ?_) | fail)
      refine D_op rfl ?_; refine X_o0 Sb ?_
      repeat' (first | refine go ?_ | intro _ | (apply cG; first | refine cT ?_ | refine cF ?_ | refine cS (fun _ => ?_) fun _ => ?_) | (apply gW; refine sW ?_) | (apply gI; refine sI ?_) | (apply gE; refine sE ?_) | (apply gP; refine sP ?_) | (apply gC; refine sC ?_) | (apply gD; refine sD ?_) | fail)
      refine D_op rfl ?_; refine X_o0 Sb ?_
      repeat' (first | refine go ?_ | intro _ | (apply cG; first | refine cT ?_ | refine cF ?_ | refine cS (fun _ => ?_) fun _ => ?_) | (apply gW; refine sW ?_) | (apply gI; refine sI ?_) | (apply gE; refine sE ?_) | (apply gP; refine sP ?_) | (apply gC; refine sC ?_) | (apply gD; refine sD ?_) | fail)
      exact E_round (k + 1, (An2, nn2, cn2), (Aq2, nq2, cq2), Ab2, cb2) ⟨hk, by dsimp only; rw [hsuc, hm2]; omega⟩ (by dsimp only; omega) ⟨rfl, trivial⟩ (by dsimp only; rw [hsuc]; exact Sb)
    refine C_draw (n := 99) [cel p11 [.int .i64 b.x0, .int .i64 b.y0, .int .i64 b.x1, .int .i64 b.y1] 32, cel p [.slice Al l.length cl, .slice Ax t.length cx, .slice An2 nn2 cn2, .slice Aq2 nq2 cq2, .slice Ab2 sk.best.length cb2, .int .i64 sk.most, .int .i64 (sk.steps : Int)] 89, rd eBX (.slice Ax t.length cx) t, rd eBX (.slice Aq bx.length cq) bx] [(0, 1), (1, 1), (2, 1), (3, 1), (4, 1), (5, 1), (6, 1), (7, 1), (8, 0), (9, 1), (10, 1), (11, 1), (12, 1), (13, 1), (14, 0), (15, 1), (16, 1)] (by kernel_rfl) (by kernel_rfl) Sb ?_
    repeat' (first | refine go ?_ | intro _ | (apply cG; first | refine cT ?_ | refine cF ?_ | refine cS (fun _ => ?_) fun _ => ?_) | (apply gW; refine sW ?_) | (apply gI; refine sI ?_) | (apply gE; refine sE ?_) | (apply gP; refine sP ?_) | (apply gC; refine sC ?_) | (apply gD; refine sD ?_) | fail)
    refine D_op rfl ?_; refine X_d (dy_call ArgsI.pf (by first | exact rfl | trivial | (intro a b; rfl)) (free_ct (b := b) (l := t) (by repeat (first | exact .head _ | refine .tail _ ?_)) (by omega))) ?_; rintro _ _ ⟨_, ⟨rfl, hLL⟩, rfl⟩; replace hLL := hLL.symm; subst hLL; refine ⟨(by first | exact .inl rfl | exact .inr Sb), D_n ?_⟩
    by_cases hf1 : freeF b t = true
    rotate_left
    · rw [if_neg (fun h => hf1 h.2)] at hsuc
      rw [Bool.not_eq_true] at hf1
      rw [hf1]
      repeat' (first | refine go ?_ | intro _ | (apply cG; first | refine cT ?_ | refine cF ?_ | refine cS (fun _ => ?_) fun _ => ?_) | (apply gW; refine sW ?_) | (apply gI; refine sI ?_) | (apply gE; refine sE ?_) | (apply gP; refine sP ?_) | (apply gC; refine sC ?_) | (apply gD; refine sD ?_) | fail)
      refine D_op rfl ?_; refine X_o0 Sb ?_
      repeat' (first | refine go ?_ | intro _ | (apply cG; first | refine cT ?_ | refine cF ?_ | refine cS (fun _ => ?_) fun _ => ?_) | (apply gW; refine sW ?_) | (apply gI; refine sI ?_) | (apply gE; refine sE ?_) | (apply gP; refine sP ?_) | (apply gC; refine sC ?_) | (apply gD; refine sD ?_) | fail)
      exact E_round (k + 1, (An2, nn2, cn2), (Aq2, nq2, cq2), Ab2, cb2) ⟨hk, by dsimp only; rw [hsuc, hm2]; omega⟩ (by dsimp only; omega) ⟨rfl, trivial⟩ (by dsimp only; rw [hsuc]; exact Sb)
    rw [if_pos ⟨he, hf1⟩] at hsuc
    rw [hf1]
    repeat' (first | refine go ?_ | intro _ | (apply cG; first | refine cT ?_ | refine cF ?_ | refine cS (fun _ => ?_) fun _ => ?_) | (apply gW; refine sW ?_) | (apply gI; refine sI ?_) | (apply gE; refine sE ?_) | (apply gP; refine sP ?_) | (apply gC; refine sC ?_) | (apply gD; refine sD ?_) | fail)
    refine D_op rfl ?_; refine X_d (dy_call ArgsI.pf (by first | exact rfl | trivial | (intro a b; rfl)) (free_ct (b := b) (l := bx) (by repeat (first | exact .head _ | refine .tail _ ?_)) (by omega))) ?_; rintro _ _ ⟨_, ⟨rfl, hLL⟩, rfl⟩; replace hLL := hLL.symm; subst hLL; refine ⟨(by first | exact .inl rfl | exact .inr Sb), D_n ?_⟩
    by_cases hf2 : freeF b bx = true
    rotate_left
    · have hsp : stepR t ls (w + a.g) now bx sk ((k : Int), b) = sk := if_neg hf2
      rw [hsp] at hsuc
      rw [Bool.not_eq_true] at hf2
      rw [hf2]
      repeat' (first | refine go ?_ | intro _ | (apply cG; first | refine cT ?_ | refine cF ?_ | refine cS (fun _ => ?_) fun _ => ?_) | (apply gW; refine sW ?_) | (apply gI; refine sI ?_) | (apply gE; refine sE ?_) | (apply gP; refine sP ?_) | (apply gC; refine sC ?_) | (apply gD; refine sD ?_) | fail)
      exact E_round (k + 1, (An2, nn2, cn2), (Aq2, nq2, cq2), Ab2, cb2) ⟨hk, by dsimp only; rw [hsuc, hm2]; omega⟩ (by dsimp only; omega) ⟨rfl, trivial⟩ (by dsimp only; rw [hsuc]; exact Sb)
    have hsp : stepR t ls (w + a.g) now bx sk ((k : Int), b) = enterR t ls (w + a.g) (now ++ [(k : Int)]) (bx ++ [b]) sk := if_pos hf2
    rw [hsp] at hsuc
    rw [hf2]
    repeat' (first | refine go ?_ | intro _ | (apply cG; first | refine cT ?_ | refine cF ?_ | refine cS (fun _ => ?_) fun _ => ?_) | (apply gW; refine sW ?_) | (apply gI; refine sI ?_) | (apply gE; refine sE ?_) | (apply gP; refine sP ?_) | (apply gC; refine sC ?_) | (apply gD; refine sD ?_) | fail)
    refine O_d (dy_lit0 eI rfl) ?_; rintro _ _ ⟨_, rfl, rfl⟩; refine O_n ?_
    repeat' (first | refine go ?_ | intro _ | (apply cG; first | refine cT ?_ | refine cF ?_ | refine cS (fun _ => ?_) fun _ => ?_) | (apply gW; refine sW ?_) | (apply gI; refine sI ?_) | (apply gE; refine sE ?_) | (apply gP; refine sP ?_) | (apply gC; refine sC ?_) | (apply gD; refine sD ?_) | fail)
    refine O_d (dy_lit1 (R := eI) (k : Int) (hcs := by rfl) (hel := fun _ _ _ => by rfl)) ?_; rintro _ _ ⟨_, rfl, rfl⟩; refine O_n ?_
    repeat' (first | refine go ?_ | intro _ | (apply cG; first | refine cT ?_ | refine cF ?_ | refine cS (fun _ => ?_) fun _ => ?_) | (apply gW; refine sW ?_) | (apply gI; refine sI ?_) | (apply gE; refine sE ?_) | (apply gP; refine sP ?_) | (apply gC; refine sC ?_) | (apply gD; refine sD ?_) | fail)
    rename_i A8 c8
    refine C_frz 1 ?_
    refine C_joinL (κ := Option Addr × Nat) (fun k9 => own 32 eBX (.slice k9.1 (bx.length + 1) k9.2) (bx ++ [b]) :: cel p11 [.int .i64 b.x0, .int .i64 b.y0, .int .i64 b.x1, .int .i64 b.y1] 32 :: cel p [.slice Al l.length cl, .slice Ax t.length cx, .slice A8 (now.length + 1) c8, .slice k9.1 (bx.length + 1) k9.2, .slice Ab2 sk.best.length cb2, .int .i64 sk.most, .int .i64 (sk.steps : Int)] 89 :: rd eI (.slice A8 (now.length + 1) c8) (now ++ [(k : Int)]) :: rd eI (.slice Ab2 sk.best.length cb2) sk.best :: rd eBX (.slice Ax t.length cx) t :: rd eAK (.slice Al l.length cl) l :: rd eI (.slice An now.length cn) now :: rd eBX (.slice Aq bx.length cq) bx :: L) [false, false, false, false, false, false, false, false, false, false, false, false, false, false, false, false, false, false, false, false, false, false, false, false, false, false, false, false, false, false, false, false, false, false, false, false, false, false, false, false, false, false, false, false, false, false, false, false, false, false, false, false, false, false, false, false, false, false, false, false, false, false, false, false, false, false, false, false, false, false, false, false, false, false, false, false, false, false, false, false, false, false, false, false, false, false, false, false, false, false, false, false, false, false, false, false, false, false, false, false, false, false, false, false, false, false, false, false, false, false, false, false, false, false, false, false, false, false, false, false, false, false, false, false, true, true, true, true, true, true, true, true, true, false, false, false, false, false, false, false, false, false, false, false, false, false, false, false, false, false, false, false, false, false, false, false, false, false, false, false, false, false, false, false, false, false, false, false] (fun k => []) (fun _ => True) ?_ ?_
    · refine C_drawU (n := 9) [cel p11 [.int .i64 b.x0, .int .i64 b.y0, .int .i64 b.x1, .int .i64 b.y1] 32] (.two [(0, 1), (2, 1), (4, 1)] 1 (.two [] 3 (.leaf [(5, 0), (6, 0), (7, 1), (8, 1), (9, 0)]) 5 (.leaf [(3, 0), (6, 0), (7, 1), (8, 1), (9, 0)])) 5 (.leaf [(1, 0), (3, 0), (6, 0), (7, 1), (8, 1), (9, 0)])) (by kernel_rfl) (by kernel_rfl) Sb ?_
      refine DT_two ?_
      repeat' (first | refine go ?_ | intro _ | (apply cG; first | refine cT ?_ | refine cF ?_ | refine cS (fun _ => ?_) fun _ => ?_) | (apply gW; refine sW ?_) | (apply gI; refine sI ?_) | (apply gE; refine sE ?_) | (apply gP; refine sP ?_) | (apply gC; refine sC ?_) | (apply gD; refine sD ?_) | fail)
      refine E_two ?_ ?_
      · refine D_d rfl (dy_lit0 eBX rfl) ?_; rintro _ _ ⟨_, rfl, rfl⟩; refine ⟨(by first | exact .inl rfl | exact .inr Sb), D_n ?_⟩
        repeat' (first | refine go ?_ | intro _ | (apply cG; first | refine cT ?_ | refine cF ?_ | refine cS (fun _ => ?_) fun _ => ?_) | (apply gW; refine sW ?_) | (apply gI; refine sI ?_) | (apply gE; refine sE ?_) | (apply gP; refine sP ?_) | (apply gC; refine sC ?_) | (apply gD; refine sD ?_) | fail)
        refine E_way (DT_two ?_)
        repeat' (first | refine go ?_ | intro _ | (apply cG; first | refine cT ?_ | refine cF ?_ | refine cS (fun _ => ?_) fun _ => ?_) | (apply gW; refine sW ?_) | (apply gI; refine sI ?_) | (apply gE; refine sE ?_) | (apply gP; refine sP ?_) | (apply gC; refine sC ?_) | (apply gD; refine sD ?_) | fail)
        refine E_two ?_ ?_
        · repeat' (first | refine go ?_ | intro _ | (apply cG; first | refine cT ?_ | refine cF ?_ | refine cS (fun _ => ?_) fun _ => ?_) | (apply gW; refine sW ?_) | (apply gI; refine sI ?_) | (apply gE; refine sE ?_) | (apply gP; refine sP ?_) | (apply gC; refine sC ?_) | (apply gD; refine sD ?_) | fail)
          refine E_way (DT_leaf ?_)
          repeat' (first | refine go ?_ | intro _ | (apply cG; first | refine cT ?_ | refine cF ?_ | refine cS (fun _ => ?_) fun _ => ?_) | (apply gW; refine sW ?_) | (apply gI; refine sI ?_) | (apply gE; refine sE ?_) | (apply gP; refine sP ?_) | (apply gC; refine sC ?_) | (apply gD; refine sD ?_) | fail)
          refine D_d rfl (dy_lit1 (R := eBX) b (hcs := by rfl) (hel := fun _ _ _ => by rfl)) ?_; rintro _ _ ⟨_, rfl, rfl⟩; refine ⟨(by first | exact .inl rfl | exact .inr Sb), D_n ?_⟩
          repeat' (first | refine go ?_ | intro _ | (apply cG; first | refine cT ?_ | refine cF ?_ | refine cS (fun _ => ?_) fun _ => ?_) | (apply gW; refine sW ?_) | (apply gI; refine sI ?_) | (apply gE; refine sE ?_) | (apply gP; refine sP ?_) | (apply gC; refine sC ?_) | (apply gD; refine sD ?_) | fail)
          rename_i A9 c9
          exact E_join (A9, c9) trivial trivial
        · repeat' (first | refine go ?_ | intro _ | (apply cG; first | refine cT ?_ | refine cF ?_ | refine cS (fun _ => ?_) fun _ => ?_) | (apply gW; refine sW ?_) | (apply gI; refine sI ?_) | (apply gE; refine sE ?_) | (apply gP; refine sP ?_) | (apply gC; refine sC ?_) | (apply gD; refine sD ?_) | fail)
          refine D_d rfl (dy_lit1 (R := eBX) b (hcs := by rfl) (hel := fun _ _ _ => by rfl)) ?_; rintro _ _ ⟨_, rfl, rfl⟩; refine ⟨(by first | exact .inl rfl | exact .inr Sb), D_n ?_⟩
          repeat' (first | refine go ?_ | intro _ | (apply cG; first | refine cT ?_ | refine cF ?_ | refine cS (fun _ => ?_) fun _ => ?_) | (apply gW; refine sW ?_) | (apply gI; refine sI ?_) | (apply gE; refine sE ?_) | (apply gP; refine sP ?_) | (apply gC; refine sC ?_) | (apply gD; refine sD ?_) | fail)
          refine E_way (DT_leaf ?_)
          repeat' (first | refine go ?_ | intro _ | (apply cG; first | refine cT ?_ | refine cF ?_ | refine cS (fun _ => ?_) fun _ => ?_) | (apply gW; refine sW ?_) | (apply gI; refine sI ?_) | (apply gE; refine sE ?_) | (apply gP; refine sP ?_) | (apply gC; refine sC ?_) | (apply gD; refine sD ?_) | fail)
          rename_i A9 c9
          exact E_join (A9, c9) trivial trivial
      · repeat' (first | refine go ?_ | intro _ | (apply cG; first | refine cT ?_ | refine cF ?_ | refine cS (fun _ => ?_) fun _ => ?_) | (apply gW; refine sW ?_) | (apply gI; refine sI ?_) | (apply gE; refine sE ?_) | (apply gP; refine sP ?_) | (apply gC; refine sC ?_) | (apply gD; refine sD ?_) | fail)
        refine D_d rfl (dy_lit1 (R := eBX) b (hcs := by rfl) (hel := fun _ _ _ => by rfl)) ?_; rintro _ _ ⟨_, rfl, rfl⟩; refine ⟨(by first | exact .inl rfl | exact .inr Sb), D_n ?_⟩
        repeat' (first | refine go ?_ | intro _ | (apply cG; first | refine cT ?_ | refine cF ?_ | refine cS (fun _ => ?_) fun _ => ?_) | (apply gW; refine sW ?_) | (apply gI; refine sI ?_) | (apply gE; refine sE ?_) | (apply gP; refine sP ?_) | (apply gC; refine sC ?_) | (apply gD; refine sD ?_) | fail)
        refine E_way (DT_leaf ?_)
        repeat' (first | refine go ?_ | intro _ | (apply cG; first | refine cT ?_ | refine cF ?_ | refine cS (fun _ => ?_) fun _ => ?_) | (apply gW; refine sW ?_) | (apply gI; refine sI ?_) | (apply gE; refine sE ?_) | (apply gP; refine sP ?_) | (apply gC; refine sC ?_) | (apply gD; refine sD ?_) | fail)
        refine D_d rfl (dy_lit0 eBX rfl) ?_; rintro _ _ ⟨_, rfl, rfl⟩; refine ⟨(by first | exact .inl rfl | exact .inr Sb), D_n ?_⟩
        repeat' (first | refine go ?_ | intro _ | (apply cG; first | refine cT ?_ | refine cF ?_ | refine cS (fun _ => ?_) fun _ => ?_) | (apply gW; refine sW ?_) | (apply gI; refine sI ?_) | (apply gE; refine sE ?_) | (apply gP; refine sP ?_) | (apply gC; refine sC ?_) | (apply gD; refine sD ?_) | fail)
        rename_i A9 c9
        exact E_join (A9, c9) trivial trivial
    rintro ⟨A9, c9⟩ u3 _
    ((try dsimp only); refine C_n ?_; (try simp only [Nat.reduceAdd, Nat.zero_add]))
    refine C_frz 0 ?_
    have hi1 : (i : Int) + 1 = ((i + 1 : Nat) : Int) := by omega
    have hnl1 : (now ++ [(k : Int)]).length = now.length + 1 := by rw [List.length_append]; rfl
    have hbl1 : (bx ++ [b]).length = bx.length + 1 := by rw [List.length_append]; rfl
    repeat' (first | refine go ?_ | intro _ | (apply cG; first | refine cT ?_ | refine cF ?_ | refine cS (fun _ => ?_) fun _ => ?_) | (apply gW; refine sW ?_) | (apply gI; refine sI ?_) | (apply gE; refine sE ?_) | (apply gP; refine sP ?_) | (apply gC; refine sC ?_) | (apply gD; refine sD ?_) | fail)
    rw [hi1]
    refine O_sub (S := cel p [.slice Al l.length cl, .slice Ax t.length cx, .slice A8 (now ++ [(k : Int)]).length c8, .slice A9 (bx ++ [b]).length c9, .slice Ab2 sk.best.length cb2, .int .i64 sk.most, .int .i64 (sk.steps : Int)] 89 :: rd eI (.slice A8 (now ++ [(k : Int)]).length c8) (now ++ [(k : Int)]) :: rd eBX (.slice A9 (bx ++ [b]).length c9) (bx ++ [b]) :: rd eI (.slice Ab2 sk.best.length cb2) sk.best :: cel p11 [.int .i64 b.x0, .int .i64 b.y0, .int .i64 b.x1, .int .i64 b.y1] 32 :: rd eBX (.slice Ax t.length cx) t :: rd eAK (.slice Al l.length cl) l :: rd eI (.slice An now.length cn) now :: rd eBX (.slice Aq bx.length cq) bx :: L) (by rw [hnl1, hbl1]; exact Sb) ?_
    refine O_d (dy_call ArgsI.pf (by first | exact rfl | trivial | (intro a b; rfl)) (renter_ct hl hg ht ls (i + 1) _ (by rw [← List.drop_drop, hd]; rfl) (by rw [List.length_cons] at hi; omega) (by repeat (first | exact .head _ | refine .tail _ ?_)) (by repeat (first | exact .head _ | refine .tail _ ?_)) (w + a.g) (now ++ [(k : Int)]) (bx ++ [b]) sk A8 c8 A9 c9 Ab2 cb2 (by omega) (by omega) (by omega) (by omega) (by omega))) ?_; rintro _ L9 ⟨v9, hR, rfl⟩
    obtain ⟨sn, hsn⟩ : ∃ sn, enterR t ls (w + a.g) (now ++ [(k : Int)]) (bx ++ [b]) sk = sn := ⟨_, rfl⟩
    have hss := enterR_steps t ls (w + a.g) (now ++ [(k : Int)]) (bx ++ [b]) sk
    rw [hsn] at hR hsuc hss
    obtain ⟨rfl, An3, nn3, cn3, Aq3, nq3, cq3, Ab3, cb3, rfl⟩ := hR
    refine O_n ?_
    repeat' (first | refine go ?_ | intro _ | (apply cG; first | refine cT ?_ | refine cF ?_ | refine cS (fun _ => ?_) fun _ => ?_) | (apply gW; refine sW ?_) | (apply gI; refine sI ?_) | (apply gE; refine sE ?_) | (apply gP; refine sP ?_) | (apply gC; refine sC ?_) | (apply gD; refine sD ?_) | fail)
    exact E_round (k + 1, (An3, nn3, cn3), (Aq3, nq3, cq3), Ab3, cb3) ⟨hk, by dsimp only; rw [hsuc, hm2]; omega⟩ (by dsimp only; omega) ⟨rfl, trivial⟩ (by dsimp only; rw [hsuc]; exact Sb)
end
theorem rPlace_ct {L : List HP} {A A2 : Option Addr} {c c2 : Nat} {l : List AK} {t : List BX} {fuel : Int} (hv : rd eAK (.slice A l.length c) l ∈ L) (hv2 : rd eBX (.slice A2 t.length c2) t ∈ L) (hf : I64 fuel) (h7 : l.length ≤ 7 ∨ checkF l t ≠ 0) :
    CT Try.prog 24 #[.slice A l.length c, .slice A2 t.length c2, .int .i64 fuel] W0 L fun r L' => ∃ A3 c3, r = .tuple #[.slice A3 (placeF l t fuel).1.length c3, .int .i64 (placeF l t fuel).2.1, .int .i64 (placeF l t fuel).2.2] ∧ L' = rd eI (.slice A3 (placeF l t fuel).1.length c3) (placeF l t fuel).1 :: L := by
  refine CT.sub ?_ (sub_dup hv2)
  refine CT.sub ?_ (sub_dup (.tail _ hv))
  by_cases hc : checkF l t = 0
  rotate_left
  · have hp : placeF l t fuel = ([], 0, checkF l t) := by unfold placeF; rw [if_neg hc]
    rw [hp]
    refine CT_enter Try.func24 rfl ?_; (simp only [Try.ntmps24, List.size_toArray, List.length_cons, List.length_nil, Nat.reduceAdd, Nat.reduceSub, Array.replicate_succ, Array.replicate_zero, List.push_toArray, List.append_toArray, List.nil_append, List.cons_append])
    repeat' (first | refine go ?_ | intro _ | (apply cG; first | refine cT ?_ | refine cF ?_ | refine cS (fun _ => ?_) fun _ => ?_) | (apply gW; refine sW ?_) | (apply gI; refine sI ?_) | (apply gE; refine sE ?_) | (apply gP; refine sP ?_) | (apply gC; refine sC ?_) | (apply gD; refine sD ?_) | fail)
    refine O_d (dy_call ArgsI.pf (by first | exact rfl | trivial | (intro a b; rfl)) (rValid_ct (l := l) (t := t) (by repeat (first | exact .head _ | refine .tail _ ?_)) (by repeat (first | exact .head _ | refine .tail _ ?_)))) ?_; rintro _ _ ⟨_, ⟨rfl, hLL⟩, rfl⟩; replace hLL := hLL.symm; subst hLL; refine O_n ?_
    repeat' (first | refine go ?_ | intro _ | (apply cG; first | refine cT ?_ | refine cF ?_ | refine cS (fun _ => ?_) fun _ => ?_) | (apply gW; refine sW ?_) | (apply gI; refine sI ?_) | (apply gE; refine sE ?_) | (apply gP; refine sP ?_) | (apply gC; refine sC ?_) | (apply gD; refine sD ?_) | fail)
    refine E_rdnil eI none 0 ?_
    refine E_res3 (by rfl) (by rfl) ⟨none, 0, rfl, rfl⟩ Sb
  replace h7 : l.length ≤ 7 := h7.resolve_right (fun h => h hc)
  obtain ⟨_, ht256, hg, _⟩ := checkF_0 hc
  have hp : placeF l t fuel = if ((enterR t l 0 [] [] ⟨[], -1, 0⟩).steps : Int) ≤ fuel then ((enterR t l 0 [] [] ⟨[], -1, 0⟩).best, (enterR t l 0 [] [] ⟨[], -1, 0⟩).most, 0) else ([], 0, 19) := if_pos hc
  rw [hp]
  have hmono : stepsB l.length ≤ 100000 := by
    have : ∀ n : Fin 8, stepsB n.val ≤ 100000 := by decide
    exact this ⟨l.length, by omega⟩
  have hrb := restF_le hg
  refine CT_enter Try.func24 rfl ?_; (simp only [Try.ntmps24, List.size_toArray, List.length_cons, List.length_nil, Nat.reduceAdd, Nat.reduceSub, Array.replicate_succ, Array.replicate_zero, List.push_toArray, List.append_toArray, List.nil_append, List.cons_append])
  repeat' (first | refine go ?_ | intro _ | (apply cG; first | refine cT ?_ | refine cF ?_ | refine cS (fun _ => ?_) fun _ => ?_) | (apply gW; refine sW ?_) | (apply gI; refine sI ?_) | (apply gE; refine sE ?_) | (apply gP; refine sP ?_) | (apply gC; refine sC ?_) | (apply gD; refine sD ?_) | fail)
  refine O_d (dy_call ArgsI.pf (by first | exact rfl | trivial | (intro a b; rfl)) (rValid_ct (l := l) (t := t) (by repeat (first | exact .head _ | refine .tail _ ?_)) (by repeat (first | exact .head _ | refine .tail _ ?_)))) ?_; rintro _ _ ⟨_, ⟨rfl, hLL⟩, rfl⟩; replace hLL := hLL.symm; subst hLL; refine O_n ?_
  rw [hc]
  repeat' (first | refine go ?_ | intro _ | (apply cG; first | refine cT ?_ | refine cF ?_ | refine cS (fun _ => ?_) fun _ => ?_) | (apply gW; refine sW ?_) | (apply gI; refine sI ?_) | (apply gE; refine sE ?_) | (apply gP; refine sP ?_) | (apply gC; refine sC ?_) | (apply gD; refine sD ?_) | fail)
  rename_i p
  have hct := renter_ct (W0 := W0) (Al := A) (Ax := A2) (cl := c) (cx := c2) (p := p) h7 hg ht256 l 0 (rd eAK (.slice A l.length c) l :: rd eBX (.slice A2 t.length c2) t :: L) rfl (Nat.zero_add _) (.head _) (.tail _ (.head _)) 0 [] [] ⟨[], -1, 0⟩ none 0 none 0 none 0 (Nat.le_refl _) (Nat.le_refl _) (Int.le_refl _) (by omega) (by dsimp only; omega)
  obtain ⟨s3, hs3⟩ : ∃ s3, enterR t l 0 [] [] ⟨[], -1, 0⟩ = s3 := ⟨_, rfl⟩
  rw [hs3] at hct ⊢
  refine O_rdnil eI none 0 ?_
  refine O_rdnil eBX none 0 ?_
  refine O_rdnil eI none 0 ?_
  refine O_sub (S := cel p [.slice A l.length c, .slice A2 t.length c2, .slice none ([] : List Int).length 0, .slice none ([] : List BX).length 0, .slice none ([] : List Int).length 0, .int .i64 (-1), .int .i64 ((0 : Nat) : Int)] 89 :: rd eI (.slice none ([] : List Int).length 0) ([] : List Int) :: rd eBX (.slice none ([] : List BX).length 0) ([] : List BX) :: rd eI (.slice none ([] : List Int).length 0) ([] : List Int) :: rd eAK (.slice A l.length c) l :: rd eBX (.slice A2 t.length c2) t :: L) Sb ?_
  refine O_d (dy_call ArgsI.pf (by first | exact rfl | trivial | (intro a b; rfl)) hct) ?_; rintro _ L9 ⟨v9, hR, rfl⟩
  obtain ⟨rfl, An3, nn3, cn3, Aq3, nq3, cq3, Ab3, cb3, rfl⟩ := hR
  refine O_n ?_
  by_cases hst : (s3.steps : Int) ≤ fuel
  · rw [if_pos hst]
    repeat' (first | refine go ?_ | intro _ | (apply cG; first | refine cT ?_ | refine cF ?_ | refine cS (fun _ => ?_) fun _ => ?_) | (apply gW; refine sW ?_) | (apply gI; refine sI ?_) | (apply gE; refine sE ?_) | (apply gP; refine sP ?_) | (apply gC; refine sC ?_) | (apply gD; refine sD ?_) | fail)
    refine C_draw (n := 99) [cel p [.slice A l.length c, .slice A2 t.length c2, .slice An3 nn3 cn3, .slice Aq3 nq3 cq3, .slice Ab3 s3.best.length cb3, .int .i64 s3.most, .int .i64 (s3.steps : Int)] 89] [(0, 1), (1, 1), (2, 1), (3, 1), (4, 1), (5, 1), (6, 1), (7, 1), (8, 1), (9, 1), (10, 1)] (by kernel_rfl) (by kernel_rfl) Sb ?_
    repeat' (first | refine go ?_ | intro _ | (apply cG; first | refine cT ?_ | refine cF ?_ | refine cS (fun _ => ?_) fun _ => ?_) | (apply gW; refine sW ?_) | (apply gI; refine sI ?_) | (apply gE; refine sE ?_) | (apply gP; refine sP ?_) | (apply gC; refine sC ?_) | (apply gD; refine sD ?_) | fail)
    refine E_res3 (by rfl) (by rfl) ⟨Ab3, cb3, rfl, rfl⟩ Sb
  · rw [if_neg hst]
    repeat' (first | refine go ?_ | intro _ | (apply cG; first | refine cT ?_ | refine cF ?_ | refine cS (fun _ => ?_) fun _ => ?_) | (apply gW; refine sW ?_) | (apply gI; refine sI ?_) | (apply gE; refine sE ?_) | (apply gP; refine sP ?_) | (apply gC; refine sC ?_) | (apply gD; refine sD ?_) | fail)
    refine E_rdnil eI none 0 ?_
    refine E_res3 (by rfl) (by rfl) ⟨none, 0, rfl, rfl⟩ Sb
end
end Go.Proofs.Yteeapkfakehocaa
