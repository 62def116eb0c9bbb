/-
  Walks of package wire by the engine: lists, byte slices, strings.
-/
import Derived.Test.YthbgmnoaaohbcaaMM
import Derived.Test.YthbgmnoaaohbcaaMJ
import Derived.Test.YthbgmnoaaohbcaaMK
namespace Go.Proofs.Ythbgmnoaaohbcaa
open Go Go.RowKit
set_option linter.unusedVariables false
set_option linter.unusedSimpArgs false
set_option maxRecDepth 20000
set_option synthInstance.maxSize 100000
set_option synthInstance.maxHeartbeats 400000
/-- what a round of list keeps -/
def LIV {α : Type} (f : Rs → α × Rs) (m most : Nat) (fin : List α × Rs) (i : Nat) (v : Value) (out : List α) (b : List UInt8) (e : Int) : Prop :=
  i ≤ m ∧ out.length = i ∧ (∃ A c, v = .slice A i c) ∧ b.length ≤ most ∧ (m ≤ most ∨ e ≠ 0) ∧ (out ++ (rMany f (m - i) (b, e)).1, (rMany f (m - i) (b, e)).2) = fin
theorem rI_len (s : Rs) : (rI s).2.1.length ≤ s.1.length := rU_len s
section
variable {W0 : World} {L : List HP}
theorem listB_ct {p : Nat} {l : List UInt8} {bs bs' : List UInt8} {e e' : Int} (h : rList rNext (bs, e) = (l, (bs', e'))) (hl : bs.length ≤ 1000000000000) : CT Try.prog 59 #[.pointer (some ⟨p, 0, none⟩), .func (.func 60) #[.pointer (some ⟨p, 0, none⟩)] #[]] W0 (rr p bs e :: L) fun r L' => ∃ A c, r = .slice A l.length c ∧ L' = own 5 eB (.slice A l.length c) l :: rr p bs' e' :: L := by
  obtain ⟨m, b1, e1, hu⟩ : ∃ m b1 e1, rU (bs, e) = (m, (b1, e1)) := ⟨_, _, _, rfl⟩
  have hm := rU_lt (bs, e)
  have hb1 := rU_len (bs, e)
  rw [hu] at hm hb1
  dsimp only at hm hb1
  obtain ⟨b2, e2, hf⟩ : ∃ b2 e2, (if b1.length < m then rFail (b1, e1) 3 else (b1, e1)) = (b2, e2) := ⟨_, _, rfl⟩
  obtain ⟨l3, b3, e3, hmany⟩ : ∃ l3 b3 e3, rMany rNext m (b2, e2) = (l3, (b3, e3)) := ⟨_, _, _, rfl⟩
  have hfin : (if e3 = 0 then l3 else [], ((b3, e3) : Rs)) = (l, (bs', e')) := by
    rw [← h]
    unfold rList
    simp only [hu, hf, hmany]
  simp only [Prod.mk.injEq] at hfin
  obtain ⟨hl3, rfl, rfl⟩ := hfin
  clear h
  have hcase : b2.length ≤ bs.length ∧ (m ≤ b1.length ∨ e2 ≠ 0) := by
    by_cases hlt : b1.length < m
    · rw [if_pos hlt] at hf
      by_cases h0 : e1 = 0
      · simp only [rFail, h0, if_true, Prod.mk.injEq] at hf
        rw [← hf.1]
        exact ⟨hb1, .inr (by rw [← hf.2]; decide)⟩
      · simp only [rFail, h0, if_false, Prod.mk.injEq] at hf
        rw [← hf.1]
        exact ⟨hb1, .inr (by rw [← hf.2]; exact h0)⟩
    · rw [if_neg hlt] at hf
      simp only [Prod.mk.injEq] at hf
      rw [← hf.1]
      exact ⟨hb1, .inl (by omega)⟩
  obtain ⟨hb2, hme⟩ := hcase
  replace hu := Lib.hid hu
  replace hl3 := Lib.hid hl3
  replace hmany := Lib.hid hmany
  refine CT_enter Try.func59 rfl ?_; (simp only [Try.ntmps59, List.size_toArray, List.length_cons, List.length_nil, Nat.reduceAdd, Nat.reduceSub, Array.replicate_succ, Array.replicate_zero, List.push_toArray, List.append_toArray, List.nil_append, List.cons_append])
  repeat' (first | refine go ?_ | intro _ | (apply cG; first | refine cT ?_ | refine cF ?_ | refine cS (fun _ => ?_) fun _ => ?_) | (apply gW; refine sW ?_) | (apply gI; refine sI ?_) | (apply gE; refine sE ?_) | (apply gP; refine sP ?_) | (apply gC; refine sC ?_) | (apply gD; refine sD ?_) | fail)
  refine O_d (dy_call ArgsI.pf (by first | exact rfl | trivial | (intro a b; rfl)) (Uint_ct hu.out (by omega))) ?_; rintro _ _ ⟨_, ⟨rfl, rfl⟩, rfl⟩; refine O_n ?_
  repeat' (first | refine go ?_ | intro _ | (apply cG; first | refine cT ?_ | refine cF ?_ | refine cS (fun _ => ?_) fun _ => ?_) | (apply gW; refine sW ?_) | (apply gI; refine sI ?_) | (apply gE; refine sE ?_) | (apply gP; refine sP ?_) | (apply gC; refine sC ?_) | (apply gD; refine sD ?_) | fail)
  refine rr_open fun A n c hn => ?_
  by_cases hlt : b1.length < m
  rotate_left
  rw [if_neg hlt] at hf
  simp only [Prod.mk.injEq] at hf
  obtain ⟨rfl, rfl⟩ := hf
  repeat' (first | refine go ?_ | intro _ | (apply cG; first | refine cT ?_ | refine cF ?_ | refine cS (fun _ => ?_) fun _ => ?_) | (apply gW; refine sW ?_) | (apply gI; refine sI ?_) | (apply gE; refine sE ?_) | (apply gP; refine sP ?_) | (apply gC; refine sC ?_) | (apply gD; refine sD ?_) | fail)
  refine C_sub rr_sub ?_
  rotate_left
  rw [if_pos hlt] at hf
  replace hf := Lib.hid hf
  repeat' (first | refine go ?_ | intro _ | (apply cG; first | refine cT ?_ | refine cF ?_ | refine cS (fun _ => ?_) fun _ => ?_) | (apply gW; refine sW ?_) | (apply gI; refine sI ?_) | (apply gE; refine sE ?_) | (apply gP; refine sP ?_) | (apply gC; refine sC ?_) | (apply gD; refine sD ?_) | fail)
  refine O_sub rr_sub ?_
  refine O_d (dy_call ArgsI.pf (by first | exact rfl | trivial | (intro a b; rfl)) (fail_ct hf.out)) ?_; rintro _ _ ⟨_, rfl, rfl⟩; refine O_n ?_
  repeat' (first | refine go ?_ | intro _ | (apply cG; first | refine cT ?_ | refine cF ?_ | refine cS (fun _ => ?_) fun _ => ?_) | (apply gW; refine sW ?_) | (apply gI; refine sI ?_) | (apply gE; refine sE ?_) | (apply gP; refine sP ?_) | (apply gC; refine sC ?_) | (apply gD; refine sD ?_) | fail)
  all_goals
    refine C_ownnil 5 eB ?_
    refine C_loop (κ := Nat × Value × List UInt8 × List UInt8 × Int) [false, false, false, false, false, false, true, true, false, false, false, false, false, false, false, false, false, false, false, false, true, true, true, true, true, true, true, true, true, true, true, true, true, true, true, true, true, false, false, false, false, false, false] (fun k => [(6, k.2.1), (7, .int .u64 (k.1 : Int))]) (fun k => rr p k.2.2.2.1 k.2.2.2.2 :: own 5 eB k.2.1 k.2.2.1 :: L) (fun k => LIV rNext m bs.length (l3, (b3, e3)) k.1 k.2.1 k.2.2.1 k.2.2.2.1 k.2.2.2.2) (fun k => m - k.1) (0, .slice none 0 0, [], _, _) ⟨Nat.zero_le _, rfl, ⟨none, 0, rfl⟩, hb2, hme.imp (fun h => Nat.le_trans h hb1) id, by have := hmany.out; rw [Nat.sub_zero, this]; rfl⟩ ⟨rfl, rfl, trivial⟩ (fun m h s => s.swap) ?_
    rintro ⟨i, v, out, b, ee⟩ u ⟨hi, hol, ⟨A, c, hv⟩, hbl, hmb, hinv⟩
    dsimp only at hi hol hv hbl hmb hinv
    subst hv
    subst hol
    replace hinv := Lib.hid hinv
    ((try dsimp only); refine C_n ?_; (try simp only [Nat.reduceAdd, Nat.zero_add]))
    by_cases him : out.length < m
    · by_cases he : ee = 0
      · subst he
        obtain ⟨x, b', ee', hx⟩ : ∃ x b' ee', rNext (b, 0) = (x, (b', ee')) := ⟨_, _, _, rfl⟩
        have hmb2 : m ≤ bs.length := hmb.resolve_right (fun h => h rfl)
        have hnext : (out ++ [x] ++ (rMany rNext (m - (out.length + 1)) (b', ee')).1, (rMany rNext (m - (out.length + 1)) (b', ee')).2) = (l3, ((b3, e3) : Rs)) := by
          rw [← hinv.out]
          have e1 : m - out.length = (m - (out.length + 1)) + 1 := by omega
          rw [e1, rMany, if_pos rfl, hx]
          simp
        have hb' : b'.length ≤ bs.length := by
          have := rNext_len (b, 0)
          rw [hx] at this
          dsimp only at this
          omega
        have hst : m ≤ bs.length ∨ ee' ≠ 0 := .inl hmb2
        replace hnext := Lib.hid hnext
        replace hx := Lib.hid hx
        clear hinv
        repeat' (first | refine go ?_ | intro _ | (apply cG; first | refine cT ?_ | refine cF ?_ | refine cS (fun _ => ?_) fun _ => ?_) | (apply gW; refine sW ?_) | (apply gI; refine sI ?_) | (apply gE; refine sE ?_) | (apply gP; refine sP ?_) | (apply gC; refine sC ?_) | (apply gD; refine sD ?_) | fail)
        refine rr_open fun A' n' c' hn' => ?_
        repeat' (first | refine go ?_ | intro _ | (apply cG; first | refine cT ?_ | refine cF ?_ | refine cS (fun _ => ?_) fun _ => ?_) | (apply gW; refine sW ?_) | (apply gI; refine sI ?_) | (apply gE; refine sE ?_) | (apply gP; refine sP ?_) | (apply gC; refine sC ?_) | (apply gD; refine sD ?_) | fail)
        refine O_sub rr_sub ?_
        refine O_d (dy_callv Ev.pf ArgsI.pf (by simp only [List.append_toArray, List.nil_append, List.append_nil, List.cons_append] <;> exact rfl) (by first | exact rfl | trivial | (intro a b; rfl)) (next_ct hx.out (by omega))) ?_; rintro _ _ ⟨_, ⟨rfl, rfl⟩, rfl⟩; refine O_n ?_
        refine O_d (dy_lit1 (R := eB) x (hcs := by rfl) (hel := fun _ _ _ => by rfl)) ?_; rintro _ _ ⟨_, rfl, rfl⟩; refine O_n ?_
        refine O_d dy_append ?_; rintro _ _ ⟨A2, c2, rfl, rfl⟩; refine O_n ?_
        repeat' (first | refine go ?_ | intro _ | (apply cG; first | refine cT ?_ | refine cF ?_ | refine cS (fun _ => ?_) fun _ => ?_) | (apply gW; refine sW ?_) | (apply gI; refine sI ?_) | (apply gE; refine sE ?_) | (apply gP; refine sP ?_) | (apply gC; refine sC ?_) | (apply gD; refine sD ?_) | fail)
        exact E_round (out.length + 1, .slice A2 (out.length + 1) c2, out ++ [x], b', ee') ⟨him, List.length_append, ⟨A2, c2, rfl⟩, hb', hst, hnext.out⟩ (by show m - (out.length + 1) < m - out.length; omega) ⟨rfl, rfl, trivial⟩ (sub_drop (Sub.refl _))
      · have hfin : out = l3 ∧ b = b3 ∧ ee = e3 := by
          have h1 := hinv.out
          have e1 : m - out.length = (m - (out.length + 1)) + 1 := by omega
          rw [e1, rMany, if_neg he] at h1
          simpa using h1
        obtain ⟨hf1, rfl, rfl⟩ := hfin
        clear hinv
        repeat' (first | refine go ?_ | intro _ | (apply cG; first | refine cT ?_ | refine cF ?_ | refine cS (fun _ => ?_) fun _ => ?_) | (apply gW; refine sW ?_) | (apply gI; refine sI ?_) | (apply gE; refine sE ?_) | (apply gP; refine sP ?_) | (apply gC; refine sC ?_) | (apply gD; refine sD ?_) | fail)
        refine rr_open fun A' n' c' hn' => ?_
        repeat' (first | refine go ?_ | intro _ | (apply cG; first | refine cT ?_ | refine cF ?_ | refine cS (fun _ => ?_) fun _ => ?_) | (apply gW; refine sW ?_) | (apply gI; refine sI ?_) | (apply gE; refine sE ?_) | (apply gP; refine sP ?_) | (apply gC; refine sC ?_) | (apply gD; refine sD ?_) | fail)
        have hl0 : l = [] := by have := hl3.out; rw [if_neg he] at this; exact this.symm
        subst hl0
        refine E_sub rr_sub ?_
        refine E_ownnil 5 eB ?_
        refine E_sub (sub_skip (sub_skip (sub_drop (Sub.refl _)))) ?_
        refine E_end1 (by rfl) (by rfl) Ev.pf ⟨none, 0, rfl, rfl⟩
    · obtain rfl : m = out.length := by omega
      have hfin : out = l3 ∧ b = b3 ∧ ee = e3 := by
        have h1 := hinv.out
        rw [Nat.sub_self, rMany] at h1
        simpa using h1
      obtain ⟨hf1, rfl, rfl⟩ := hfin
      clear hinv
      by_cases he : ee = 0
      · have hl0 : l = out := by have := hl3.out; rw [if_pos he] at this; rw [hf1]; exact this.symm
        subst hl0
        repeat' (first | refine go ?_ | intro _ | (apply cG; first | refine cT ?_ | refine cF ?_ | refine cS (fun _ => ?_) fun _ => ?_) | (apply gW; refine sW ?_) | (apply gI; refine sI ?_) | (apply gE; refine sE ?_) | (apply gP; refine sP ?_) | (apply gC; refine sC ?_) | (apply gD; refine sD ?_) | fail)
        refine rr_open fun A' n' c' hn' => ?_
        repeat' (first | refine go ?_ | intro _ | (apply cG; first | refine cT ?_ | refine cF ?_ | refine cS (fun _ => ?_) fun _ => ?_) | (apply gW; refine sW ?_) | (apply gI; refine sI ?_) | (apply gE; refine sE ?_) | (apply gP; refine sP ?_) | (apply gC; refine sC ?_) | (apply gD; refine sD ?_) | fail)
        refine E_sub rr_sub ?_
        refine E_sub (fun m h s => s.swap) ?_
        refine E_end1 (by rfl) (by rfl) Ev.pf ⟨_, _, rfl, rfl⟩
      · have hl0 : l = [] := by have := hl3.out; rw [if_neg he] at this; exact this.symm
        subst hl0
        repeat' (first | refine go ?_ | intro _ | (apply cG; first | refine cT ?_ | refine cF ?_ | refine cS (fun _ => ?_) fun _ => ?_) | (apply gW; refine sW ?_) | (apply gI; refine sI ?_) | (apply gE; refine sE ?_) | (apply gP; refine sP ?_) | (apply gC; refine sC ?_) | (apply gD; refine sD ?_) | fail)
        refine rr_open fun A' n' c' hn' => ?_
        repeat' (first | refine go ?_ | intro _ | (apply cG; first | refine cT ?_ | refine cF ?_ | refine cS (fun _ => ?_) fun _ => ?_) | (apply gW; refine sW ?_) | (apply gI; refine sI ?_) | (apply gE; refine sE ?_) | (apply gP; refine sP ?_) | (apply gC; refine sC ?_) | (apply gD; refine sD ?_) | fail)
        refine E_sub rr_sub ?_
        refine E_ownnil 5 eB ?_
        refine E_sub (sub_skip (sub_skip (sub_drop (Sub.refl _)))) ?_
        refine E_end1 (by rfl) (by rfl) Ev.pf ⟨none, 0, rfl, rfl⟩
theorem Raw_ct {p : Nat} {l bs bs' : List UInt8} {e e' : Int} (h : rList rNext (bs, e) = (l, (bs', e'))) (hl : bs.length ≤ 1000000000000) : CT Try.prog 36 #[.pointer (some ⟨p, 0, none⟩)] W0 (rr p bs e :: L) fun r L' => ∃ A c, r = .slice A l.length c ∧ L' = own 5 eB (.slice A l.length c) l :: rr p bs' e' :: L := by
  replace h := Lib.hid h
  refine CT_enter Try.func36 rfl ?_; (simp only [Try.ntmps36, List.size_toArray, List.length_cons, List.length_nil, Nat.reduceAdd, Nat.reduceSub, Array.replicate_succ, Array.replicate_zero, List.push_toArray, List.append_toArray, List.nil_append, List.cons_append])
  repeat' (first | refine go ?_ | intro _ | (apply cG; first | refine cT ?_ | refine cF ?_ | refine cS (fun _ => ?_) fun _ => ?_) | (apply gW; refine sW ?_) | (apply gI; refine sI ?_) | (apply gE; refine sE ?_) | (apply gP; refine sP ?_) | (apply gC; refine sC ?_) | (apply gD; refine sD ?_) | fail)
  refine O_d (dy_call ArgsI.pf (by first | exact rfl | trivial | (intro a b; rfl)) (listB_ct h.out hl)) ?_; rintro _ _ ⟨_, ⟨A, c, rfl, rfl⟩, rfl⟩; refine O_n ?_
  repeat' (first | refine go ?_ | intro _ | (apply cG; first | refine cT ?_ | refine cF ?_ | refine cS (fun _ => ?_) fun _ => ?_) | (apply gW; refine sW ?_) | (apply gI; refine sI ?_) | (apply gE; refine sE ?_) | (apply gP; refine sP ?_) | (apply gC; refine sC ?_) | (apply gD; refine sD ?_) | fail)
  refine E_end1 (by rfl) (by rfl) Ev.pf ⟨_, _, rfl, rfl⟩
end
end Go.Proofs.Ythbgmnoaaohbcaa
namespace Go.Proofs.Ythbgmnoaaohbcaa
open Go Go.RowKit Go.Instr
set_option linter.unusedVariables false
set_option linter.unusedSimpArgs false
/-- elements of a map: the value, and what holds of it for good -/
structure MEnc (α : Type) where
  val : α → Value
  im : α → Im
def entM {α : Type} (R : MEnc α) (m : Hp) (p : Int × α) (e : MapEntry) : Prop := e.key = .int .i64 p.1 ∧ e.val = R.val p.2 ∧ (R.im p.2).r m
theorem entM.mono {α : Type} {R : MEnc α} {m m' : Hp} (hm : m.le m') {p : Int × α} {e : MapEntry} (h : entM R m p e) : entM R m' p e := ⟨h.1, h.2.1, (R.im p.2).mono hm h.2.2⟩
/-- block b is a map that holds l -/
def mapo {α : Type} (R : MEnc α) (b : Nat) (l : List (Int × α)) : HP :=
  ⟨fun m h => ∃ es clock, h b = some (.map es clock) ∧ All2 (entM R m) l es.toList ∧ es.toList.Pairwise (fun x y => x.born < y.born) ∧ ∀ e ∈ es.toList, e.born < clock,
   fun hm ⟨es, clock, h1, h2, h3, h4⟩ => ⟨es, clock, h1, h2.imp fun _ _ => entM.mono hm, h3, h4⟩⟩
def posM {α : Type} (k : Int) : List (Int × α) → Nat → Option (Nat × α)
  | [], _ => none
  | p :: l, i => if k = p.1 then some (i, p.2) else posM k l (i + 1)
theorem findNow_l {α : Type} {R : MEnc α} {m : Hp} {k : Int} : ∀ {l : List (Int × α)} {es : List MapEntry} {i : Nat}, All2 (entM R m) l es → findNow (.int .i64) (.int .i64 k) es i = some ((posM k l i).map fun q => (q.1, R.val q.2))
  | [], [], i, _ => rfl
  | p :: l, e :: es, i, ⟨h, t⟩ => by
    have ih := findNow_l (k := k) (i := i + 1) t
    unfold findNow posM
    rw [h.1]
    by_cases hk : k = p.1
    · subst hk
      simp [sameNow, h.2.1]
    · have : (k == p.1) = false := by simpa using hk
      simp [sameNow, this, hk, ih]
  | [], _ :: _, _, h => h.elim
  | _ :: _, [], _, h => h.elim
section
variable {P : Program} {w : World}
theorem findKey_l {α : Type} {R : MEnc α} {m : Hp} {k : Int} {l : List (Int × α)} {es : List MapEntry} {kt : TypeId} (hk : P.underlying kt = some (.int .i64)) (h : All2 (entM R m) l es) : (findKey kt (.int .i64 k) es).run P w = .ok ((posM k l 0).map fun q => (q.1, R.val q.2)) w := by
  unfold findKey
  simp only [Sem.run_bind, run_underlying hk, Result.andThen_ok, findNow_l h]
  rfl
theorem checkKey_l {em : Bool} {k : Int} {kt : TypeId} (hk : P.underlying kt = some (.int .i64)) : (checkKey em 10000 kt (.int .i64 k)).run P w = .ok () w := by
  unfold checkKey
  simp only [Sem.run_bind, run_underlying hk, Result.andThen_ok]
  rfl
theorem lookup_l {α : Type} {R : MEnc α} {m : Hp} {k : Int} {l : List (Int × α)} {es : Array MapEntry} {clock : Nat} {t kt et : TypeId} {z : Value} {b : Nat} {ok : Bool} (ht : P.underlying t = some (.map kt et)) (hk : P.underlying kt = some (.int .i64)) (hz : (zeroValue et).run P w = .ok z w)
    (hb : w.heap[b]? = some (.map es clock)) (h : All2 (entM R m) l es.toList) :
    (lookup t (.map (some b)) (.int .i64 k) ok).run P w = .ok (if ok then .tuple #[((posM k l 0).map fun q => R.val q.2).getD z, .bool (posM k l 0).isSome] else ((posM k l 0).map fun q => R.val q.2).getD z) w := by
  unfold lookup
  simp only [Sem.run_bind, run_underlying ht, Result.andThen_ok, MapKept.run_getObj_map hb, Sem.run_pure, checkKey_l hk, findKey_l hk h]
  cases hp : posM k l 0 with
  | none => simp [hz]
  | some q => simp
/-- what putting does to the list -/
def putM {α : Type} (k : Int) (x : α) (l : List (Int × α)) : List (Int × α) := match posM k l 0 with
  | some q => l.set q.1 (k, x)
  | none => l ++ [(k, x)]
def delM {α : Type} (k : Int) (l : List (Int × α)) : List (Int × α) := match posM k l 0 with
  | some q => l.eraseIdx q.1
  | none => l
theorem posM_lt {α : Type} {k : Int} : ∀ {l : List (Int × α)} {i : Nat} {q : Nat × α}, posM k l i = some q → i ≤ q.1 ∧ q.1 < i + l.length ∧ l[q.1 - i]? = some (k, q.2)
  | [], _, _, h => by cases h
  | p :: l, i, q, h => by
    unfold posM at h
    split at h
    · rename_i hk
      injection h with h
      subst h
      refine ⟨Nat.le_refl _, by simp, ?_⟩
      rw [Nat.sub_self, hk]
      rfl
    · have ih := posM_lt h
      refine ⟨by omega, by simp only [List.length_cons]; omega, ?_⟩
      have e : q.1 - i = (q.1 - (i + 1)) + 1 := by omega
      rw [e, List.getElem?_cons_succ]
      exact ih.2.2
theorem same_key {k : Int} : sameBits 10000 (.int .i64 k) (.int .i64 k) = true := by
  simp [sameBits]
theorem update_l {α : Type} {R : MEnc α} {m : Hp} {k : Int} {l : List (Int × α)} {es : Array MapEntry} {clock : Nat} {t kt et : TypeId} {b : Nat} {v : Value} (ht : P.underlying t = some (.map kt et)) (hk : P.underlying kt = some (.int .i64))
    (hb : w.heap[b]? = some (.map es clock)) (h : All2 (entM R m) l es.toList) :
    (mapUpdate t (.map (some b)) (.int .i64 k) v).run P w = .ok () { w with heap := w.heap.setIfInBounds b (match posM k l 0 with
      | some q => .map (es.modify q.1 fun e => { e with key := .int .i64 k, val := v }) clock
      | none => .map (es.push { key := .int .i64 k, val := v, born := clock }) (clock + 1)) } := by
  unfold mapUpdate
  simp only [Sem.run_bind, run_underlying ht, Result.andThen_ok, MapKept.run_getObj_map hb, Sem.run_pure, checkKey_l hk, findKey_l hk h]
  cases hp : posM k l 0 with
  | none => simp only [Option.map_none]; exact MapKept.run_setObj_map _ hb
  | some q =>
    have hq := posM_lt hp
    have hq2 : l[q.1]? = some (k, q.2) := by simpa using hq.2.2
    obtain ⟨e, he, hke, _⟩ := h.get hq2
    have he' : es[q.1]? = some e := by simpa using he
    simp only [Option.map_some, he', Option.getD_some, hke, keyThatStays, same_key, if_true, Sem.run_pure, Sem.run_bind, Result.andThen_ok]
    exact MapKept.run_setObj_map _ hb
theorem delete_l {α : Type} {R : MEnc α} {m : Hp} {k : Int} {l : List (Int × α)} {es : Array MapEntry} {clock : Nat} {t kt et u ty : TypeId} {b : Nat} (ht : P.underlying t = some (.map kt et)) (hk : P.underlying kt = some (.int .i64))
    (hb : w.heap[b]? = some (.map es clock)) (h : All2 (entM R m) l es.toList) :
    (Builtin.delete_ #[t, u] ty #[.map (some b), .int .i64 k]).run P w = .ok (.tuple #[]) { w with heap := w.heap.setIfInBounds b (match posM k l 0 with
      | some q => .map (es.eraseIdxIfInBounds q.1) clock
      | none => .map es clock) } := by
  unfold Builtin.delete_
  simp only [List.getElem?_toArray, List.getElem?_cons_zero, List.getElem?_cons_succ, Sem.run_bind, run_underlying ht, Result.andThen_ok, MapKept.run_getObj_map hb, Sem.run_pure, checkKey_l hk, findKey_l hk h]
  cases hp : posM k l 0 with
  | none => simp only [Option.map_none]; rw [Sem.run_bind, MapKept.run_setObj_map _ hb]; rfl
  | some q => simp only [Option.map_some]; rw [Sem.run_bind, MapKept.run_setObj_map _ hb]; rfl
end
section
variable {P : Program} {W0 w : World} {L : List HP}
theorem All2.eraseM {α β : Type} {R : α → β → Prop} : ∀ {l : List α} {k : List β} (n : Nat), All2 R l k → All2 R (l.eraseIdx n) (k.eraseIdx n)
  | [], [], _, _ => trivial
  | _ :: _, _ :: _, 0, ⟨_, t⟩ => t
  | _ :: _, _ :: _, n + 1, ⟨h, t⟩ => ⟨h, All2.eraseM n t⟩
  | [], _ :: _, _, h => h.elim
  | _ :: _, [], _, h => h.elim
theorem All2.modM {α β : Type} {R : α → β → Prop} {x : α} {f : β → β} : ∀ {l : List α} {k : List β} (n : Nat), All2 R l k → (∀ e, k[n]? = some e → R x (f e)) → All2 R (l.set n x) (k.modify n f)
  | [], [], n, _, _ => by cases n <;> exact trivial
  | _ :: _, _ :: _, 0, ⟨_, t⟩, h => ⟨h _ rfl, t⟩
  | _ :: _, _ :: _, n + 1, ⟨g, t⟩, h => ⟨g, All2.modM n t fun e he => h e (by simpa using he)⟩
  | [], _ :: _, _, h, _ => h.elim
  | _ :: _, [], _, h, _ => h.elim
theorem born_mod {f : MapEntry → MapEntry} (hf : ∀ e, (f e).born = e.born) : ∀ (es : List MapEntry) (n : Nat), (es.modify n f).map MapEntry.born = es.map MapEntry.born
  | [], n => by cases n <;> rfl
  | e :: es, 0 => by show (f e :: es).map _ = _; rw [List.map_cons, List.map_cons, hf]
  | e :: es, n + 1 => by show (e :: es.modify n f).map _ = _; rw [List.map_cons, List.map_cons, born_mod hf es n]
theorem St.map_ {α : Type} {R : MEnc α} {b : Nat} {l : List (Int × α)} (s : St W0 w (mapo R b l :: L)) :
    ∃ es clock m, w.heap[b]? = some (.map es clock) ∧ All2 (entM R m) l es.toList := by
  obtain ⟨m, a, _, ⟨es, clock, h1, h2, _⟩, _, _, ha, _⟩ := s.lay
  exact ⟨es, clock, m, ha _ _ h1, h2⟩
theorem St.map_turn {α : Type} {R : MEnc α} {b : Nat} {l l' : List (Int × α)} (s : St W0 w (mapo R b l :: L)) {es : Array MapEntry} {clock : Nat} (hb : w.heap[b]? = some (.map es clock)) (es' : Array MapEntry) (clock' : Nat)
    (h1 : ∀ m h, SepL m L h → All2 (entM R m) l es.toList → All2 (entM R m) l' es'.toList)
    (h2 : es.toList.Pairwise (fun x y => x.born < y.born) → (∀ e ∈ es.toList, e.born < clock) → es'.toList.Pairwise (fun x y => x.born < y.born) ∧ ∀ e ∈ es'.toList, e.born < clock') :
    St W0 { w with heap := w.heap.setIfInBounds b (.map es' clock') } (mapo R b l' :: L) := by
  obtain ⟨m, a, c, ⟨es0, clock0, g1, g2, g3, g4⟩, hL, hm, ha, hc, d, g⟩ := s.lay
  have e0 := ha _ _ g1
  have e1 : w.heap[b]? = some (.map es0 clock0) := e0
  rw [hb] at e1
  injection e1 with e1
  injection e1 with e1 e2
  subst e1 e2
  obtain ⟨k1, k2⟩ := h2 g3 g4
  have hlt : b < w.heap.size := (Array.getElem?_eq_some_iff.1 hb).1
  refine g (a' := fun k => if k = b then some (.map es' clock') else a k) rfl rfl rfl (by simp) ⟨es', clock', by simp, h1 m c hL g2, k1, k2⟩ ?_ ?_ hL
  · intro k o e
    show ({ w with heap := w.heap.setIfInBounds b (.map es' clock') } : World).heap[k]? = some o
    dsimp only at e ⊢
    by_cases hk : k = b
    · subst hk
      rw [if_pos rfl] at e
      rw [Array.getElem?_setIfInBounds_self_of_lt hlt]
      exact e
    · rw [if_neg hk] at e
      rw [Array.getElem?_setIfInBounds_ne (fun h => hk h.symm)]
      exact ha _ _ e
  · intro k hk hn
    have hne : k ≠ b := by
      intro e
      subst e
      rw [hn] at g1
      cases g1
    exact ⟨Array.getElem?_setIfInBounds_ne (fun h => hne h.symm), by rw [if_neg hne]; exact hn⟩
theorem St.map_put {α : Type} {R : MEnc α} {b : Nat} {l : List (Int × α)} (s : St W0 w (mapo R b l :: L)) {t kt et : TypeId} (ht : P.underlying t = some (.map kt et)) (hk : P.underlying kt = some (.int .i64)) (k : Int) (x : α) (hx : ∀ m h, SepL m L h → (R.im x).r m) :
    ∃ w', (mapUpdate t (.map (some b)) (.int .i64 k) (R.val x)).run P w = .ok () w' ∧ St W0 w' (mapo R b (putM k x l) :: L) := by
  obtain ⟨es, clock, m, hb, h⟩ := s.map_
  refine ⟨_, update_l ht hk hb h, ?_⟩
  unfold putM
  cases hp : posM k l 0 with
  | none =>
    refine s.map_turn hb _ _ (fun m h hL ha => ?_) (fun g3 g4 => ?_)
    · rw [Array.toList_push]
      exact ha.append ⟨⟨rfl, rfl, hx m h hL⟩, trivial⟩
    · rw [Array.toList_push]
      refine ⟨List.pairwise_append.2 ⟨g3, List.pairwise_singleton _ _, fun a ha c hc => ?_⟩, fun e he => ?_⟩
      · simp only [List.mem_cons, List.not_mem_nil, or_false] at hc
        subst hc
        exact g4 a ha
      · rcases List.mem_append.1 he with he | he
        · exact Nat.lt_succ_of_lt (g4 e he)
        · simp only [List.mem_cons, List.not_mem_nil, or_false] at he
          subst he
          exact Nat.lt_succ_self _
  | some q =>
    have e : (es.modify q.1 fun e => { e with key := .int .i64 k, val := R.val x }).toList = es.toList.modify q.1 fun e => { e with key := .int .i64 k, val := R.val x } := by simp
    have hbn := born_mod (f := fun e : MapEntry => { e with key := .int .i64 k, val := R.val x }) (fun _ => rfl) es.toList q.1
    refine s.map_turn hb _ _ (fun m h hL ha => ?_) (fun g3 g4 => ?_)
    · rw [e]
      exact ha.modM q.1 (fun e _ => ⟨rfl, rfl, hx m h hL⟩)
    · rw [e]
      have p1 : (es.toList.map MapEntry.born).Pairwise (· < ·) := List.pairwise_map.2 g3
      rw [← hbn] at p1
      refine ⟨List.pairwise_map.1 p1, fun y hy => ?_⟩
      have h1 : y.born ∈ (es.toList.modify q.1 fun e => { e with key := .int .i64 k, val := R.val x }).map MapEntry.born := List.mem_map.2 ⟨y, hy, rfl⟩
      rw [hbn] at h1
      obtain ⟨z, hz, hzb⟩ := List.mem_map.1 h1
      rw [← hzb]
      exact g4 z hz
theorem St.map_del {α : Type} {R : MEnc α} {b : Nat} {l : List (Int × α)} (s : St W0 w (mapo R b l :: L)) {t kt et u ty : TypeId} (ht : P.underlying t = some (.map kt et)) (hk : P.underlying kt = some (.int .i64)) (k : Int) :
    ∃ w', (Builtin.delete_ #[t, u] ty #[.map (some b), .int .i64 k]).run P w = .ok (.tuple #[]) w' ∧ St W0 w' (mapo R b (delM k l) :: L) := by
  obtain ⟨es, clock, m, hb, h⟩ := s.map_
  refine ⟨_, delete_l ht hk hb h, ?_⟩
  unfold delM
  cases hp : posM k l 0 with
  | none => exact s.map_turn hb _ _ (fun m h hL ha => ha) (fun g3 g4 => ⟨g3, g4⟩)
  | some q =>
    have e : (es.eraseIdxIfInBounds q.1).toList = es.toList.eraseIdx q.1 := by simp
    refine s.map_turn hb _ _ (fun m h hL ha => ?_) (fun g3 g4 => ?_)
    · rw [e]; exact ha.eraseM _
    · rw [e]
      exact ⟨g3.sublist (List.eraseIdx_sublist _ _), fun x hx => g4 x (List.mem_of_mem_eraseIdx hx)⟩
/-! ### the operations, for the walk -/
variable {a : Act} {d : Option Tmp} {ty : TypeId} {pos : String} {aft : Array Edge} {gd : Option (Nat × Bool)} {S : List HP}
theorem sv_look1 {α : Type} {R : MEnc α} {b : Nat} {l : List (Int × α)} {k : Int} {q : Nat × α} {t kt et : TypeId} {x y : Operand} {zv : Value} {sz by_ : Nat} [ut : UL P t (.map kt et)] [uk : UL P kt (.int .i64)] [ti : TI P et zv sz by_] (hm : mapo R b l ∈ S) (hx : a.eval x = .map (some b)) (hy : a.eval y = .int .i64 k) (hq : posM k l 0 = some q) :
    SV P W0 S ⟨d, .lookup t x y true, ty, pos, aft, gd⟩ a (.tuple #[R.val q.2, .bool true]) := ⟨fun w s => by
  obtain ⟨L0, hp⟩ := s.mem hm
  obtain ⟨es, clock, m, hb, h⟩ := (s.perm hp).map_
  unfold execOp
  simp [hx, hy, lookup_l (ok := true) ut.pf uk.pf (zero_run (P := P) (t := et) w) hb h, hq]⟩
theorem sv_look0 {α : Type} {R : MEnc α} {b : Nat} {l : List (Int × α)} {k : Int} {t kt et : TypeId} {x y : Operand} {zv : Value} {sz by_ : Nat} [ut : UL P t (.map kt et)] [uk : UL P kt (.int .i64)] [ti : TI P et zv sz by_] (hm : mapo R b l ∈ S) (hx : a.eval x = .map (some b)) (hy : a.eval y = .int .i64 k) (hq : posM k l 0 = none) :
    SV P W0 S ⟨d, .lookup t x y true, ty, pos, aft, gd⟩ a (.tuple #[zv, .bool false]) := ⟨fun w s => by
  obtain ⟨L0, hp⟩ := s.mem hm
  obtain ⟨es, clock, m, hb, h⟩ := (s.perm hp).map_
  unfold execOp
  simp [hx, hy, lookup_l (ok := true) ut.pf uk.pf (zero_run (P := P) (t := et) w) hb h, hq]⟩
theorem dy_put {α : Type} {R : MEnc α} {b i : Nat} {l : List (Int × α)} {k : Int} (el : α) {t kt et : TypeId} {x y z : Operand} [ut : UL P t (.map kt et)] [uk : UL P kt (.int .i64)] (hm : L[i]? = some (mapo R b l)) (hx : a.eval x = .map (some b)) (hy : a.eval y = .int .i64 k) (hz : a.eval z = R.val el) {Le : List HP} (hLe : L.eraseIdx i = Le) (he : ∀ m h, SepL m Le h → (R.im el).r m) :
    DY P W0 L ⟨d, .mapUpdate t x y z, ty, pos, aft, gd⟩ a fun a' L' => a.put d undef = a' ∧ L' = L.set i (mapo R b (putM k el l)) :=
  dy_skp fun w s => by
    have s1 := s.at_ hm
    obtain ⟨w', hr, hs⟩ := s1.map_put ut.pf uk.pf k el (by rw [hLe]; exact he)
    refine ⟨w', _, ?_, ⟨rfl, rfl⟩, hs.back hm⟩
    unfold execOp
    simp [hx, hy, hz, hr]
theorem dy_del {α : Type} {R : MEnc α} {b i : Nat} {l : List (Int × α)} {k : Int} {t kt et u : TypeId} {x y : Operand} [ut : UL P t (.map kt et)] [uk : UL P kt (.int .i64)] (hm : L[i]? = some (mapo R b l)) (hx : a.eval x = .map (some b)) (hy : a.eval y = .int .i64 k) :
    DY P W0 L ⟨d, .call { callee := .builtin .delete, args := #[x, y], argTypes := #[t, u] }, ty, pos, aft, gd⟩ a fun a' L' => a.put d (.tuple #[]) = a' ∧ L' = L.set i (mapo R b (delM k l)) :=
  dy_val fun w s => by
    obtain ⟨w', hr, hs⟩ := (s.at_ hm).map_del (u := u) (ty := ty) ut.pf uk.pf k
    refine ⟨_, w', _, ?_, ⟨rfl, rfl⟩, hs.back hm⟩
    unfold execOp
    simp only [resolve, invoke, builtin, Sem.run_bind, Sem.run_pure, Result.andThen_ok, List.map_toArray, List.map_cons, List.map_nil, hx, hy, hr]
theorem dy_mkmap {α : Type} (R : MEnc α) {t : TypeId} : DY P W0 L ⟨d, .makeMap t none, ty, pos, aft, gd⟩ a fun a' L' => ∃ b, a.put d (.map (some b)) = a' ∧ L' = mapo R b [] :: L :=
  dy_val fun w s => ⟨_, w.alloc (.map #[] 0), _, by unfold execOp; simp [Instr.makeMap, newObj, Sem.run], ⟨w.heap.size, rfl, rfl⟩, by
    refine (s.alloc (.map #[] 0)).imp fun m h hb => ⟨#[], 0, hb, trivial, List.Pairwise.nil, fun e he => by cases he⟩⟩
theorem mapo_imp {α : Type} {R : MEnc α} {b : Nat} {l : List (Int × α)} {k : Int} {q : Nat × α} (hm : mapo R b l ∈ L) (hq : posM k l 0 = some q) : Sub L (im (R.im q.2) :: L) := fun m h s => by
  obtain ⟨a, _, es, clock, _, ha, _⟩ := s.mem hm
  have hq2 : l[q.1]? = some (k, q.2) := by simpa using (posM_lt hq).2.2
  obtain ⟨e, _, he⟩ := ha.get hq2
  exact ⟨Hp.none, h, Hp.none_dj _, Hp.none_le _, Hp.le_refl _, he.2.2, s⟩
end
end Go.Proofs.Ythbgmnoaaohbcaa
namespace Go.Proofs.Ythbgmnoaaohbcaa
open Go Go.RowKit
set_option linter.unusedVariables false
set_option linter.unusedSimpArgs false
set_option maxRecDepth 20000
set_option synthInstance.maxSize 100000
set_option synthInstance.maxHeartbeats 400000
section
variable {W0 : World} {L : List HP}
theorem valid_ct {vb : Value} {b : List UInt8} {s a : Int} {q : Bool} (hv : Src L eB vb b) (hq : decide (0 ≤ s ∧ 0 ≤ a ∧ b.length ≤ 65536 ∧ (0 < s ∨ b.length = 0)) = q) :
    CT Try.prog 43 #[.agg #[.int .i64 s, .int .i64 a, vb]] W0 L fun r L' => r = .bool q ∧ L' = L := by
  refine CT_fact (fun w s => (hv.sl s).form) ?_
  rintro ⟨A, cap, rfl, hcap⟩
  refine CT_enter Try.func43 rfl ?_; (simp only [Try.ntmps43, List.size_toArray, List.length_cons, List.length_nil, Nat.reduceAdd, Nat.reduceSub, Array.replicate_succ, Array.replicate_zero, List.push_toArray, List.append_toArray, List.nil_append, List.cons_append])
  repeat' (first | refine go ?_ | intro _ | (apply cG; first | refine cT ?_ | refine cF ?_ | refine cS (fun _ => ?_) fun _ => ?_) | (apply gW; refine sW ?_) | (apply gI; refine sI ?_) | (apply gE; refine sE ?_) | (apply gP; refine sP ?_) | (apply gC; refine sC ?_) | (apply gD; refine sD ?_) | fail)
  all_goals
    cases q
    · have h := of_decide_eq_false hq
      first | (exfalso; omega) | refine E_res1 (by rfl) (by rfl) ⟨rfl, rfl⟩ Sb
    · have h := of_decide_eq_true hq
      first | (exfalso; omega) | refine E_res1 (by rfl) (by rfl) ⟨rfl, rfl⟩ Sb
def lblP : ByteArray := ⟨#[112, 97, 114, 99, 101, 108]⟩
def coreP (s a : Int) (b : List UInt8) : List UInt8 := varint (zig s) ++ varint (zig a) ++ varint b.length ++ b
def encP (s a : Int) (b : List UInt8) : List UInt8 := varint (coreP s a b).length ++ coreP s a b ++ varint (bytesW lblP.data.toList (coreP s a b)).toNat
theorem wr_newO {ops : Array Oper} {Q : Exit → Act → World → Prop} {rest : List Oper} {a : Act} {p : Nat} (k : OL Try.prog W0 (wr p [] :: L) ops Q rest a) : OL Try.prog W0 (cel p [.slice none 0 0] 78 :: L) ops Q rest a :=
  ⟨fun w s => k.run w (wr_sub.st ((s.own_nil 5 eB).weak fun _ _ h => h.swap))⟩
theorem Encode_ct {vb : Value} {b : List UInt8} {s a : Int} (hv : Src L eB vb b) (h1 : 0 ≤ s) (h2 : s ≤ 9223372036854775807) (h3 : 0 ≤ a) (h4 : a ≤ 9223372036854775807) (hb : b.length ≤ 65536) (hz : 0 < s ∨ b.length = 0) :
    CT Try.prog 28 #[.agg #[.int .i64 s, .int .i64 a, vb]] W0 L fun r L' => ∃ A c, r = .tuple #[.slice A (encP s a b).length c, .int .i64 0] ∧ L' = own 5 eB (.slice A (encP s a b).length c) (encP s a b) :: L := by
  have hv : Sc L vb eB b := ⟨hv⟩
  have hz1 := vlen (m := zig s) (zig_lt (by omega) (by omega))
  have hz2 := vlen (m := zig a) (zig_lt (by omega) (by omega))
  have hz3 := vlen (m := b.length) (by omega)
  refine CT_enter Try.func28 rfl ?_; (simp only [Try.ntmps28, List.size_toArray, List.length_cons, List.length_nil, Nat.reduceAdd, Nat.reduceSub, Array.replicate_succ, Array.replicate_zero, List.push_toArray, List.append_toArray, List.nil_append, List.cons_append])
  have hcl : (coreP s a b).length ≤ b.length + 30 := by unfold coreP; simp only [List.length_append]; omega
  have hvc := vlen (m := (coreP s a b).length) (by omega)
  have hcore : ([] : List UInt8) ++ varint (zig s) ++ varint (zig a) ++ varint b.length ++ b = coreP s a b := by unfold coreP; simp
  repeat' (first | refine go ?_ | intro _ | (apply cG; first | refine cT ?_ | refine cF ?_ | refine cS (fun _ => ?_) fun _ => ?_) | (apply gW; refine sW ?_) | (apply gI; refine sI ?_) | (apply gE; refine sE ?_) | (apply gP; refine sP ?_) | (apply gC; refine sC ?_) | (apply gD; refine sD ?_) | fail)
  refine O_d (dy_call ArgsI.pf (by first | exact rfl | trivial | (intro a b; rfl)) (valid_ct (b := b) (q := true) Sc.pf (decide_eq_true (by omega)))) ?_; rintro _ _ ⟨_, ⟨rfl, hLL⟩, rfl⟩; replace hLL := hLL.symm; subst hLL; refine O_n ?_
  repeat' (first | refine go ?_ | intro _ | (apply cG; first | refine cT ?_ | refine cF ?_ | refine cS (fun _ => ?_) fun _ => ?_) | (apply gW; refine sW ?_) | (apply gI; refine sI ?_) | (apply gE; refine sE ?_) | (apply gP; refine sP ?_) | (apply gC; refine sC ?_) | (apply gD; refine sD ?_) | fail)
  refine wr_newO ?_
  refine O_sub (fun m h s => s.swap) ?_
  refine wr_newO ?_
  refine O_d (dy_call ArgsI.pf (by first | exact rfl | trivial | (intro a b; rfl)) (wInt_ct (n := s) (by omega) h2 (by decide))) ?_; rintro _ _ ⟨_, rfl, rfl⟩; refine O_n ?_
  repeat' (first | refine go ?_ | intro _ | (apply cG; first | refine cT ?_ | refine cF ?_ | refine cS (fun _ => ?_) fun _ => ?_) | (apply gW; refine sW ?_) | (apply gI; refine sI ?_) | (apply gE; refine sE ?_) | (apply gP; refine sP ?_) | (apply gC; refine sC ?_) | (apply gD; refine sD ?_) | fail)
  refine O_d (dy_call ArgsI.pf (by first | exact rfl | trivial | (intro a b; rfl)) (wInt_ct (n := a) (by omega) h4 (by simp only [List.length_append, List.length_nil]; omega))) ?_; rintro _ _ ⟨_, rfl, rfl⟩; refine O_n ?_
  repeat' (first | refine go ?_ | intro _ | (apply cG; first | refine cT ?_ | refine cF ?_ | refine cS (fun _ => ?_) fun _ => ?_) | (apply gW; refine sW ?_) | (apply gI; refine sI ?_) | (apply gE; refine sE ?_) | (apply gP; refine sP ?_) | (apply gC; refine sC ?_) | (apply gD; refine sD ?_) | fail)
  refine O_d (dy_call ArgsI.pf (by first | exact rfl | trivial | (intro a b; rfl)) (wRaw_ct (v := vb) (l := b) Sc.pf (by omega) (by simp only [List.length_append, List.length_nil]; omega))) ?_; rintro _ _ ⟨_, rfl, rfl⟩; refine O_n ?_
  rw [hcore]
  obtain ⟨c, hc⟩ : ∃ c, coreP s a b = c := ⟨_, rfl⟩
  have hench : encP s a b = varint c.length ++ c ++ varint (bytesW lblP.data.toList c).toNat := by unfold encP; rw [hc]
  rw [hc] at hcl hvc ⊢
  repeat' (first | refine go ?_ | intro _ | (apply cG; first | refine cT ?_ | refine cF ?_ | refine cS (fun _ => ?_) fun _ => ?_) | (apply gW; refine sW ?_) | (apply gI; refine sI ?_) | (apply gE; refine sE ?_) | (apply gP; refine sP ?_) | (apply gC; refine sC ?_) | (apply gD; refine sD ?_) | fail)
  refine O_d (dy_call ArgsI.pf (by first | exact rfl | trivial | (intro a b; rfl)) (wDone_ct (by omega))) ?_; rintro _ _ ⟨_, ⟨A1, c1, rfl, rfl⟩, rfl⟩; refine O_n ?_
  refine O_d (dy_call ArgsI.pf (by first | exact rfl | trivial | (intro a b; rfl)) (CT.pull (i := 2) (by rfl) (wRaw_ct (l := c) Sc.pf (by omega) (by decide)))) ?_; rintro _ _ ⟨_, rfl, rfl⟩; refine O_n ?_
  repeat' (first | refine go ?_ | intro _ | (apply cG; first | refine cT ?_ | refine cF ?_ | refine cS (fun _ => ?_) fun _ => ?_) | (apply gW; refine sW ?_) | (apply gI; refine sI ?_) | (apply gE; refine sE ?_) | (apply gP; refine sP ?_) | (apply gC; refine sC ?_) | (apply gD; refine sD ?_) | fail)
  rw [List.nil_append]
  refine O_d (dy_call ArgsI.pf (by first | exact rfl | trivial | (intro a b; rfl)) (CT.pull (i := 2) (by rfl) (wDone_ct (by omega)))) ?_; rintro _ _ ⟨_, ⟨A2, c2, rfl, rfl⟩, rfl⟩; refine O_n ?_
  obtain ⟨z, hz⟩ : ∃ z, bytesW lblP.data.toList c = z := ⟨_, rfl⟩
  rw [hz] at hench
  have hzl := z.toNat_lt
  refine O_d (dy_call ArgsI.pf (by first | exact rfl | trivial | (intro a b; rfl)) (hBytes_ct (s := lblP) (l := c) Sc.pf (by decide) (by omega) hz)) ?_; rintro _ _ ⟨_, ⟨rfl, hLL⟩, rfl⟩; replace hLL := hLL.symm; subst hLL; refine O_n ?_
  refine O_d (dy_call ArgsI.pf (by first | exact rfl | trivial | (intro a b; rfl)) (CT.pull (i := 2) (by rfl) (wUint_ct (m := z.toNat) hzl (by rw [List.length_append]; omega)))) ?_; rintro _ _ ⟨_, rfl, rfl⟩; refine O_n ?_
  rw [← hench]
  have hel : (encP s a b).length ≤ 100000000 := by
    have := vlen hzl
    rw [hench]
    simp only [List.length_append]
    omega
  repeat' (first | refine go ?_ | intro _ | (apply cG; first | refine cT ?_ | refine cF ?_ | refine cS (fun _ => ?_) fun _ => ?_) | (apply gW; refine sW ?_) | (apply gI; refine sI ?_) | (apply gE; refine sE ?_) | (apply gP; refine sP ?_) | (apply gC; refine sC ?_) | (apply gD; refine sD ?_) | fail)
  refine O_d (dy_call ArgsI.pf (by first | exact rfl | trivial | (intro a b; rfl)) (wDone_ct (by omega))) ?_; rintro _ _ ⟨_, ⟨A3, c3, rfl, rfl⟩, rfl⟩; refine O_n ?_
  repeat' (first | refine go ?_ | intro _ | (apply cG; first | refine cT ?_ | refine cF ?_ | refine cS (fun _ => ?_) fun _ => ?_) | (apply gW; refine sW ?_) | (apply gI; refine sI ?_) | (apply gE; refine sE ?_) | (apply gP; refine sP ?_) | (apply gC; refine sC ?_) | (apply gD; refine sD ?_) | fail)
  refine E_res2 (by rfl) (by rfl) ⟨_, _, rfl, rfl⟩ Sb
end
end Go.Proofs.Ythbgmnoaaohbcaa
namespace Go.Proofs.Ythbgmnoaaohbcaa
open Go Go.RowKit
set_option linter.unusedVariables false
set_option linter.unusedSimpArgs false
theorem ofNat_toNat8 {c : Nat} (h : c < 256) : (UInt8.ofNat c).toNat = c := by
  simp [UInt8.toNat_ofNat']
  omega
theorem rUi_varint (m : Nat) : ∀ (i n : Nat) (t : List UInt8), m * 128 ^ i < 18446744073709551616 → (0 < m ∨ i = 0) → rUi i n (varint m ++ t) = (n + m * 128 ^ i, (t, 0)) := by
  induction m using varint.induct with
  | case1 m h =>
    intro i n t hb hp
    rw [varint_small h, List.cons_append, List.nil_append, rUi, ofNat_toNat8 (by omega), if_neg, if_pos h]
    rintro (⟨rfl, h1⟩ | ⟨h1, h2⟩)
    · have e9 : (128 : Nat) ^ 9 = 9223372036854775808 := by decide
      rw [e9] at hb
      omega
    · omega
  | case2 m h ih =>
    intro i n t hb hp
    have hc : (UInt8.ofNat (m % 128 + 128)).toNat = m % 128 + 128 := ofNat_toNat8 (by omega)
    have hm : m = m / 128 * 128 + m % 128 := by omega
    have e1 : m / 128 * 128 ^ (i + 1) + m % 128 * 128 ^ i = m * 128 ^ i := by
      rw [Nat.pow_succ, Nat.mul_comm (128 ^ i) 128, ← Nat.mul_assoc, ← Nat.add_mul, ← hm]
    rw [varint_big h, List.cons_append, rUi, hc, if_neg, if_neg (by omega), ih _ _ _ (by omega) (.inl (by omega))]
    · congr 1
      rw [Nat.add_sub_cancel]
      omega
    · rintro (⟨rfl, h1⟩ | ⟨h1, h2⟩)
      · have e9 : (128 : Nat) ^ 9 = 9223372036854775808 := by decide
        rw [e9] at hb
        omega
      · omega
theorem rU_varint {m : Nat} (h : m < 18446744073709551616) (t : List UInt8) : rU (varint m ++ t, 0) = (m, (t, 0)) := by
  unfold rU
  rw [if_pos rfl, rUi_varint m 0 0 t (by simpa using h) (.inr rfl)]
  simp
theorem unzig_zig (n : Int) : unzig (zig n) = n := by
  unfold unzig zig
  split <;> split <;> omega
theorem rI_zig {n : Int} (h1 : -9223372036854775808 ≤ n) (h2 : n ≤ 9223372036854775807) (t : List UInt8) : rI (varint (zig n) ++ t, 0) = (n, (t, 0)) := by
  unfold rI
  rw [rU_varint (zig_lt h1 h2), unzig_zig]
theorem rB_bool (b : Bool) (t : List UInt8) : rB (varint (if b = true then 1 else 0) ++ t, 0) = (b, (t, 0)) := by
  cases b
  · rw [if_neg (by decide), varint_small (by decide)]; rfl
  · rw [if_pos rfl, varint_small (by decide)]; rfl
theorem rMany_bytes : ∀ (l t : List UInt8), rMany rNext l.length (l ++ t, 0) = (l, (t, 0))
  | [], t => rfl
  | c :: l, t => by
    rw [List.length_cons, rMany, if_pos rfl]
    have : rNext (c :: l ++ t, 0) = (c, (l ++ t, 0)) := rfl
    rw [this, rMany_bytes l t]
theorem rMany_ints : ∀ (l : List Int) (t : List UInt8), (∀ n ∈ l, -9223372036854775808 ≤ n ∧ n ≤ 9223372036854775807) → rMany rI l.length (encI l ++ t, 0) = (l, (t, 0))
  | [], t, _ => rfl
  | n :: l, t, h => by
    rw [List.length_cons, rMany, if_pos rfl]
    have hn := h n (.head _)
    have : rI (encI (n :: l) ++ t, 0) = (n, (encI l ++ t, 0)) := by
      rw [← rI_zig hn.1 hn.2]
      simp [encI]
    rw [this, rMany_ints l t fun x hx => h x (.tail _ hx)]
theorem rList_of {α : Type} {f : Rs → α × Rs} {s : Rs} {n : Nat} {b t : List UInt8} {l : List α} (h1 : rU s = (n, (b, 0))) (h2 : n ≤ b.length) (h3 : rMany f n (b, 0) = (l, (t, 0))) : rList f s = (l, (t, 0)) := by
  have e : rList f s = (if (rMany f (rU s).1 (if (rU s).2.1.length < (rU s).1 then rFail (rU s).2 3 else (rU s).2)).2.2 = 0 then (rMany f (rU s).1 (if (rU s).2.1.length < (rU s).1 then rFail (rU s).2 3 else (rU s).2)).1 else [], (rMany f (rU s).1 (if (rU s).2.1.length < (rU s).1 then rFail (rU s).2 3 else (rU s).2)).2) := rfl
  rw [e, h1]
  dsimp only
  rw [if_neg (Nat.not_lt.2 h2), h3]
  rfl
theorem rRaw_enc {l : List UInt8} (hl : l.length < 18446744073709551616) (t : List UInt8) : rList rNext (varint l.length ++ l ++ t, 0) = (l, (t, 0)) := by
  refine rList_of (n := l.length) (b := l ++ t) ?_ (by simp) (rMany_bytes l t)
  rw [List.append_assoc, rU_varint hl]
theorem varint_pos (m : Nat) : 1 ≤ (varint m).length := by rw [varint_len]; exact sizeV_pos m
theorem encI_ge : ∀ (l : List Int), l.length ≤ (encI l).length
  | [] => Nat.le_refl _
  | n :: l => by
    have h := varint_pos (zig n)
    have := encI_ge l
    simp only [encI, List.map_cons, List.flatten_cons, List.length_append, List.length_cons] at this ⊢
    omega
theorem rInts_enc {l : List Int} (h : ∀ n ∈ l, -9223372036854775808 ≤ n ∧ n ≤ 9223372036854775807) (hl : l.length < 18446744073709551616) (t : List UInt8) : rList rI (varint l.length ++ encI l ++ t, 0) = (l, (t, 0)) := by
  refine rList_of (n := l.length) (b := encI l ++ t) ?_ (by have := encI_ge l; simp; omega) (rMany_ints l t h)
  rw [List.append_assoc, rU_varint hl]
end Go.Proofs.Ythbgmnoaaohbcaa
