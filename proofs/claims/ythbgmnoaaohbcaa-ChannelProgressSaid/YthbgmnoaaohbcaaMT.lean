/-
  Walks: the law's two ends; plain laws of In.
-/
import Derived.Test.YthbgmnoaaohbcaaMS
namespace Go.Proofs.Ythbgmnoaaohbcaa
open Go Go.RowKit
set_option linter.unusedVariables false
set_option linter.unusedSimpArgs false
set_option maxRecDepth 20000
set_option synthInstance.maxSize 100000
set_option synthInstance.maxHeartbeats 400000
/-- pointers to ends -/
def pv (p : Nat) : Value := .pointer (some ⟨p, 0, none⟩)
def ePt : Enc Nat := e1 pv fun _ => rfl
instance : Sz ePt 1 := ⟨rfl⟩
instance {p : Nat} : EncC ePt p [.pointer (some ⟨p, 0, none⟩)] := ⟨fun _ _ h => h⟩
theorem tdiv_bd {n d : Int} (hd : 1 ≤ d) (h1 : -9223372036854775808 ≤ n) (h2 : n ≤ 9223372036854775807) : -9223372036854775808 ≤ n.tdiv d ∧ n.tdiv d ≤ 9223372036854775807 := by
  rcases Int.le_total 0 n with h | h
  · have h3 := Int.tdiv_nonneg (b := d) h (by omega)
    have h4 : n.tdiv d ≤ n := by rw [Int.tdiv_eq_ediv_of_nonneg h]; exact Int.ediv_le_self d h
    omega
  · have e : n.tdiv d = -((-n).tdiv d) := by rw [Int.neg_tdiv, Int.neg_neg]
    have h3 := Int.tdiv_nonneg (a := -n) (b := d) (by omega) (by omega)
    have h4 : (-n).tdiv d ≤ -n := by rw [Int.tdiv_eq_ediv_of_nonneg (by omega)]; exact Int.ediv_le_self d (by omega)
    omega
section
variable {W0 : World} {L : List HP}
theorem ends_ct {window : Int} (hw1 : -9223372036854775808 ≤ window) (hw2 : window ≤ 9223372036854775807) :
    CT Try.prog 10 #[.int .i64 window] W0 L fun r L' => ∃ g pa pb wa wb, (1 ≤ wa ∧ wa ≤ 16 ∧ 1 ≤ wb ∧ wb ≤ 16) ∧ wa = 1 + around window 16 ∧ wb = 1 + around (window.tdiv 16) 16 ∧ r = .slice (some ⟨g, 0, none⟩) 2 2 ∧ L' = rd ePt (.slice (some ⟨g, 0, none⟩) 2 2) [pa, pb] :: ende pa ⟨wa, 0, 0, [], [], false⟩ :: ende pb ⟨wb, 0, 0, [], [], false⟩ :: L := by
  have ha := around_in (n := window) (most := 16) (by decide)
  have hb := around_in (n := window.tdiv 16) (most := 16) (by decide)
  have hq1 : -9223372036854775808 ≤ window.tdiv 16 ∧ window.tdiv 16 ≤ 9223372036854775807 := by
    exact tdiv_bd (by decide) hw1 hw2
  have hq : IntKind.i64.wrap (window.tdiv 16) = window.tdiv 16 := wr_i64 (by omega) (by omega)
  obtain ⟨wa, hwa⟩ : ∃ wa, 1 + around window 16 = wa := ⟨_, rfl⟩
  obtain ⟨wb, hwb⟩ : ∃ wb, 1 + around (window.tdiv 16) 16 = wb := ⟨_, rfl⟩
  refine CT_enter Try.func10 rfl ?_; (simp only [Try.ntmps10, List.size_toArray, List.length_cons, List.length_nil, Nat.reduceAdd, Nat.reduceSub, Array.replicate_succ, Array.replicate_zero, List.push_toArray, List.append_toArray, List.nil_append, List.cons_append])
  repeat' (first | refine go ?_ | intro _ | (apply cG; first | refine cT ?_ | refine cF ?_ | refine cS (fun _ => ?_) fun _ => ?_) | (apply gW; refine sW ?_) | (apply gI; refine sI ?_) | (apply gE; refine sE ?_) | (apply gP; refine sP ?_) | (apply gC; refine sC ?_) | (apply gD; refine sD ?_) | fail)
  refine O_d (dy_call ArgsI.pf (by first | exact rfl | trivial | (intro a b; rfl)) (Around_ct (most := 16) hw1 hw2 (by decide) (by decide))) ?_; rintro _ _ ⟨_, ⟨rfl, hLL⟩, rfl⟩; replace hLL := hLL.symm; subst hLL; refine O_n ?_
  repeat' (first | refine go ?_ | intro _ | (apply cG; first | refine cT ?_ | refine cF ?_ | refine cS (fun _ => ?_) fun _ => ?_) | (apply gW; refine sW ?_) | (apply gI; refine sI ?_) | (apply gE; refine sE ?_) | (apply gP; refine sP ?_) | (apply gC; refine sC ?_) | (apply gD; refine sD ?_) | fail)
  rw [hwa]
  refine O_d (dy_call ArgsI.pf (by first | exact rfl | trivial | (intro a b; rfl)) (New_e (w := wa) (by omega) (by omega))) ?_; rintro _ _ ⟨_, ⟨pa, rfl, rfl⟩, rfl⟩; refine O_n ?_
  repeat' (first | refine go ?_ | intro _ | (apply cG; first | refine cT ?_ | refine cF ?_ | refine cS (fun _ => ?_) fun _ => ?_) | fail)
  apply gW; refine sW (r := window.tdiv 16) ?_ ⟨by decide, hq⟩
  repeat' (first | refine go ?_ | intro _ | (apply cG; first | refine cT ?_ | refine cF ?_ | refine cS (fun _ => ?_) fun _ => ?_) | (apply gW; refine sW ?_) | (apply gI; refine sI ?_) | (apply gE; refine sE ?_) | (apply gP; refine sP ?_) | (apply gC; refine sC ?_) | (apply gD; refine sD ?_) | fail)
  refine O_d (dy_call ArgsI.pf (by first | exact rfl | trivial | (intro a b; rfl)) (Around_ct (most := 16) hq1.1 hq1.2 (by decide) (by decide))) ?_; rintro _ _ ⟨_, ⟨rfl, hLL⟩, rfl⟩; replace hLL := hLL.symm; subst hLL; refine O_n ?_
  repeat' (first | refine go ?_ | intro _ | (apply cG; first | refine cT ?_ | refine cF ?_ | refine cS (fun _ => ?_) fun _ => ?_) | (apply gW; refine sW ?_) | (apply gI; refine sI ?_) | (apply gE; refine sE ?_) | (apply gP; refine sP ?_) | (apply gC; refine sC ?_) | (apply gD; refine sD ?_) | fail)
  rw [hwb]
  refine O_d (dy_call ArgsI.pf (by first | exact rfl | trivial | (intro a b; rfl)) (New_e (w := wb) (by omega) (by omega))) ?_; rintro _ _ ⟨_, ⟨pb, rfl, rfl⟩, rfl⟩; refine O_n ?_
  repeat' (first | refine go ?_ | intro _ | (apply cG; first | refine cT ?_ | refine cF ?_ | refine cS (fun _ => ?_) fun _ => ?_) | (apply gW; refine sW ?_) | (apply gI; refine sI ?_) | (apply gE; refine sE ?_) | (apply gP; refine sP ?_) | (apply gC; refine sC ?_) | (apply gD; refine sD ?_) | fail)
  refine O_d (dy_litP (f := pv) (hf := fun _ => rfl) [pa, pb] (by rfl)) ?_; rintro _ _ ⟨_, rfl, rfl⟩; refine O_n ?_
  refine O_frz 0 ?_
  repeat' (first | refine go ?_ | intro _ | (apply cG; first | refine cT ?_ | refine cF ?_ | refine cS (fun _ => ?_) fun _ => ?_) | (apply gW; refine sW ?_) | (apply gI; refine sI ?_) | (apply gE; refine sE ?_) | (apply gP; refine sP ?_) | (apply gC; refine sC ?_) | (apply gD; refine sD ?_) | fail)
  rename_i g
  exact E_res1 (by rfl) (by rfl) ⟨g, pa, pb, wa, wb, ⟨by omega, by omega, by omega, by omega⟩, by first | rfl | exact hwa.symm, by first | rfl | exact hwb.symm, rfl, rfl⟩ Sb
end
end Go.Proofs.Ythbgmnoaaohbcaa
namespace Go.Proofs.Ythbgmnoaaohbcaa
open Go Go.RowKit
set_option linter.unusedVariables false
set_option linter.unusedSimpArgs false
/-- the messages of ChannelProgress -/
def Mg (m : Nat) : List (List UInt8) := (List.range m).map fun i => [UInt8.ofNat i]
theorem Mg_len (m : Nat) : (Mg m).length = m := by simp [Mg]
theorem Mg_get {m i : Nat} (h : i < m) : (Mg m)[i]? = some [UInt8.ofNat i] := by
  simp [Mg, h]
theorem Mg_succ (m : Nat) : Mg (m + 1) = Mg m ++ [[UInt8.ofNat m]] := by
  simp [Mg, List.range_succ]
theorem Mg_one {m : Nat} {x : List UInt8} (h : x ∈ Mg m) : x.length = 1 := by
  simp only [Mg, List.mem_map] at h
  obtain ⟨i, _, rfl⟩ := h
  rfl
def mkE (w : Int) (a g m : Nat) (ow : Bool) : PE := ⟨w, a, g, (Mg m).drop a, [], ow⟩
theorem mkE_good {w : Int} {a g m : Nat} {ow : Bool} (ha : a ≤ m) (hg : g ≤ 1000) (hm : m ≤ 1000) : (mkE w a g m ow).good :=
  ⟨by show (0 : Int) ≤ a; omega, by show (a : Int) ≤ 1000000000000; omega, by show (0 : Int) ≤ g; omega, by show (g : Int) ≤ 1000000000000; omega, by show ((Mg m).drop a).length ≤ 1000; rw [List.length_drop, Mg_len]; omega, Nat.zero_le _⟩
theorem inP_next {w : Int} {a g m A : Nat} {ow : Bool} {x : SB} (ha : a ≤ m) (hA : A ≤ m) (hx : x.b.length = 1) :
    inP (mkE w a g m ow) ((g : Int) + 1) (A : Int) x = (mkE w (max a A) (g + 1) m true, [x.b]) := by
  have hwl : ((Mg m).drop a).length = m - a := by rw [List.length_drop, Mg_len]
  have hc : canP (mkE w a g m ow) ((g : Int) + 1) (A : Int) x.b := ⟨⟨by omega, by omega, by omega, .inl (by omega)⟩, by show (A : Int) ≤ (a : Int) + ((Mg m).drop a).length; omega, by show (g : Int) + 1 ≤ (g : Int) + 16; omega⟩
  have hs : ¬ ((g : Int) + 1 = 0) := by omega
  have hH : heldP (mkE w a g m ow) ((g : Int) + 1) x = [((g : Int) + 1, x)] := by
    unfold heldP
    rw [if_pos ⟨by show (g : Int) < (g : Int) + 1; omega, rfl⟩]
    rfl
  have hp : posM ((g : Int) + 1) [((g : Int) + 1, x)] 0 = some (0, x) := by simp [posM]
  have hd : drain 1 (g : Int) [((g : Int) + 1, x)] = ((g : Int) + 1, [], [x.b]) := by
    rw [drain_some hp]
    have : delM ((g : Int) + 1) [((g : Int) + 1, x)] = [] := by
      unfold delM
      rw [hp]
      rfl
    rw [this]
    rfl
  rw [inP, if_pos hc, if_neg hs, hH]
  have hl : [((g : Int) + 1, x)].length = 1 := rfl
  rw [hl]
  dsimp only [mkE]
  have e1 : max (a : Int) (A : Int) = ((max a A : Nat) : Int) := by omega
  have e2 : ((Mg m).drop a).drop ((A : Int) - (a : Int)).toNat = (Mg m).drop (max a A) := by
    rw [List.drop_drop]
    congr 1
    omega
  rw [e1, e2, hd]
  rfl
theorem inP_ack {w : Int} {a g m A : Nat} {ow : Bool} {x : SB} (ha : a ≤ m) (hA : A ≤ m) (hx : x.b = []) :
    inP (mkE w a g m ow) 0 (A : Int) x = (mkE w (max a A) g m ow, []) := by
  have hwl : ((Mg m).drop a).length = m - a := by rw [List.length_drop, Mg_len]
  have hc : canP (mkE w a g m ow) 0 (A : Int) x.b := ⟨⟨Int.le_refl _, by omega, by rw [hx]; exact Nat.zero_le _, .inr (by rw [hx]; rfl)⟩, by show (A : Int) ≤ (a : Int) + ((Mg m).drop a).length; omega, by show (0 : Int) ≤ (g : Int) + 16; omega⟩
  rw [inP, if_pos hc, if_pos rfl]
  dsimp only [mkE]
  have e1 : max (a : Int) (A : Int) = ((max a A : Nat) : Int) := by omega
  have e2 : ((Mg m).drop a).drop ((A : Int) - (a : Int)).toNat = (Mg m).drop (max a A) := by
    rw [List.drop_drop]
    congr 1
    omega
  rw [e1, e2]
/-- one end's packets, taken one by one -/
structure Half (l : List PK) (E : PE) (g : Nat) (R : Nat → PE) (G : Nat → Nat) (O : Nat → List (List UInt8)) : Prop where
  r0 : R 0 = E
  g0 : G 0 = g
  st : ∀ (i : Nat) (x : PK) (y : SB), l[i]? = some x → y.b = x.b → inP (R i) x.s x.a y = (R (i + 1), O i)
  o : ∀ (i : Nat) (x : PK), l[i]? = some x → (O i = [] ∧ G (i + 1) = G i) ∨ (O i = [[UInt8.ofNat (G i)]] ∧ G (i + 1) = G i + 1)
  good : ∀ i, i ≤ l.length → (R i).good
  gb : ∀ i, i ≤ l.length → G i ≤ 41
  bl : ∀ x ∈ l, x.b.length ≤ 1
theorem half {l : List PK} {ws wr : Int} {c gs ms ar mr : Nat} {ows owr : Bool} (h1 : 1 ≤ ws) (hl : l.map PK.p = outP ws c gs ((Mg ms).drop c) ows) (hc : c ≤ ms) (hgs : gs ≤ mr) (har : ar ≤ mr) (hms : ms ≤ 41) (hmr : mr ≤ 41) :
    ∃ R G O, Half l (mkE wr ar c mr owr) c R G O ∧ G l.length = c + min ws.toNat (ms - c) ∧ R l.length = mkE wr (if 0 < ms - c ∨ ows = true then max ar gs else ar) (c + min ws.toNat (ms - c)) mr (owr || decide (0 < ms - c)) := by
  have hwl : ((Mg ms).drop c).length = ms - c := by rw [List.length_drop, Mg_len]
  by_cases hd : 0 < ms - c
  · have hne : (Mg ms).drop c ≠ [] := fun h => by rw [h] at hwl; simp at hwl; omega
    have hll := outP_length hl (.inl hne)
    rw [hwl] at hll
    have hget := fun j x => outP_get (j := j) (x := x) hl (.inl hne)
    have hxi : ∀ (i : Nat) (x : PK), l[i]? = some x → x.s = ((c + i : Nat) : Int) + 1 ∧ x.a = (gs : Int) ∧ x.b = [UInt8.ofNat (c + i)] ∧ c + i < ms := by
      intro i x hx
      obtain ⟨e1, e2, e3⟩ := hget i x hx
      have hlt := (List.getElem?_eq_some_iff.1 hx).1
      rw [List.getElem?_drop, Mg_get (by omega)] at e3
      injection e3 with e3
      exact ⟨by omega, e2, e3.symm, by omega⟩
    refine ⟨fun i => if i = 0 then mkE wr ar c mr owr else mkE wr (max ar gs) (c + i) mr true, fun i => c + i, fun i => [[UInt8.ofNat (c + i)]], ⟨rfl, rfl, ?_, fun i x hx => .inr ⟨rfl, rfl⟩, ?_, fun i hi => by (try dsimp only); omega, fun x hx => ?_⟩, by rw [hll], ?_⟩
    · intro i x y hx hy
      obtain ⟨e1, e2, e3, e4⟩ := hxi i x hx
      have hy1 : y.b.length = 1 := by rw [hy, e3]; rfl
      (try dsimp only)
      rw [if_neg (by omega : ¬ i + 1 = 0), e1, e2]
      by_cases h0 : i = 0
      · subst h0
        rw [if_pos rfl, Nat.add_zero, inP_next har hgs hy1, hy, e3]
        rfl
      · rw [if_neg h0, inP_next (by omega) hgs hy1, hy, e3]
        have : max (max ar gs) gs = max ar gs := by omega
        rw [this]
        rfl
    · intro i hi
      (try dsimp only)
      split
      · exact mkE_good har (by omega) (by omega)
      · exact mkE_good (by omega) (by omega) (by omega)
    · obtain ⟨i, hi⟩ := List.getElem?_of_mem hx
      rw [(hxi i x hi).2.2.1]
      exact Nat.le_refl _
    · (try dsimp only)
      rw [if_neg (by omega), if_pos (.inl hd), hll, decide_eq_true hd, Bool.or_true]
  · have hz : ms - c = 0 := by omega
    have hw0 : (Mg ms).drop c = [] := List.length_eq_zero_iff.1 (by rw [hwl]; exact hz)
    rw [hw0] at hl
    rw [hz]
    have hmin : min ws.toNat 0 = 0 := by omega
    rw [hmin, Nat.add_zero]
    cases ows
    · have hl0 : l = [] := by
        have : l.map PK.p = [] := by
          rw [hl, outP, if_neg (fun h => by cases h.2)]
          simp [pkL]
        exact List.map_eq_nil_iff.1 this
      subst hl0
      refine ⟨fun _ => mkE wr ar c mr owr, fun _ => c, fun _ => [], ⟨rfl, rfl, fun i x y hx => by simp at hx, fun i x hx => by simp at hx, fun i _ => mkE_good har (by omega) (by omega), fun i _ => by (try dsimp only); omega, fun x hx => by cases hx⟩, rfl, ?_⟩
      simp
    · rw [outP, if_pos ⟨rfl, rfl⟩] at hl
      obtain ⟨x0, rfl⟩ : ∃ x0, l = [x0] := by
        have := congrArg List.length hl
        rw [List.length_map] at this
        match l, this with
        | [x0], _ => exact ⟨x0, rfl⟩
      simp only [List.map_cons, List.map_nil, PK.p, List.cons.injEq, Prod.mk.injEq, and_true] at hl
      obtain ⟨e1, e2, e3⟩ := hl
      refine ⟨fun i => if i = 0 then mkE wr ar c mr owr else mkE wr (max ar gs) c mr owr, fun _ => c, fun _ => [], ⟨rfl, rfl, fun i x y hx hy => ?_, fun i x _ => .inl ⟨rfl, rfl⟩, fun i _ => ?_, fun i _ => by (try dsimp only); omega, fun x hx => ?_⟩, rfl, ?_⟩
      · obtain rfl : i = 0 := by
          have := (List.getElem?_eq_some_iff.1 hx).1
          simp at this
          exact this
        simp at hx
        subst hx
        rw [e1, e2]
        (try dsimp only)
        rw [if_pos rfl, if_neg (by decide), inP_ack har hgs (by rw [hy, e3])]
      · (try dsimp only)
        split
        · exact mkE_good har (by omega) (by omega)
        · exact mkE_good (by omega) (by omega) (by omega)
      · simp only [List.mem_cons, List.not_mem_nil, or_false] at hx
        subst hx
        rw [e3]
        exact Nat.zero_le _
      · simp
/-- where the rounds stand -/
structure PS where
  a0 : Nat
  g0 : Nat
  a1 : Nat
  g1 : Nat
  q0 : Bool
  q1 : Bool
/-- at the beginning of round r -/
structure PI (m0 m1 r : Nat) (k : PS) : Prop where
  e : k.a0 = k.g1
  le0 : k.a0 ≤ m0
  le1 : k.a1 ≤ k.g0
  le2 : k.g0 ≤ m1
  ow : k.a1 < k.g0 → k.q0 = true
  p0 : min m0 r ≤ k.a0
  p1 : min m1 r ≤ k.g0
  p2 : min m1 (r - 1) ≤ k.a1
/-- in its middle -/
structure PJ (m0 m1 r : Nat) (k : PS) : Prop where
  e : k.a1 = k.g0
  le0 : k.a0 ≤ k.g1
  le1 : k.g1 ≤ m0
  le2 : k.g0 ≤ m1
  ow : k.a0 < k.g1 → k.q1 = true
  q : k.q0 = false
  p0 : min m0 (r + 1) ≤ k.g1
  p1 : min m1 r ≤ k.g0
theorem PI.mid {m0 m1 r : Nat} {w : Nat} {k : PS} (h : PI m0 m1 r k) (hw : 1 ≤ w) : PJ m0 m1 r ⟨k.a0, k.g0, (if 0 < m0 - k.a0 ∨ k.q0 = true then max k.a1 k.g0 else k.a1), k.a0 + min w (m0 - k.a0), false, k.q1 || decide (0 < m0 - k.a0)⟩ := by
  obtain ⟨e, le0, le1, le2, ow, p0, p1, p2⟩ := h
  refine ⟨?_, by dsimp only; omega, by dsimp only; omega, le2, ?_, rfl, by dsimp only; omega, p1⟩
  · dsimp only
    split
    · omega
    · rename_i hn
      have h2 : ¬ k.a1 < k.g0 := fun hh => hn (.inr (ow hh))
      omega
  · intro hlt
    dsimp only at hlt ⊢
    have : 0 < m0 - k.a0 := by omega
    rw [decide_eq_true this, Bool.or_true]
theorem PJ.next {m0 m1 r : Nat} {w : Nat} {k : PS} (h : PJ m0 m1 r k) (hw : 1 ≤ w) : PI m0 m1 (r + 1) ⟨(if 0 < m1 - k.a1 ∨ k.q1 = true then max k.a0 k.g1 else k.a0), k.a1 + min w (m1 - k.a1), k.a1, k.g1, k.q0 || decide (0 < m1 - k.a1), false⟩ := by
  obtain ⟨e, le0, le1, le2, ow, q, p0, p1⟩ := h
  have ha : (if 0 < m1 - k.a1 ∨ k.q1 = true then max k.a0 k.g1 else k.a0) = k.g1 := by
    split
    · omega
    · rename_i hn
      have h2 : ¬ k.a0 < k.g1 := fun hh => hn (.inr (ow hh))
      omega
  rw [ha]
  refine ⟨rfl, le1, by dsimp only; omega, by dsimp only; omega, ?_, p0, by dsimp only; omega, by dsimp only; omega⟩
  intro hlt
  dsimp only at hlt ⊢
  have : 0 < m1 - k.a1 := by omega
  rw [decide_eq_true this, Bool.or_true]
end Go.Proofs.Ythbgmnoaaohbcaa
namespace Go.Proofs.Ythbgmnoaaohbcaa
open Go Go.RowKit
set_option linter.unusedVariables false
set_option linter.unusedSimpArgs false
theorem posM_mem {α : Type} {k : Int} {l : List (Int × α)} {q : Nat × α} (h : posM k l 0 = some q) : l[q.1]? = some (k, q.2) := by
  simpa using (posM_lt h).2.2
theorem erase_map {α β : Type} (f : α → β) : ∀ (l : List α) (n : Nat), (l.eraseIdx n).map f = (l.map f).eraseIdx n
  | [], _ => rfl
  | _ :: _, 0 => rfl
  | a :: l, n + 1 => by
    show f a :: (l.eraseIdx n).map f = f a :: (l.map f).eraseIdx n
    rw [erase_map f l n]
def KU {α : Type} (h : List (Int × α)) : Prop := (h.map Prod.fst).Nodup
theorem mem_eraseIdx_ne {α : Type} : ∀ {l : List α} {n : Nat} {x y : α}, l.Nodup → l[n]? = some x → y ∈ l.eraseIdx n → y ∈ l ∧ y ≠ x
  | [], n, x, y, _, h, _ => by simp at h
  | a :: l, 0, x, y, hn, h, hy => by
    simp at h hy
    subst h
    refine ⟨.tail _ hy, fun e => ?_⟩
    subst e
    exact (List.nodup_cons.1 hn).1 hy
  | a :: l, n + 1, x, y, hn, h, hy => by
    simp at h hy
    obtain ⟨h1, h2⟩ := List.nodup_cons.1 hn
    rcases hy with rfl | hy
    · refine ⟨.head _, fun e => ?_⟩
      subst e
      exact h1 (List.mem_of_getElem? h)
    · obtain ⟨h3, h4⟩ := mem_eraseIdx_ne h2 h hy
      exact ⟨.tail _ h3, h4⟩
theorem delM_mem {α : Type} {k : Int} {l : List (Int × α)} {q : Nat × α} (hu : KU l) (hp : posM k l 0 = some q) {p : Int × α} (h : p ∈ delM k l) : p ∈ l ∧ p.1 ≠ k := by
  have hq := posM_mem hp
  unfold delM at h
  rw [hp] at h
  dsimp only at h
  refine ⟨List.mem_of_mem_eraseIdx h, ?_⟩
  have h1 : p.1 ∈ (l.map Prod.fst).eraseIdx q.1 := by
    rw [← erase_map]
    exact List.mem_map.2 ⟨p, h, rfl⟩
  have h2 : (l.map Prod.fst)[q.1]? = some k := by rw [List.getElem?_map, hq]; rfl
  exact (mem_eraseIdx_ne hu h2 h1).2
theorem KU_del {α : Type} {k : Int} {l : List (Int × α)} (hu : KU l) : KU (delM k l) := by
  unfold delM
  split
  · unfold KU
    rw [erase_map]
    exact hu.sublist (List.eraseIdx_sublist _ _)
  · exact hu
theorem KU_add {α : Type} {k : Int} {x : α} {l : List (Int × α)} (hu : KU l) (hn : posM k l 0 = none) : KU (l ++ [(k, x)]) := by
  have h := posM_none.1 hn
  unfold KU at hu ⊢
  rw [List.map_append]
  refine List.nodup_append.2 ⟨hu, by simp, fun a ha b hb => ?_⟩
  simp at hb
  subst hb
  obtain ⟨p, hp, rfl⟩ := List.mem_map.1 ha
  exact h p hp
/-- what is held are later messages of S, each once -/
structure HeldOk (S : List (List UInt8)) (g : Int) (h : List (Int × SB)) : Prop where
  u : KU h
  m : ∀ p ∈ h, g < p.1 ∧ p.1 ≤ S.length ∧ S[(p.1 - 1).toNat]? = some p.2.b
theorem drain_ok {S : List (List UInt8)} : ∀ (n : Nat) (g : Int) (h : List (Int × SB)), HeldOk S g h → 0 ≤ g → g ≤ S.length →
    HeldOk S (drain n g h).1 (drain n g h).2.1 ∧ (drain n g h).1 = g + (drain n g h).2.2.length ∧ (drain n g h).1 ≤ S.length ∧ (drain n g h).2.1.length ≤ h.length ∧ ∀ j, j < (drain n g h).2.2.length → (drain n g h).2.2[j]? = S[g.toNat + j]?
  | 0, g, h, hk, h0, h1 => ⟨hk, by simp [drain], h1, Nat.le_refl _, fun j hj => by simp [drain] at hj⟩
  | n + 1, g, h, hk, h0, h1 => by
    cases hp : posM (g + 1) h 0 with
    | none =>
      rw [drain_none hp]
      exact ⟨hk, by simp, h1, Nat.le_refl _, fun j hj => by simp at hj⟩
    | some q =>
      have hq := hk.m _ (List.mem_of_getElem? (posM_mem hp))
      dsimp only at hq
      have hk2 : HeldOk S (g + 1) (delM (g + 1) h) := ⟨KU_del hk.u, fun p hp2 => by
        obtain ⟨m1, m2⟩ := delM_mem hk.u hp hp2
        obtain ⟨a1, a2, a3⟩ := hk.m p m1
        exact ⟨by omega, a2, a3⟩⟩
      have hl := delM_len hp
      obtain ⟨b1, b2, b3, b4, b5⟩ := drain_ok n (g + 1) (delM (g + 1) h) hk2 (by omega) (by omega)
      rw [drain_some hp]
      refine ⟨b1, ?_, b3, by dsimp only; omega, fun j hj => ?_⟩
      · dsimp only
        rw [b2, List.length_cons]
        push_cast
        omega
      · cases j with
        | zero =>
          have : (g + 1 - 1).toNat = g.toNat + 0 := by omega
          rw [← this, hq.2.2]
          rfl
        | succ j =>
          rw [List.length_cons] at hj
          have := b5 j (by omega)
          rw [List.getElem?_cons_succ, this]
          congr 1
          omega
/-- an end that sent S, and receives T -/
structure EOk (S T : List (List UInt8)) (e : PE) : Prop where
  wait : e.wait = S.drop e.acked.toNat
  a0 : 0 ≤ e.acked
  a1 : e.acked ≤ S.length
  g0 : 0 ≤ e.got
  g1 : e.got ≤ T.length
  held : HeldOk T e.got e.held
/-- a packet of the end that sends T, which had received A messages at most -/
structure POk (T : List (List UInt8)) (A : Int) (s a : Int) (b : List UInt8) : Prop where
  s : (s = 0 ∧ b = []) ∨ (1 ≤ s ∧ s ≤ T.length ∧ T[(s - 1).toNat]? = some b)
  a0 : 0 ≤ a
  a1 : a ≤ A
theorem POk.mono {T : List (List UInt8)} {A A' s a : Int} {b : List UInt8} (h : POk T A s a b) (hA : A ≤ A') : POk T A' s a b := ⟨h.s, h.a0, Int.le_trans h.a1 hA⟩
theorem POk.snoc {T : List (List UInt8)} {A s a : Int} {b x : List UInt8} (h : POk T A s a b) : POk (T ++ [x]) A s a b := ⟨by
  rcases h.s with h | ⟨h1, h2, h3⟩
  · exact .inl h
  · have hl := (List.getElem?_eq_some_iff.1 h3).1
    exact .inr ⟨h1, by rw [List.length_append]; push_cast; omega, by rw [List.getElem?_append_left hl]; exact h3⟩, h.a0, h.a1⟩
theorem HeldOk.snoc {S : List (List UInt8)} {g : Int} {h : List (Int × SB)} {x : List UInt8} (k : HeldOk S g h) : HeldOk (S ++ [x]) g h := ⟨k.u, fun p hp => by
  obtain ⟨a, b, c⟩ := k.m p hp
  have hl := (List.getElem?_eq_some_iff.1 c).1
  exact ⟨a, by rw [List.length_append]; push_cast; omega, by rw [List.getElem?_append_left hl]; exact c⟩⟩
theorem inP_ok {S T : List (List UInt8)} {e : PE} {A s a : Int} {x : SB} (he : EOk S T e) (hp : POk T A s a x.b) (hA : e.acked ≤ A) (hAS : A ≤ S.length) :
    EOk S T (inP e s a x).1 ∧ (inP e s a x).1.got = e.got + (inP e s a x).2.length ∧ (inP e s a x).1.acked ≤ A ∧ (inP e s a x).1.w = e.w ∧ (inP e s a x).1.held.length ≤ e.held.length + 1 ∧ ∀ j, j < (inP e s a x).2.length → (inP e s a x).2[j]? = T[e.got.toNat + j]? := by
  unfold inP
  by_cases hc : canP e s a x.b
  · rw [if_pos hc]
    have hm1 : max e.acked a ≤ A := by have := hp.a1; omega
    have hm0 := he.a0
    have hw : e.wait.drop (a - e.acked).toNat = S.drop (max e.acked a).toNat := by
      rw [he.wait, List.drop_drop]
      congr 1
      omega
    by_cases hs : s = 0
    · rw [if_pos hs]
      exact ⟨⟨hw, by dsimp only; omega, by dsimp only; omega, he.g0, he.g1, he.held⟩, by simp, hm1, rfl, Nat.le_succ _, fun j hj => by simp at hj⟩
    · rw [if_neg hs]
      have hH : HeldOk T e.got (heldP e s x) ∧ (heldP e s x).length ≤ e.held.length + 1 := by
        unfold heldP
        split
        · rename_i h
          refine ⟨⟨KU_add he.held.u h.2, fun p hp2 => ?_⟩, by simp⟩
          rcases List.mem_append.1 hp2 with h2 | h2
          · exact he.held.m p h2
          · simp only [List.mem_cons, List.not_mem_nil, or_false] at h2
            subst h2
            rcases hp.s with ⟨h3, _⟩ | ⟨_, h3, h4⟩
            · exact absurd h3 hs
            · exact ⟨h.1, h3, h4⟩
        · exact ⟨he.held, Nat.le_succ _⟩
      obtain ⟨b1, b2, b3, b4, b5⟩ := drain_ok (heldP e s x).length e.got (heldP e s x) hH.1 he.g0 he.g1
      have hg0 := he.g0
      exact ⟨⟨hw, by dsimp only; omega, by dsimp only; omega, by dsimp only; omega, b3, b1⟩, b2, hm1, rfl, by have := hH.2; dsimp only; omega, b5⟩
  · rw [if_neg hc]
    exact ⟨he, by simp, hA, rfl, Nat.le_succ _, fun j hj => by simp at hj⟩
/-- Out's packets are packets of its end -/
theorem pkL_mem {acked got : Int} : ∀ {xs : List (List UInt8)} {i : Nat} {p : Int × Int × List UInt8}, p ∈ pkL acked got i xs → ∃ j b, xs[j]? = some b ∧ p = (acked + ((i + j : Nat) : Int) + 1, got, b)
  | [], i, p, h => by cases h
  | x :: r, i, p, h => by
    rcases List.mem_cons.1 h with rfl | h
    · exact ⟨0, x, rfl, rfl⟩
    · obtain ⟨j, b, h1, rfl⟩ := pkL_mem h
      exact ⟨j + 1, b, by simpa using h1, by
        have : i + 1 + j = i + (j + 1) := by omega
        rw [this]⟩
theorem outP_ok {S T : List (List UInt8)} {e : PE} (he : EOk S T e) {p : Int × Int × List UInt8} (h : p ∈ outP e.w e.acked e.got e.wait e.ow) : POk S e.got p.1 p.2.1 p.2.2 := by
  unfold outP at h
  split at h
  · simp only [List.mem_cons, List.not_mem_nil, or_false] at h
    subst h
    exact ⟨.inl ⟨rfl, rfl⟩, he.g0, Int.le_refl _⟩
  · obtain ⟨j, b, h1, rfl⟩ := pkL_mem h
    rw [List.getElem?_take] at h1
    split at h1
    · have hw := he.wait
      rw [hw, List.getElem?_drop] at h1
      have hl := (List.getElem?_eq_some_iff.1 h1).1
      have h0 := he.a0
      refine ⟨.inr ⟨by dsimp only; omega, by dsimp only; omega, ?_⟩, he.g0, Int.le_refl _⟩
      dsimp only
      have : (e.acked + ((0 + j : Nat) : Int) + 1 - 1).toNat = e.acked.toNat + j := by omega
      rw [this]
      exact h1
    · cases h1
end Go.Proofs.Ythbgmnoaaohbcaa
namespace Go.Proofs.Ythbgmnoaaohbcaa
open Go Go.RowKit
set_option linter.unusedVariables false
set_option linter.unusedSimpArgs false
/-- slices as bare values -/
abbrev rv (t : Option Addr × Nat × Nat) : Value := .slice t.1 t.2.1 t.2.2
def eRw : Enc (Option Addr × Nat × Nat) := e1 rv fun _ => rfl
instance : Sz eRw 1 := ⟨rfl⟩
instance {A : Option Addr} {n c : Nat} : EncC eRw (A, n, c) [.slice A n c] := ⟨fun _ _ h => h⟩
/-- where the loop of ChannelOrder stands -/
structure OS where
  i : Nat
  e0 : PE
  e1 : PE
  s0 : List (List UInt8)
  s1 : List (List UInt8)
  a0 : Option Addr
  c0 : Nat
  a1 : Option Addr
  c1 : Nat
  g0 : Int
  g1 : Int
  link : List PK
  la : Option Addr
  lc : Nat
  to : List Int
  ta : Option Addr
  tc : Nat
structure OI (m : Nat) (k : OS) : Prop where
  i : k.i ≤ m
  o0 : EOk k.s0 k.s1 k.e0
  o1 : EOk k.s1 k.s0 k.e1
  g0 : k.g0 = k.e0.got
  g1 : k.g1 = k.e1.got
  k0 : k.e0.acked ≤ k.e1.got
  k1 : k.e1.acked ≤ k.e0.got
  w0 : 1 ≤ k.e0.w ∧ k.e0.w ≤ 16
  w1 : 1 ≤ k.e1.w ∧ k.e1.w ≤ 16
  h0 : k.e0.held.length ≤ k.i
  h1 : k.e1.held.length ≤ k.i
  n0 : k.s0.length ≤ k.i
  n1 : k.s1.length ≤ k.i
  b0 : ∀ x ∈ k.s0, x.length ≤ 2
  b1 : ∀ x ∈ k.s1, x.length ≤ 2
  tl : k.to.length = k.link.length
  ll : k.link.length ≤ 16 * k.i
  p : ∀ (j : Nat) (x : PK) (t : Int), k.link[j]? = some x → k.to[j]? = some t → (t = 1 ∧ POk k.s0 k.e0.got x.s x.a x.b) ∨ (t = 0 ∧ POk k.s1 k.e1.got x.s x.a x.b)
theorem OI.good0 {m : Nat} {k : OS} (h : OI m k) (hm : m ≤ 80) : k.e0.good := ⟨h.o0.a0, by have := h.o0.a1; have := h.n0; have := h.i; omega, h.o0.g0, by have := h.o0.g1; have := h.n1; have := h.i; omega, by have := h.n0; have := h.i; rw [h.o0.wait, List.length_drop]; omega, by have := h.h0; have := h.i; omega⟩
theorem OI.good1 {m : Nat} {k : OS} (h : OI m k) (hm : m ≤ 80) : k.e1.good := ⟨h.o1.a0, by have := h.o1.a1; have := h.n1; have := h.i; omega, h.o1.g0, by have := h.o1.g1; have := h.n0; have := h.i; omega, by have := h.n1; have := h.i; rw [h.o1.wait, List.length_drop]; omega, by have := h.h1; have := h.i; omega⟩
theorem EOk.send {S T : List (List UInt8)} {e : PE} {b : List UInt8} (h : EOk S T e) : EOk (S ++ [b]) T { e with wait := e.wait ++ [b] } :=
  ⟨by have h1 := h.a1
      have h2 := h.wait
      show e.wait ++ [b] = (S ++ [b]).drop e.acked.toNat
      rw [h2, List.drop_append_of_le_length (by omega)], h.a0, by have := h.a1; rw [List.length_append]; push_cast; show e.acked ≤ _; omega, h.g0, h.g1, h.held⟩
theorem EOk.recv {S T : List (List UInt8)} {e : PE} {b : List UInt8} (h : EOk S T e) : EOk S (T ++ [b]) e :=
  ⟨h.wait, h.a0, h.a1, h.g0, by have := h.g1; rw [List.length_append]; push_cast; omega, h.held.snoc⟩
theorem EOk.owing {S T : List (List UInt8)} {e : PE} {q : Bool} (h : EOk S T e) : EOk S T { e with ow := q } := ⟨h.wait, h.a0, h.a1, h.g0, h.g1, h.held⟩
theorem OI.wl0 {m : Nat} {k : OS} (h : OI m k) : k.e0.wait.length ≤ k.i := by have := h.n0; rw [h.o0.wait, List.length_drop]; omega
theorem OI.wl1 {m : Nat} {k : OS} (h : OI m k) : k.e1.wait.length ≤ k.i := by have := h.n1; rw [h.o1.wait, List.length_drop]; omega
theorem OI.wb0 {m : Nat} {k : OS} (h : OI m k) : ∀ x ∈ k.e0.wait, x.length ≤ 65536 := fun x hx => by
  rw [h.o0.wait] at hx
  have := h.b0 x (List.mem_of_mem_drop hx)
  omega
theorem OI.wb1 {m : Nat} {k : OS} (h : OI m k) : ∀ x ∈ k.e1.wait, x.length ≤ 65536 := fun x hx => by
  rw [h.o1.wait] at hx
  have := h.b1 x (List.mem_of_mem_drop hx)
  omega
theorem OI.send0 {m : Nat} {i : Nat} {e0 e1 : PE} {s0 s1 : List (List UInt8)} {a0 a1 : Option Addr} {c0 c1 : Nat} {g0 g1 : Int} {link : List PK} {la : Option Addr} {lc : Nat} {to : List Int} {ta : Option Addr} {tc : Nat} (h : OI m ⟨i, e0, e1, s0, s1, a0, c0, a1, c1, g0, g1, link, la, lc, to, ta, tc⟩) (hi : i + 1 ≤ m) {b : List UInt8} (hb : b.length ≤ 2) {A : Option Addr} {c : Nat} :
    OI m ⟨i + 1, { e0 with wait := e0.wait ++ [b] }, e1, s0 ++ [b], s1, A, c, a1, c1, g0, g1, link, la, lc, to, ta, tc⟩ := by
  obtain ⟨_, o0, o1, hg0, hg1, k0, k1, w0, w1, h0, h1, n0, n1, b0, b1, tl, ll, p⟩ := h
  dsimp only at *
  refine ⟨hi, o0.send, o1.recv, hg0, hg1, k0, k1, w0, w1, by dsimp only; omega, by dsimp only; omega, by dsimp only; rw [List.length_append, List.length_singleton]; omega, by dsimp only; omega, fun x hx => ?_, b1, tl, by dsimp only; omega, fun j x t hx ht => ?_⟩
  · rcases List.mem_append.1 hx with h | h
    · exact b0 x h
    · simp only [List.mem_cons, List.not_mem_nil, or_false] at h
      subst h
      exact hb
  · rcases p j x t hx ht with ⟨h1, h2⟩ | h
    · exact .inl ⟨h1, h2.snoc⟩
    · exact .inr h
theorem OI.send1 {m : Nat} {i : Nat} {e0 e1 : PE} {s0 s1 : List (List UInt8)} {a0 a1 : Option Addr} {c0 c1 : Nat} {g0 g1 : Int} {link : List PK} {la : Option Addr} {lc : Nat} {to : List Int} {ta : Option Addr} {tc : Nat} (h : OI m ⟨i, e0, e1, s0, s1, a0, c0, a1, c1, g0, g1, link, la, lc, to, ta, tc⟩) (hi : i + 1 ≤ m) {b : List UInt8} (hb : b.length ≤ 2) {A : Option Addr} {c : Nat} :
    OI m ⟨i + 1, e0, { e1 with wait := e1.wait ++ [b] }, s0, s1 ++ [b], a0, c0, A, c, g0, g1, link, la, lc, to, ta, tc⟩ := by
  obtain ⟨_, o0, o1, hg0, hg1, k0, k1, w0, w1, h0, h1, n0, n1, b0, b1, tl, ll, p⟩ := h
  dsimp only at *
  refine ⟨hi, o0.recv, o1.send, hg0, hg1, k0, k1, w0, w1, by dsimp only; omega, by dsimp only; omega, by dsimp only; omega, by dsimp only; rw [List.length_append, List.length_singleton]; omega, b0, fun x hx => ?_, tl, by dsimp only; omega, fun j x t hx ht => ?_⟩
  · rcases List.mem_append.1 hx with h | h
    · exact b1 x h
    · simp only [List.mem_cons, List.not_mem_nil, or_false] at h
      subst h
      exact hb
  · rcases p j x t hx ht with h | ⟨h1, h2⟩
    · exact .inl h
    · exact .inr ⟨h1, h2.snoc⟩
theorem pk_mem {l : List PK} {q : List (Int × Int × List UInt8)} (h : l.map PK.p = q) {x : PK} (hx : x ∈ l) : (x.s, x.a, x.b) ∈ q := by
  rw [← h]
  exact List.mem_map.2 ⟨x, hx, rfl⟩
theorem link_app {link l : List PK} {to : List Int} {o : Int} (tl : to.length = link.length) {j : Nat} {x : PK} {t : Int} (hx : (link ++ l)[j]? = some x) (ht : (to ++ List.replicate l.length o)[j]? = some t) : (link[j]? = some x ∧ to[j]? = some t) ∨ (x ∈ l ∧ t = o) := by
  rcases Nat.lt_or_ge j link.length with h | h
  · rw [List.getElem?_append_left h] at hx
    rw [List.getElem?_append_left (by omega)] at ht
    exact .inl ⟨hx, ht⟩
  · rw [List.getElem?_append_right h] at hx
    rw [List.getElem?_append_right (by omega)] at ht
    have := List.mem_of_getElem? ht
    exact .inr ⟨List.mem_of_getElem? hx, (List.mem_replicate.1 this).2⟩
theorem OI.out0 {m : Nat} {i : Nat} {e0 e1 : PE} {s0 s1 : List (List UInt8)} {a0 a1 : Option Addr} {c0 c1 : Nat} {g0 g1 : Int} {link : List PK} {la : Option Addr} {lc : Nat} {to : List Int} {ta : Option Addr} {tc : Nat} (h : OI m ⟨i, e0, e1, s0, s1, a0, c0, a1, c1, g0, g1, link, la, lc, to, ta, tc⟩) (hi : i + 1 ≤ m) {l : List PK} (hl : l.map PK.p = outP e0.w e0.acked e0.got e0.wait e0.ow) {A A' : Option Addr} {c c' : Nat} :
    OI m ⟨i + 1, { e0 with ow := false }, e1, s0, s1, a0, c0, a1, c1, g0, g1, link ++ l, A, c, to ++ List.replicate l.length 1, A', c'⟩ := by
  obtain ⟨_, o0, o1, hg0, hg1, k0, k1, w0, w1, h0, h1, n0, n1, b0, b1, tl, ll, p⟩ := h
  dsimp only at *
  have hll : l.length ≤ 16 := by
    have h1 := congrArg List.length hl
    have h2 := outP_len (w := e0.w) (acked := e0.acked) (got := e0.got) (wait := e0.wait) (ow := e0.ow) w0.2
    rw [List.length_map] at h1
    omega
  refine ⟨hi, o0.owing, o1, hg0, hg1, k0, k1, w0, w1, by dsimp only; omega, by dsimp only; omega, by dsimp only; omega, by dsimp only; omega, b0, b1, by simp [tl], by dsimp only; rw [List.length_append]; omega, fun j x t hx ht => ?_⟩
  rcases link_app tl hx ht with ⟨h1, h2⟩ | ⟨h1, h2⟩
  · exact p j x t h1 h2
  · exact .inl ⟨h2, outP_ok o0 (pk_mem hl h1)⟩
theorem OI.out1 {m : Nat} {i : Nat} {e0 e1 : PE} {s0 s1 : List (List UInt8)} {a0 a1 : Option Addr} {c0 c1 : Nat} {g0 g1 : Int} {link : List PK} {la : Option Addr} {lc : Nat} {to : List Int} {ta : Option Addr} {tc : Nat} (h : OI m ⟨i, e0, e1, s0, s1, a0, c0, a1, c1, g0, g1, link, la, lc, to, ta, tc⟩) (hi : i + 1 ≤ m) {l : List PK} (hl : l.map PK.p = outP e1.w e1.acked e1.got e1.wait e1.ow) {A A' : Option Addr} {c c' : Nat} :
    OI m ⟨i + 1, e0, { e1 with ow := false }, s0, s1, a0, c0, a1, c1, g0, g1, link ++ l, A, c, to ++ List.replicate l.length 0, A', c'⟩ := by
  obtain ⟨_, o0, o1, hg0, hg1, k0, k1, w0, w1, h0, h1, n0, n1, b0, b1, tl, ll, p⟩ := h
  dsimp only at *
  have hll : l.length ≤ 16 := by
    have h1 := congrArg List.length hl
    have h2 := outP_len (w := e1.w) (acked := e1.acked) (got := e1.got) (wait := e1.wait) (ow := e1.ow) w1.2
    rw [List.length_map] at h1
    omega
  refine ⟨hi, o0, o1.owing, hg0, hg1, k0, k1, w0, w1, by dsimp only; omega, by dsimp only; omega, by dsimp only; omega, by dsimp only; omega, b0, b1, by simp [tl], by dsimp only; rw [List.length_append]; omega, fun j x t hx ht => ?_⟩
  rcases link_app tl hx ht with ⟨h1, h2⟩ | ⟨h1, h2⟩
  · exact p j x t h1 h2
  · exact .inr ⟨h2, outP_ok o1 (pk_mem hl h1)⟩
theorem OI.step {m : Nat} {i : Nat} {e0 e1 : PE} {s0 s1 : List (List UInt8)} {a0 a1 : Option Addr} {c0 c1 : Nat} {g0 g1 : Int} {link : List PK} {la : Option Addr} {lc : Nat} {to : List Int} {ta : Option Addr} {tc : Nat} (h : OI m ⟨i, e0, e1, s0, s1, a0, c0, a1, c1, g0, g1, link, la, lc, to, ta, tc⟩) (hi : i + 1 ≤ m) :
    OI m ⟨i + 1, e0, e1, s0, s1, a0, c0, a1, c1, g0, g1, link, la, lc, to, ta, tc⟩ := by
  obtain ⟨_, o0, o1, hg0, hg1, k0, k1, w0, w1, h0, h1, n0, n1, b0, b1, tl, ll, p⟩ := h
  dsimp only at *
  exact ⟨hi, o0, o1, hg0, hg1, k0, k1, w0, w1, by dsimp only; omega, by dsimp only; omega, by dsimp only; omega, by dsimp only; omega, b0, b1, tl, by dsimp only; omega, p⟩
theorem OI.in1 {m : Nat} {i : Nat} {e0 e1 : PE} {s0 s1 : List (List UInt8)} {a0 a1 : Option Addr} {c0 c1 : Nat} {g0 g1 : Int} {link : List PK} {la : Option Addr} {lc : Nat} {to : List Int} {ta : Option Addr} {tc : Nat} (h : OI m ⟨i, e0, e1, s0, s1, a0, c0, a1, c1, g0, g1, link, la, lc, to, ta, tc⟩) (hi : i + 1 ≤ m) {s a : Int} {y : SB} (hp : POk s0 e0.got s a y.b) :
    OI m ⟨i + 1, e0, (inP e1 s a y).1, s0, s1, a0, c0, a1, c1, g0, g1 + (inP e1 s a y).2.length, link, la, lc, to, ta, tc⟩ ∧ (∀ j, j < (inP e1 s a y).2.length → (inP e1 s a y).2[j]? = s0[e1.got.toNat + j]?) ∧ e1.got + (inP e1 s a y).2.length ≤ s0.length := by
  obtain ⟨_, o0, o1, hg0, hg1, k0, k1, w0, w1, h0, h1, n0, n1, b0, b1, tl, ll, p⟩ := h
  dsimp only at *
  obtain ⟨q1, q2, q3, q4, q5, q6⟩ := inP_ok o1 hp k1 o0.g1
  have hgl := q1.g1
  refine ⟨⟨hi, o0, q1, hg0, by dsimp only; rw [q2, hg1], by dsimp only; omega, q3, w0, by dsimp only; rw [q4]; exact w1, by dsimp only; omega, by dsimp only; omega, by dsimp only; omega, by dsimp only; omega, b0, b1, tl, by dsimp only; omega, fun j x t hx ht => ?_⟩, q6, by omega⟩
  rcases p j x t hx ht with h | ⟨h1, h2⟩
  · exact .inl h
  · exact .inr ⟨h1, h2.mono (by show e1.got ≤ (inP e1 s a y).1.got; rw [q2]; omega)⟩
theorem OI.in0 {m : Nat} {i : Nat} {e0 e1 : PE} {s0 s1 : List (List UInt8)} {a0 a1 : Option Addr} {c0 c1 : Nat} {g0 g1 : Int} {link : List PK} {la : Option Addr} {lc : Nat} {to : List Int} {ta : Option Addr} {tc : Nat} (h : OI m ⟨i, e0, e1, s0, s1, a0, c0, a1, c1, g0, g1, link, la, lc, to, ta, tc⟩) (hi : i + 1 ≤ m) {s a : Int} {y : SB} (hp : POk s1 e1.got s a y.b) :
    OI m ⟨i + 1, (inP e0 s a y).1, e1, s0, s1, a0, c0, a1, c1, g0 + (inP e0 s a y).2.length, g1, link, la, lc, to, ta, tc⟩ ∧ (∀ j, j < (inP e0 s a y).2.length → (inP e0 s a y).2[j]? = s1[e0.got.toNat + j]?) ∧ e0.got + (inP e0 s a y).2.length ≤ s1.length := by
  obtain ⟨_, o0, o1, hg0, hg1, k0, k1, w0, w1, h0, h1, n0, n1, b0, b1, tl, ll, p⟩ := h
  dsimp only at *
  obtain ⟨q1, q2, q3, q4, q5, q6⟩ := inP_ok o0 hp k0 o1.g1
  have hgl := q1.g1
  refine ⟨⟨hi, q1, o1, by dsimp only; rw [q2, hg0], hg1, q3, by dsimp only; omega, by dsimp only; rw [q4]; exact w0, w1, by dsimp only; omega, by dsimp only; omega, by dsimp only; omega, by dsimp only; omega, b0, b1, tl, by dsimp only; omega, fun j x t hx ht => ?_⟩, q6, by omega⟩
  rcases p j x t hx ht with ⟨h1, h2⟩ | h
  · exact .inl ⟨h1, h2.mono (by show e0.got ≤ (inP e0 s a y).1.got; rw [q2]; omega)⟩
  · exact .inr h
theorem all2_SB {m : Hp} : ∀ {l : List SB} {css : List (List Value)}, All2 (eSB.r m) l css → All2 ((eSl eB).r m) (l.map SB.b) css
  | [], [], _ => trivial
  | x :: l, c :: css, ⟨h, t⟩ => ⟨⟨x.v, h.1, h.2⟩, all2_SB t⟩
  | [], _ :: _, h => h.elim
  | _ :: _, [], h => h.elim
section
variable {P : Program} {W0 : World} {L L' : List HP} {ops : Array Oper} {rest : List Oper} {a : Act} {Q : Exit → Act → World → Prop}
/-- a row of slices of one's own, with the slices' values -/
theorem C_ownSB (i : Nat) {c : Code} {E : TypeId} {v : Value} {l : List (List UInt8)} (h : L[i]? = some (own E (eSl eB) v l)) (k : ∀ l' : List SB, l'.map SB.b = l → CL P W0 (L.set i (own E eSB v l')) c Q a) : CL P W0 L c Q a := ⟨fun w s => by
  have s1 : St W0 w (ex (fun l' : {l' : List SB // l'.map SB.b = l} => own E eSB v l'.1) :: L.eraseIdx i) := by
    refine (s.at_ h).imp ?_
    rintro m hp ⟨css, ha, hk⟩
    obtain ⟨l', e1, e2⟩ := All2.openS ha
    have hl : l'.length = l.length := by rw [← e1, List.length_map]
    refine ⟨⟨l', e1⟩, css, e2, ?_⟩
    rcases hk with ⟨h1, h2⟩ | ⟨g, cap, cur, h1, h2, h3, h4, h5, h6⟩
    · subst h2
      exact .inl ⟨h1, List.length_eq_zero_iff.1 hl⟩
    · exact .inr ⟨g, cap, cur, by rw [h1, hl], h2, by show l'.length ≤ cap; omega, h4, h5, by rw [hl]; exact h6⟩
  obtain ⟨⟨l', e1⟩, s2⟩ := s1.ex_
  exact (k l' e1).run w (s2.back h)⟩
theorem sub_ownSB (i : Nat) {E : TypeId} {v : Value} {l : List SB} (h : L[i]? = some (own E eSB v l)) : Sub L (L.set i (own E (eSl eB) v (l.map SB.b))) := fun m hp s => by
  have s1 := s.perm (perm_at h)
  obtain ⟨x, y, d, hx, hy, ⟨css, ha, hk⟩, hL⟩ := s1
  have s2 : SepL m (own E (eSl eB) v (l.map SB.b) :: L.eraseIdx i) hp := ⟨x, y, d, hx, hy, ⟨css, all2_SB ha, by
    rcases hk with ⟨h1, h2⟩ | ⟨g, cap, cur, h1, h2, h3, h4, h5, h6⟩
    · subst h2
      exact .inl ⟨h1, rfl⟩
    · exact .inr ⟨g, cap, cur, by rw [List.length_map]; exact h1, h2, by rw [List.length_map]; exact h3, h4, h5, by rw [List.length_map]; exact h6⟩⟩, hL⟩
  exact s2.perm (perm_set h)
theorem sub_peekSBo {E : TypeId} {v : Value} {l : List SB} {j : Nat} {x : SB} (hm : own E eSB v l ∈ L) (hx : l[j]? = some x) : Sub L (rd eB x.v x.b :: L) := fun m h s => by
  obtain ⟨a, _, css, ha, _⟩ := s.mem hm
  obtain ⟨cs, _, hc⟩ := ha.get hx
  exact ⟨Hp.none, h, Hp.none_dj _, Hp.none_le _, Hp.le_refl _, hc.2, s⟩
end
end Go.Proofs.Ythbgmnoaaohbcaa
