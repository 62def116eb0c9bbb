/-
  Lists of slices, opened: elements with their values. No program.
-/
import Derived.Test.YtbjaecofccpahaaR1
namespace Go.Proofs.Ytbjaecofccpahaa
open Go Go.RowKit
set_option linter.unusedVariables false
set_option linter.unusedSimpArgs false
set_option maxRecDepth 20000
set_option synthInstance.maxSize 100000
set_option synthInstance.maxHeartbeats 400000
/-- a slice of bytes with its value -/
structure SB where
  v : Value
  b : List UInt8
theorem Sl.one2 {α : Type} {m : Hp} {R : Enc α} {v : Value} {l : List α} (h : Sl m R v l) : v.oneCell' = true := by
  obtain ⟨A, cap, css, hv, _⟩ := h
  rw [hv]; rfl
def eSB : Enc SB :=
  ⟨1, fun m x cs => cs = [x.v] ∧ Sl m eB x.v x.b, fun hm ⟨e, h1⟩ => ⟨e, h1.mono hm⟩, fun ⟨e, _⟩ => by subst e; rfl,
    fun {_ x _} ⟨e, h1⟩ u hu => by
      subst e
      simp only [List.mem_cons, List.not_mem_nil, or_false] at hu
      subst hu
      exact h1.one2⟩
instance : Sz eSB 1 := ⟨rfl⟩
instance {x : SB} : EncC eSB x [x.v] := ⟨fun _ _ h => h.1⟩
theorem All2.openS {m : Hp} : ∀ {l : List (List UInt8)} {css : List (List Value)}, All2 ((eSl eB).r m) l css → ∃ l' : List SB, l'.map SB.b = l ∧ All2 (eSB.r m) l' css
  | [], [], _ => ⟨[], rfl, trivial⟩
  | b :: l, c :: css, ⟨⟨v, e, h⟩, t⟩ => by
    obtain ⟨l', h1, h2⟩ := All2.openS t
    exact ⟨⟨v, b⟩ :: l', by rw [List.map_cons, h1], ⟨e, h⟩, h2⟩
  | [], _ :: _, h => h.elim
  | _ :: _, [], h => h.elim
theorem Sl.openS {m : Hp} {v : Value} {l : List (List UInt8)} (h : Sl m (eSl eB) v l) : ∃ l' : List SB, l'.map SB.b = l ∧ Sl m eSB v l' := by
  obtain ⟨A, cap, css, hv, hc, ha, hr⟩ := h
  obtain ⟨l', h1, h2⟩ := ha.openS
  have hl : l'.length = l.length := by rw [← h1, List.length_map]
  refine ⟨l', h1, A, cap, css, by rw [hl]; exact hv, by rw [hl]; exact hc, h2, ?_⟩
  rcases hr with h | h
  · left
    subst h
    exact List.length_eq_zero_iff.1 hl
  · exact .inr h
section
variable {P : Program} {W0 : World} {L : List HP}
theorem CT_openS {f : FuncId} {args : Array Value} {R : Value → List HP → Prop} {v : Value} {l : List (List UInt8)} (hv : rd (eSl eB) v l ∈ L) (k : ∀ l' : List SB, l'.map SB.b = l → CT P f args W0 (rd eSB v l' :: L) R) : CT P f args W0 L R := ⟨fun w s => by
  obtain ⟨h1, h2, h3, h4, m, h, hm, hw, hh, d, hL⟩ := s
  obtain ⟨a, _, hs⟩ := hL.mem hv
  obtain ⟨l', e, hs'⟩ := Sl.openS hs
  exact (k l' e).run w ⟨h1, h2, h3, h4, m, h, hm, hw, hh, d, Hp.none, h, Hp.none_dj _, Hp.none_le _, Hp.le_refl _, hs', hL⟩⟩
theorem sub_peekSB {v : Value} {l : List SB} {j : Nat} {x : SB} (hm : rd eSB v l ∈ L) (hx : l[j]? = some x) : Sub L (rd eB x.v x.b :: L) := fun m h s => by
  obtain ⟨a, _, A, cap, css, _, _, ha, _⟩ := s.mem hm
  obtain ⟨cs, _, hc⟩ := ha.get hx
  exact ⟨Hp.none, h, Hp.none_dj _, Hp.none_le _, Hp.le_refl _, hc.2, s⟩
end
section
variable {W0 : World} {L : List HP}
theorem getB {l' : List SB} {l : List (List UInt8)} {i : Nat} {x : SB} (h : l'.map SB.b = l) (hx : l'[i]? = some x) : l[i]? = some x.b := by
  rw [← h, List.getElem?_map, hx]; rfl
theorem SameLists_ct {va vb : Value} {la lb : List (List UInt8)} {q : Bool} (ha : rd (eSl eB) va la ∈ L) (hb : rd (eSl eB) vb lb ∈ L) (hla : la.length ≤ 10000000) (hlb : lb.length ≤ 10000000) (hla2 : ∀ x ∈ la, x.length ≤ 10000000) (hlb2 : ∀ x ∈ lb, x.length ≤ 10000000) (hq : decide (la = lb) = q) :
    CT Try.prog 19 #[va, vb] W0 L fun r L' => r = .bool q ∧ L' = L := by
  refine CT_openS ha fun la' ha' => ?_
  refine CT_openS (.tail _ hb) fun lb' hb' => ?_
  refine CT_fact (fun w s => ((Src.sl (.inl (.tail _ (.head _))) s).form)) ?_
  rintro ⟨Aa, ca, rfl, hca⟩
  refine CT_fact (fun w s => ((Src.sl (.inl (.head _)) s).form)) ?_
  rintro ⟨Ab, cb, rfl, hcb⟩
  have hal : la'.length = la.length := by rw [← ha', List.length_map]
  have hbl : lb'.length = lb.length := by rw [← hb', List.length_map]
  refine CT_enter Try.func19 rfl ?_; (simp only [Try.ntmps19, List.size_toArray, List.length_cons, List.length_nil, Nat.reduceAdd, Nat.reduceSub, Array.replicate_succ, Array.replicate_zero, List.push_toArray, List.append_toArray, List.nil_append, List.cons_append])
  by_cases hlen : la'.length = lb'.length
  rotate_left
  · have hqf : q = false := by rw [← hq]; exact decide_eq_false fun h => hlen (by rw [hal, hbl, h])
    subst hqf
    repeat' (first | refine go ?_ | intro _ | (apply cG; first | refine cT ?_ | refine cF ?_ | refine cS (fun _ => ?_) fun _ => ?_) | (apply gW; refine sW ?_) | (apply gI; refine sI ?_) | (apply gE; refine sE ?_) | (apply gP; refine sP ?_) | (apply gC; refine sC ?_) | (apply gD; refine sD ?_) | fail)
    refine E_res1 (by rfl) (by rfl) ⟨rfl, rfl⟩ Sb
  repeat' (first | refine go ?_ | intro _ | (apply cG; first | refine cT ?_ | refine cF ?_ | refine cS (fun _ => ?_) fun _ => ?_) | (apply gW; refine sW ?_) | (apply gI; refine sI ?_) | (apply gE; refine sE ?_) | (apply gP; refine sP ?_) | (apply gC; refine sC ?_) | (apply gD; refine sD ?_) | fail)
  refine C_loopS (κ := Nat) [false, false, false, false, true, true, false, false, false, false, false, true, true, true, true, true, true, true, true, true, true, true, true, true, true, true, true] (fun k => [(5, .int .i64 (k : Int))]) (fun k => []) (fun k => k ≤ la'.length ∧ ∀ j < k, la[j]? = lb[j]?) (fun k => la'.length - k) 0 ⟨Nat.zero_le _, fun j hj => absurd hj (Nat.not_lt_zero _)⟩ ⟨rfl, trivial⟩ ?_
  rintro i u ⟨hi, hsame⟩
  ((try dsimp only); refine C_n ?_; (try simp only [Nat.reduceAdd, Nat.zero_add]))
  by_cases hlt : i < la'.length
  · obtain ⟨x, hx⟩ : ∃ x, la'[i]? = some x := ⟨_, List.getElem?_eq_getElem hlt⟩
    obtain ⟨y, hy⟩ : ∃ y, lb'[i]? = some y := ⟨_, List.getElem?_eq_getElem (by omega)⟩
    have hax : At la' i x := ⟨hx⟩
    have hay : At lb' i y := ⟨hy⟩
    have hxb := getB ha' hx
    have hyb := getB hb' hy
    have hxl := hla2 _ (List.mem_of_getElem? hxb)
    have hyl := hlb2 _ (List.mem_of_getElem? hyb)
    repeat' (first | refine go ?_ | intro _ | (apply cG; first | refine cT ?_ | refine cF ?_ | refine cS (fun _ => ?_) fun _ => ?_) | (apply gW; refine sW ?_) | (apply gI; refine sI ?_) | (apply gE; refine sE ?_) | (apply gP; refine sP ?_) | (apply gC; refine sC ?_) | (apply gD; refine sD ?_) | fail)
    refine C_sub (sub_peekSB (v := .slice Aa la'.length ca) (by repeat (first | exact .head _ | refine .tail _ ?_)) hx) ?_
    refine C_sub (sub_peekSB (v := .slice Ab lb'.length cb) (by repeat (first | exact .head _ | refine .tail _ ?_)) hy) ?_
    obtain ⟨s, hs⟩ : ∃ s, decide (x.b = y.b) = s := ⟨_, rfl⟩
    refine C_draw (n := 99) [rd eB y.v y.b, rd eB x.v x.b, rd eSB (.slice Ab lb'.length cb) lb', rd eSB (.slice Aa la'.length ca) la'] [(0, 1), (1, 1), (2, 1), (3, 1), (4, 1), (5, 1), (6, 1), (7, 1), (8, 0), (9, 1)] (by kernel_rfl) (by kernel_rfl) Sb ?_
    repeat' (first | refine go ?_ | intro _ | (apply cG; first | refine cT ?_ | refine cF ?_ | refine cS (fun _ => ?_) fun _ => ?_) | (apply gW; refine sW ?_) | (apply gI; refine sI ?_) | (apply gE; refine sE ?_) | (apply gP; refine sP ?_) | (apply gC; refine sC ?_) | (apply gD; refine sD ?_) | fail)
    refine D_op rfl ?_; refine X_d (dy_call ArgsI.pf (by first | exact rfl | trivial | (intro a b; rfl)) (SameBytes_ct (la := x.b) (lb := y.b) (.inl (by repeat (first | exact .head _ | refine .tail _ ?_))) (.inl (by repeat (first | exact .head _ | refine .tail _ ?_))) (by omega) (by omega) hs)) ?_; rintro _ _ ⟨_, ⟨rfl, hLL⟩, rfl⟩; replace hLL := hLL.symm; subst hLL; refine ⟨(by first | exact .inl rfl | exact .inr Sb), D_n ?_⟩
    cases s
    · have hqf : q = false := by
        rw [← hq]
        refine decide_eq_false fun h => ?_
        rw [h, hyb] at hxb
        have : y.b = x.b := by simpa using hxb
        exact of_decide_eq_false hs this.symm
      subst hqf
      repeat' (first | refine go ?_ | intro _ | (apply cG; first | refine cT ?_ | refine cF ?_ | refine cS (fun _ => ?_) fun _ => ?_) | (apply gW; refine sW ?_) | (apply gI; refine sI ?_) | (apply gE; refine sE ?_) | (apply gP; refine sP ?_) | (apply gC; refine sC ?_) | (apply gD; refine sD ?_) | fail)
      refine E_res1 (by rfl) (by rfl) ⟨rfl, rfl⟩ Sb
    · have hxy := of_decide_eq_true hs
      repeat' (first | refine go ?_ | intro _ | (apply cG; first | refine cT ?_ | refine cF ?_ | refine cS (fun _ => ?_) fun _ => ?_) | (apply gW; refine sW ?_) | (apply gI; refine sI ?_) | (apply gE; refine sE ?_) | (apply gP; refine sP ?_) | (apply gC; refine sC ?_) | (apply gD; refine sD ?_) | fail)
      exact E_round (i + 1) ⟨hlt, fun j hj => by
        rcases Nat.lt_or_ge j i with h | h
        · exact hsame j h
        · obtain rfl : j = i := by omega
          rw [hxb, hyb, hxy]⟩ (by show la'.length - (i + 1) < la'.length - i; omega) ⟨rfl, trivial⟩ Sb
  · have hqt : q = true := by
      rw [← hq]
      refine decide_eq_true (List.ext_getElem? fun j => ?_)
      rcases Nat.lt_or_ge j i with h | h
      · exact hsame j h
      · rw [List.getElem?_eq_none (by omega), List.getElem?_eq_none (by omega)]
    subst hqt
    repeat' (first | refine go ?_ | intro _ | (apply cG; first | refine cT ?_ | refine cF ?_ | refine cS (fun _ => ?_) fun _ => ?_) | (apply gW; refine sW ?_) | (apply gI; refine sI ?_) | (apply gE; refine sE ?_) | (apply gP; refine sP ?_) | (apply gC; refine sC ?_) | (apply gD; refine sD ?_) | fail)
    refine E_res1 (by rfl) (by rfl) ⟨rfl, rfl⟩ Sb
end
end Go.Proofs.Ytbjaecofccpahaa
