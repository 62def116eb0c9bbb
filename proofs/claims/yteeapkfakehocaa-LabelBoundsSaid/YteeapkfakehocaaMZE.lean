/-
  The laws LabelTaken, LabelBest, LabelValue.
-/
import Derived.Test.YteeapkfakehocaaMZD
import Derived.Test.YteeapkfakehocaaMR
namespace Go.Proofs.Yteeapkfakehocaa
open Go Go.RowKit
set_option linter.unusedVariables false
set_option linter.unusedSimpArgs false
set_option maxRecDepth 20000
set_option synthInstance.maxSize 100000
set_option synthInstance.maxHeartbeats 400000
theorem best_bound {l : List AK} {t : List BX} (h : ∀ a ∈ l, a.good) : 0 ≤ (bestF l t).2 ∧ (bestF l t).2 ≤ l.length * 1048576 := by
  have h1 := best_max (okc_none t l [])
  have h2 := comps_le t (fun a ha => by have := (h a ha).2.2.2.2; omega) ((mem_comps t).2 (best_ok l t))
  have h3 := restF_le h
  dsimp only at h2
  omega
section
variable {W0 : World} {L : List HP}
theorem LabelTaken_ct {v vm vn : Value} {li lm ln : List Int} (hv : rd eI v li ∈ L) (hl : li.length ≤ 9223372036854775807) (hr : ∀ n ∈ li, I64 n) (hv2 : rd eI vm lm ∈ L) (hl2 : lm.length ≤ 9223372036854775807) (hr2 : ∀ n ∈ lm, I64 n) (hv3 : rd eI vn ln ∈ L) (hl3 : ln.length ≤ 9223372036854775807) (hr3 : ∀ n ∈ ln, I64 n) :
    CT Try.prog 4 #[v, vm, vn] W0 L fun r L' => r = .bool true ∧ L' = L := by
  refine CT_fact (fun w s => ((Src.sl (.inl hv) s).form)) ?_
  rintro ⟨A0, c0, rfl, hc0⟩
  refine CT_fact (fun w s => ((Src.sl (.inl hv2) s).form)) ?_
  rintro ⟨B0, d0, rfl, hd0⟩
  refine CT_fact (fun w s => ((Src.sl (.inl hv3) s).form)) ?_
  rintro ⟨E0, e0, rfl, he0⟩
  refine CT.sub ?_ (sub_dup hv)
  refine CT.sub ?_ (sub_dup (.tail _ hv2))
  refine CT.sub ?_ (sub_dup (.tail _ (.tail _ hv3)))
  refine CT_enter Try.func4 rfl ?_; (simp only [Try.ntmps4, List.size_toArray, List.length_cons, List.length_nil, Nat.reduceAdd, Nat.reduceSub, Array.replicate_succ, Array.replicate_zero, List.push_toArray, List.append_toArray, List.nil_append, List.cons_append])
  repeat' (first | refine go ?_ | intro _ | (apply cG; first | refine cT ?_ | refine cF ?_ | refine cS (fun _ => ?_) fun _ => ?_) | (apply gW; refine sW ?_) | (apply gI; refine sI ?_) | (apply gE; refine sE ?_) | (apply gP; refine sP ?_) | (apply gC; refine sC ?_) | (apply gD; refine sD ?_) | fail)
  refine O_d (dy_call ArgsI.pf (by first | exact rfl | trivial | (intro a b; rfl)) (Some_ct (m := 5) (by repeat (first | exact .head _ | refine .tail _ ?_)) hr hl (by decide))) ?_; rintro _ _ ⟨_, ⟨A1, c1, x, rfl, hx5, hxok, rfl⟩, rfl⟩; refine O_n ?_
  repeat' (first | refine go ?_ | intro _ | (apply cG; first | refine cT ?_ | refine cF ?_ | refine cS (fun _ => ?_) fun _ => ?_) | (apply gW; refine sW ?_) | (apply gI; refine sI ?_) | (apply gE; refine sE ?_) | (apply gP; refine sP ?_) | (apply gC; refine sC ?_) | (apply gD; refine sD ?_) | fail)
  refine O_frz 0 ?_
  refine O_d (dy_call ArgsI.pf (by first | exact rfl | trivial | (intro a b; rfl)) (own_ct (l := x) (by repeat (first | exact .head _ | refine .tail _ ?_)) (by omega))) ?_; rintro _ _ ⟨_, ⟨A2, c2, rfl, rfl⟩, rfl⟩; refine O_n ?_
  refine O_frz 0 ?_
  repeat' (first | refine go ?_ | intro _ | (apply cG; first | refine cT ?_ | refine cF ?_ | refine cS (fun _ => ?_) fun _ => ?_) | (apply gW; refine sW ?_) | (apply gI; refine sI ?_) | (apply gE; refine sE ?_) | (apply gP; refine sP ?_) | (apply gC; refine sC ?_) | (apply gD; refine sD ?_) | fail)
  refine O_d (dy_call ArgsI.pf (by first | exact rfl | trivial | (intro a b; rfl)) (Boxes_ct (m := 3) (by repeat (first | exact .head _ | refine .tail _ ?_)) hr2 hl2 (by decide))) ?_; rintro _ _ ⟨_, ⟨B1, d1, t, rfl, ht3, htok, rfl⟩, rfl⟩; refine O_n ?_
  refine O_frz 0 ?_
  repeat' (first | refine go ?_ | intro _ | (apply cG; first | refine cT ?_ | refine cF ?_ | refine cS (fun _ => ?_) fun _ => ?_) | (apply gW; refine sW ?_) | (apply gI; refine sI ?_) | (apply gE; refine sE ?_) | (apply gP; refine sP ?_) | (apply gC; refine sC ?_) | (apply gD; refine sD ?_) | fail)
  refine O_d (dy_lit0 eBX rfl) ?_; rintro _ _ ⟨_, rfl, rfl⟩; refine O_n ?_
  repeat' (first | refine go ?_ | intro _ | (apply cG; first | refine cT ?_ | refine cF ?_ | refine cS (fun _ => ?_) fun _ => ?_) | (apply gW; refine sW ?_) | (apply gI; refine sI ?_) | (apply gE; refine sE ?_) | (apply gP; refine sP ?_) | (apply gC; refine sC ?_) | (apply gD; refine sD ?_) | fail)
  refine O_d (dy_call ArgsI.pf (by first | exact rfl | trivial | (intro a b; rfl)) (Boxes_ct (m := 1) (by repeat (first | exact .head _ | refine .tail _ ?_)) hr3 hl3 (by decide))) ?_; rintro _ _ ⟨_, ⟨B2, d2, t2, rfl, ht1, ht2ok, rfl⟩, rfl⟩; refine O_n ?_
  repeat' (first | refine go ?_ | intro _ | (apply cG; first | refine cT ?_ | refine cF ?_ | refine cS (fun _ => ?_) fun _ => ?_) | (apply gW; refine sW ?_) | (apply gI; refine sI ?_) | (apply gE; refine sE ?_) | (apply gP; refine sP ?_) | (apply gC; refine sC ?_) | (apply gD; refine sD ?_) | fail)
  rename_i B3 d3
  rw [List.nil_append]
  have hlen3 : (t ++ t2).length = t.length + t2.length := List.length_append
  have hmok : ∀ b ∈ t ++ t2, BxOk b := fun b hb => (List.mem_append.1 hb).elim (htok b) (ht2ok b)
  have hp1 := place_some (x := x) (t := t) hxok htok (by omega) (by omega)
  have hp2 := place_some (x := x) (t := t ++ t2) hxok hmok (by omega) (by omega)
  have hmore := best_more x t t2
  rw [← hlen3]
  refine O_frz 1 ?_
  refine O_d (dy_call ArgsI.pf (by first | exact rfl | trivial | (intro a b; rfl)) (Place_ct (l := x) (t := t) (fuel := 1048576) (by repeat (first | exact .head _ | refine .tail _ ?_)) (by repeat (first | exact .head _ | refine .tail _ ?_)) (by decide) (.inl (by omega)))) ?_; rintro _ _ ⟨_, ⟨A3, c3, rfl, rfl⟩, rfl⟩; refine O_n ?_
  rw [hp1]
  dsimp only
  repeat' (first | refine go ?_ | intro _ | (apply cG; first | refine cT ?_ | refine cF ?_ | refine cS (fun _ => ?_) fun _ => ?_) | (apply gW; refine sW ?_) | (apply gI; refine sI ?_) | (apply gE; refine sE ?_) | (apply gP; refine sP ?_) | (apply gC; refine sC ?_) | (apply gD; refine sD ?_) | fail)
  refine O_d (dy_call ArgsI.pf (by first | exact rfl | trivial | (intro a b; rfl)) (Place_ct (l := x) (t := t ++ t2) (fuel := 1048576) (by repeat (first | exact .head _ | refine .tail _ ?_)) (by repeat (first | exact .head _ | refine .tail _ ?_)) (by decide) (.inl (by omega)))) ?_; rintro _ _ ⟨_, ⟨A4, c4, rfl, rfl⟩, rfl⟩; refine O_n ?_
  rw [hp2]
  dsimp only
  by_cases h0 : x.length = 0
  · obtain rfl : x = [] := List.length_eq_zero_iff.1 h0
    have hb0 : (bestF [] t).2 = 0 := best_nil t
    rw [hb0] at hmore
    rw [hb0]
    repeat' (first | refine go ?_ | intro _ | (apply cG; first | refine cT ?_ | refine cF ?_ | refine cS (fun _ => ?_) fun _ => ?_) | (apply gW; refine sW ?_) | (apply gI; refine sI ?_) | (apply gE; refine sE ?_) | (apply gP; refine sP ?_) | (apply gC; refine sC ?_) | (apply gD; refine sD ?_) | fail)
    refine O_d (dy_call ArgsI.pf (by first | exact rfl | trivial | (intro a b; rfl)) (lives_ct)) ?_; rintro _ _ ⟨_, ⟨rfl, hLL⟩, rfl⟩; replace hLL := hLL.symm; subst hLL; refine O_n ?_
    repeat' (first | refine go ?_ | intro _ | (apply cG; first | refine cT ?_ | refine cF ?_ | refine cS (fun _ => ?_) fun _ => ?_) | (apply gW; refine sW ?_) | (apply gI; refine sI ?_) | (apply gE; refine sE ?_) | (apply gP; refine sP ?_) | (apply gC; refine sC ?_) | (apply gD; refine sD ?_) | fail)
    refine E_res1 (by rfl) (by rfl) ⟨rfl, rfl⟩ Sb
  obtain ⟨xi, b, hx⟩ : ∃ xi b, x = xi ++ [b] := ⟨x.dropLast, x.getLast (fun h => h0 (by rw [h]; rfl)), (List.dropLast_concat_getLast _).symm⟩
  have hxl : x.length = xi.length + 1 := by rw [hx, List.length_append]; rfl
  have htk : x.take xi.length = xi := by rw [hx, List.take_left]
  have hgb : x[xi.length]? = some b := by rw [hx, List.getElem?_append_right (Nat.le_refl _), Nat.sub_self]; rfl
  have hxiok : ∀ a ∈ xi, SomeOk a := fun a ha => hxok a (by rw [hx]; exact List.mem_append_left _ ha)
  have hbok := hxok b (List.mem_of_getElem? hgb)
  have hp3 := place_some (x := xi) (t := t) hxiok htok (by omega) (by omega)
  have hless := best_less (l := xi) (b := b) (t := t) (by omega)
  rw [← hx] at hless
  have hat : At x xi.length b := ⟨hgb⟩
  repeat' (first | refine go ?_ | intro _ | (apply cG; first | refine cT ?_ | refine cF ?_ | refine cS (fun _ => ?_) fun _ => ?_) | (apply gI; refine sI ?_) | (apply gE; refine sE ?_) | (apply gP; refine sP ?_) | (apply gC; refine sC ?_) | (apply gD; refine sD ?_) | fail)
  apply gW; refine sW (r := (xi.length : Int)) ?_ (by rw [show (x.length : Int) - 1 = (xi.length : Int) by omega]; exact wr_i64 (by omega) (by omega))
  repeat' (first | refine go ?_ | intro _ | (apply cG; first | refine cT ?_ | refine cF ?_ | refine cS (fun _ => ?_) fun _ => ?_) | (apply gW; refine sW ?_) | (apply gI; refine sI ?_) | (apply gE; refine sE ?_) | (apply gP; refine sP ?_) | (apply gC; refine sC ?_) | (apply gD; refine sD ?_) | fail)
  rw [List.drop_zero, htk]
  refine O_d (dy_call ArgsI.pf (by first | exact rfl | trivial | (intro a b; rfl)) (Place_ct (l := xi) (t := t) (fuel := 1048576) (by repeat (first | exact .head _ | refine .tail _ ?_)) (by repeat (first | exact .head _ | refine .tail _ ?_)) (by decide) (.inl (by omega)))) ?_; rintro _ _ ⟨_, ⟨A5, c5, rfl, rfl⟩, rfl⟩; refine O_n ?_
  rw [hp3]
  dsimp only
  have hbb := best_bound (l := xi) (t := t) (fun a ha => good_some (hxiok a ha))
  repeat' (first | refine go ?_ | intro _ | (apply cG; first | refine cT ?_ | refine cF ?_ | refine cS (fun _ => ?_) fun _ => ?_) | (apply gI; refine sI ?_) | (apply gE; refine sE ?_) | (apply gP; refine sP ?_) | (apply gC; refine sC ?_) | (apply gD; refine sD ?_) | fail)
  apply gW; refine sW (r := (xi.length : Int)) ?_ (by rw [show (x.length : Int) - 1 = (xi.length : Int) by omega]; exact wr_i64 (by omega) (by omega))
  repeat' (first | refine go ?_ | intro _ | (apply cG; first | refine cT ?_ | refine cF ?_ | refine cS (fun _ => ?_) fun _ => ?_) | (apply gW; refine sW ?_) | (apply gI; refine sI ?_) | (apply gE; refine sE ?_) | (apply gP; refine sP ?_) | (apply gC; refine sC ?_) | (apply gD; refine sD ?_) | fail)
  refine O_d (dy_call ArgsI.pf (by first | exact rfl | trivial | (intro a b; rfl)) (lives_ct)) ?_; rintro _ _ ⟨_, ⟨rfl, hLL⟩, rfl⟩; replace hLL := hLL.symm; subst hLL; refine O_n ?_
  repeat' (first | refine go ?_ | intro _ | (apply cG; first | refine cT ?_ | refine cF ?_ | refine cS (fun _ => ?_) fun _ => ?_) | (apply gW; refine sW ?_) | (apply gI; refine sI ?_) | (apply gE; refine sE ?_) | (apply gP; refine sP ?_) | (apply gC; refine sC ?_) | (apply gD; refine sD ?_) | fail)
  refine E_res1 (by rfl) (by rfl) ⟨rfl, rfl⟩ Sb
theorem LabelTaken_any {v vm vn : Value} {li lm ln : List Int} {w : World} (s : St w w [rd eI v li, rd eI vm lm, rd eI vn ln]) (hl : li.length ≤ 9223372036854775807) (hr : ∀ n ∈ li, I64 n) (hl2 : lm.length ≤ 9223372036854775807) (hr2 : ∀ n ∈ lm, I64 n) (hl3 : ln.length ≤ 9223372036854775807) (hr3 : ∀ n ∈ ln, I64 n) :
    Calls Try.prog 4 #[v, vm, vn] w fun e w' => e = .returned (.bool true) ∧ Below w.heap.size w w' :=
  ((LabelTaken_ct (W0 := w) (.head _) hl hr (.tail _ (.head _)) hl2 hr2 (.tail _ (.tail _ (.head _))) hl3 hr3).run w s).mono fun e w' h => by
    obtain ⟨v, L', rfl, ⟨rfl, rfl⟩, s⟩ := h
    exact ⟨rfl, s.below⟩
end
end Go.Proofs.Yteeapkfakehocaa
namespace Go.Proofs.Yteeapkfakehocaa
open Go Go.RowKit
set_option linter.unusedVariables false
set_option linter.unusedSimpArgs false
def AllL (p : Nat → Prop) : List Nat → Prop
  | [] => True
  | i :: l => p i ∧ AllL p l
theorem AllL.get {p : Nat → Prop} : ∀ {l : List Nat}, AllL p l → ∀ i ∈ l, p i
  | _ :: _, ⟨h, _⟩, _, .head _ => h
  | _ :: _, ⟨_, t⟩, _, .tail _ hi => AllL.get t _ hi
section
variable {P : Program} {W0 w : World} {L L' S : List HP} {ops : Array Oper} {o : Oper} {a a' : Act} {Q : Exit → Act → World → Prop}
/-- where a drawn region stands: N states, each with values -/
structure DJ (β : Type) where
  N : Nat
  ms : List Bool
  ps : Nat → β → List (Nat × Value)
  LI : Nat → β → List HP
  lsd : Nat → Array Bool
  rd : Nat → List Nat
  f : Nat → Nat
/-- the next state -/
def QJ {β : Type} (W0 : World) (a0 : Act) (J : DJ β) (lsd : Array Bool) (f : Nat) : Exit → Act → World → Prop :=
  QN fun a' w' => ∃ q v u, q < J.N ∧ J.lsd q = lsd ∧ J.f q = f ∧ a' = frm a0 J.ms u (J.ps q v) ∧ St W0 w' (J.LI q v)
theorem wpAnyB_J {β : Type} {md : Region.Mode} {K : Act → World → Prop} {a0 : Act} {n : Nat} {l : List Oper} (J : DJ β) (hn : l.length ≤ n)
    (hR : ∀ q, q < J.N → Region.ready md l.toArray (J.lsd q) = J.rd q ∧ (J.f q = 0 ↔ J.rd q = []))
    (h0 : ∀ q v u, q < J.N → J.f q = 0 → ∀ w, St W0 w (J.LI q v) → K (frm a0 J.ms u (J.ps q v)) w)
    (h1 : ∀ q v u, q < J.N → ∀ i ∈ J.rd q, ∀ w, St W0 w (J.LI q v) → wpPl P l.toArray (fun a w => QJ W0 a0 J ((J.lsd q).setIfInBounds i true) (J.f q - 1) .normal a w) (fun w => St W0 w []) n false [(i, 0)] (frm a0 J.ms u (J.ps q v)) w) :
    ∀ (m : Nat) (q : Nat) (v : β) (u : Nat → Value) (w : World), q < J.N → J.f q = m → St W0 w (J.LI q v) → wpAnyB P md l.toArray (QN K) (fun w => St W0 w []) n m (J.lsd q) (frm a0 J.ms u (J.ps q v)) w
  | 0, q, v, u, w, hq, hf, s => ⟨(hR q hq).1.trans ((hR q hq).2.1 hf), h0 q v u hq hf w s⟩
  | m + 1, q, v, u, w, hq, hf, s => by
    obtain ⟨hr, hr2⟩ := hR q hq
    refine ⟨fun h => ?_, fun i hi => ?_⟩
    · rw [hr] at h
      have := hr2.2 h
      omega
    have hin : i < l.toArray.size := let ⟨_, o, ho, _⟩ := mem_ready.1 hi; (Array.getElem?_eq_some_iff.1 ho).1
    have hne : (i == n) = false := by
      have : i < l.length := by simpa using hin
      simp; omega
    have h2 := h1 q v u hq i (by rw [← hr]; exact hi) w s
    refine wpOp_QN (wpOp_mono (fun a' w' h' => ?_) h2)
    obtain ⟨g1, q', v', u', hq', hl', hf', ha', s'⟩ := h'
    simp only [hne, Bool.or_self] at g1
    refine ⟨fun _ => g1 trivial, ?_⟩
    rw [← hl', ha']
    exact wpAnyB_J J hn hR h0 h1 m q' v' u' w' hq' (by omega) s'
/-- a drawn region, its first operations read nothing -/
theorem C_drawJ {β : Type} {id n : Nat} {l : List Oper} (J : DJ β) (pl : List (Nat × Nat)) (lsd1 : Array Bool) (F : Nat) (hm : P.follows .mixedOrders = true)
    (hB : (Region.noSelect l.toArray && decide (pl.length + F = l.length) && decide (l.length ≤ n) && planC2 .any l.toArray n (fun x => decide (x = lsd1)) pl (Array.replicate l.toArray.size false) && (List.range J.N).all fun q => decide (Region.ready .any l.toArray (J.lsd q) = J.rd q) && (decide (J.f q = 0) == decide (J.rd q = []))) = true)
    (hpre : DL P W0 [] n l (QJ W0 a J lsd1 F) false pl L a)
    (h0 : ∀ q v u, q < J.N → J.f q = 0 → EL W0 (J.LI q v) Q .normal (frm a J.ms u (J.ps q v)))
    (h1 : ∀ q v u, q < J.N → AllL (fun i => DL P W0 [] n l (QJ W0 a J ((J.lsd q).setIfInBounds i true) (J.f q - 1)) false [(i, 0)] (J.LI q v) (frm a J.ms u (J.ps q v))) (J.rd q)) :
    CL P W0 L (.region id l.toArray true) Q a := by
  refine ⟨fun w s => ?_⟩
  simp only [Bool.and_eq_true, decide_eq_true_eq, List.all_eq_true, List.mem_range, beq_iff_eq] at hB
  obtain ⟨⟨⟨⟨hsel, hlen⟩, hn⟩, h3⟩, hR⟩ := hB
  refine Code.wp_mono (Q := QN fun a w => Q .normal a w) (fun e a w he => ?_) (wp_region_any hm ?_)
  · cases e <;> first | exact he | exact he.elim
  · have inv : Inv .any l.toArray (Array.replicate l.toArray.size false) := ⟨by simp, fun j oj _ hl => by
      exfalso
      by_cases hj : j < l.toArray.size
      · simp at hl; rename_i x; simp at hj; simp [hj] at hl
      · simp at hl; simp at hj; have : ¬ j < l.length := by omega
        simp [this] at hl⟩
    have hnf : (Array.replicate l.toArray.size false).getD n false = false := by
      have : ¬ n < l.length := by omega
      simp [this]
    have s' : St W0 w.drew L := s.drew
    have := wpAnyB_planC2 (P := P) (md := .any) (K := fun a1 w1 => QJ W0 a J lsd1 F .normal a1 w1) (K0 := fun a w => Q .normal a w) (S := fun w => St W0 w []) (n := n) (f := F) (fin := fun x => decide (x = lsd1)) hsel
      (fun listed a1 w1 _ _ hfin _ hK => by
        have hfin := of_decide_eq_true hfin
        subst hfin
        obtain ⟨q, v, u, hq, hl, hf, ha, hs⟩ := hK
        rw [← hl, ha]
        exact wpAnyB_J (P := P) (md := .any) (K := fun a w => Q .normal a w) J hn (fun q hq => ⟨(hR q hq).1, by have := (hR q hq).2; constructor <;> intro h <;> simpa [h] using this⟩) (fun q v u hq hf => (h0 q v u hq hf).run) (fun q v u hq i hi w s => ((h1 q v u hq).get i hi).run w s) F q v u w1 hq hf hs)
      pl _ a w.drew inv hnf h3 (s'.weak fun _ _ _ => trivial) (hpre.run _ s')
    rw [hlen] at this
    exact wpAny_of_B _ _ _ _ (by simpa using this)
theorem E_J {β : Type} {l0 l : List Value} {ds : List Deferred} {J : DJ β} {lsd : Array Bool} {f : Nat} (ms : List Bool) (q : Nat) (v : β) (ha : Agr ⟨l.toArray, ds⟩ (J.ps q v)) (h : q < J.N := by decide) (hl : J.lsd q = lsd := by rfl) (hf : J.f q = f := by rfl)
    (hms : J.ms = ms := by rfl) [hk : Mxd ms l0 l] (hL : Sub L (J.LI q v) := by exact Sb) : EL W0 L (QJ W0 ⟨l0.toArray, ds⟩ J lsd f) .normal ⟨l.toArray, ds⟩ := by
  refine ⟨fun w s => ?_⟩
  refine ⟨q, v, fun i => l.getD i undef, h, hl, hf, ?_, hL.st s⟩
  subst hms
  unfold frm
  have := hk.pf (fun i => l.getD i undef) 0 (fun i v hi => by simp [hi])
  simp only [this]
  have h2 := setAll_agr ha
  simp only at h2
  rw [h2]
theorem D_J {n : Nat} {l : List Oper} {br : Bool} {pl : List (Nat × Nat)} {ms : List Bool} {u : Nat → Value} {ps ps' : List (Nat × Value)} (hL : L = L') (hp : ps = ps') (k : DL P W0 S n l Q br pl L' (frm a ms u ps')) : DL P W0 S n l Q br pl L (frm a ms u ps) := by subst hL; subst hp; exact k
theorem D_fr {n : Nat} {l : List Oper} {br : Bool} {pl : List (Nat × Nat)} (k : DL P W0 S n l Q br pl L a') (h : a = a' := by exact FrmI.pf) : DL P W0 S n l Q br pl L a := h ▸ k
theorem E_frm {e : Exit} {ms : List Bool} {u : Nat → Value} {ps ps' : List (Nat × Value)} (hL : L = L') (hp : ps = ps') (k : EL W0 L' Q e a') (h : frm a ms u ps' = a' := by exact FrmI.pf) : EL W0 L Q e (frm a ms u ps) := by subst hL; subst hp; subst h; exact k
end
end Go.Proofs.Yteeapkfakehocaa
