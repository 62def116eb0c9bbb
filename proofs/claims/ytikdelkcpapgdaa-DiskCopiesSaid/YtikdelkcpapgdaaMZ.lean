/-
  The law DiskCopies.
-/
import Derived.Test.YtikdelkcpapgdaaMY
import Derived.Test.YtikdelkcpapgdaaMC
namespace Go.Proofs.Ytikdelkcpapgdaa
open Go Go.RowKit
set_option linter.unusedVariables false
set_option linter.unusedSimpArgs false
set_option maxRecDepth 20000
set_option synthInstance.maxSize 100000
set_option synthInstance.maxHeartbeats 400000
def runR (K : RK) (os : List OV) : RK := os.foldl (fun K x => (doR K x).1) K
theorem runR_snoc (K : RK) (os : List OV) (x : OV) : runR K (os ++ [x]) = (doR (runR K os) x).1 := by unfold runR; rw [List.foldl_append]; rfl
theorem runR_succ {K : RK} {os : List OV} {i : Nat} {x : OV} (h : os[i]? = some x) : runR K (os.take (i + 1)) = (doR (runR K (os.take i)) x).1 := by rw [List.take_add_one, h]; exact runR_snoc _ _ _
section
variable {W0 : World} {L : List HP}
set_option maxHeartbeats 4000000 in
theorem DiskCopies_ct {room : Int} {v vm : Value} {l lm : List Int} (hr1 : -9223372036854775808 ≤ room) (hr2 : room ≤ 9223372036854775807) (hv : rd eI v l ∈ L) (hr : ∀ n ∈ l, -9223372036854775808 ≤ n ∧ n ≤ 9223372036854775807) (hvm : rd eI vm lm ∈ L) (hrm : ∀ n ∈ lm, -9223372036854775808 ≤ n ∧ n ≤ 9223372036854775807) :
    CT Try.prog 8 #[.int .i64 room, v, vm] W0 L fun r L' => r = .bool true ∧ L' = L := by
  refine CT_fact (fun w s => ((Src.sl (.inl hv) s).form)) ?_
  rintro ⟨A, c, rfl, hc⟩
  refine CT_fact (fun w s => ((Src.sl (.inl hvm) s).form)) ?_
  rintro ⟨Am, cm, rfl, hcm⟩
  refine CT_enter Try.func8 rfl ?_; (simp only [Try.ntmps8, List.size_toArray, List.length_cons, List.length_nil, Nat.reduceAdd, Nat.reduceSub, Array.replicate_succ, Array.replicate_zero, List.push_toArray, List.append_toArray, List.nil_append, List.cons_append])
  repeat' (first | refine go ?_ | intro _ | (apply cG; first | refine cT ?_ | refine cF ?_ | refine cS (fun _ => ?_) fun _ => ?_) | (apply gW; refine sW ?_) | (apply gI; refine sI ?_) | (apply gE; refine sE ?_) | (apply gP; refine sP ?_) | (apply gC; refine sC ?_) | (apply gD; refine sD ?_) | fail)
  refine O_d (dy_call ArgsI.pf (by first | exact rfl | trivial | (intro a b; rfl)) (made_ct hv hr hr1 hr2)) ?_; rintro _ _ ⟨_, ⟨p, r, d, K, hR, rfl, rfl⟩, rfl⟩; refine O_n ?_
  repeat' (first | refine go ?_ | intro _ | (apply cG; first | refine cT ?_ | refine cF ?_ | refine cS (fun _ => ?_) fun _ => ?_) | (apply gW; refine sW ?_) | (apply gI; refine sI ?_) | (apply gE; refine sE ?_) | (apply gP; refine sP ?_) | (apply gC; refine sC ?_) | (apply gD; refine sD ?_) | fail)
  refine O_d (dy_call ArgsI.pf (by first | exact rfl | trivial | (intro a b; rfl)) (CT.pull (i := 0) (by rfl) (Copy_ct))) ?_; rintro _ _ ⟨_, ⟨q, rfl, rfl⟩, rfl⟩; refine O_n ?_
  repeat' (first | refine go ?_ | intro _ | (apply cG; first | refine cT ?_ | refine cF ?_ | refine cS (fun _ => ?_) fun _ => ?_) | (apply gW; refine sW ?_) | (apply gI; refine sI ?_) | (apply gE; refine sE ?_) | (apply gP; refine sP ?_) | (apply gC; refine sC ?_) | (apply gD; refine sD ?_) | fail)
  refine O_sub (S := dsk q d :: rdk r K :: dsk p d :: L) Sb ?_
  refine O_d (dy_call ArgsI.pf (by first | exact rfl | trivial | (intro a b; rfl)) (same_ct hR)) ?_; rintro _ _ ⟨_, ⟨rfl, rfl⟩, rfl⟩; refine O_n ?_
  repeat' (first | refine go ?_ | intro _ | (apply cG; first | refine cT ?_ | refine cF ?_ | refine cS (fun _ => ?_) fun _ => ?_) | (apply gW; refine sW ?_) | (apply gI; refine sI ?_) | (apply gE; refine sE ?_) | (apply gP; refine sP ?_) | (apply gC; refine sC ?_) | (apply gD; refine sD ?_) | fail)
  refine O_d (dy_call ArgsI.pf (by first | exact rfl | trivial | (intro a b; rfl)) (Ops_ct (l := lm) (.tail _ (.tail _ (.tail _ hvm))) hrm)) ?_; rintro _ _ ⟨_, ⟨A1, c1, os, hol, hok, rfl, rfl⟩, rfl⟩; refine O_n ?_
  repeat' (first | refine go ?_ | intro _ | (apply cG; first | refine cT ?_ | refine cF ?_ | refine cS (fun _ => ?_) fun _ => ?_) | (apply gW; refine sW ?_) | (apply gI; refine sI ?_) | (apply gE; refine sE ?_) | (apply gP; refine sP ?_) | (apply gC; refine sC ?_) | (apply gD; refine sD ?_) | fail)
  refine C_loopS (κ := Nat × DK) [false, false, false, false, false, false, false, false, false, false, false, true, false, false, false, false, false, false, false, false, false, false, false, false, false, false, false, false, false, false, false, false, false, false, false, false, false, false, true, true, true, true, true, true, true, true, true, true, true, true, false, false, false, false, false, false, false, false, false, false, false, false, false, false, false, false, false, false, false, false, false, false, false, false, false, false, false, false, false, false, false, false, false, false, false, false, false, false] (fun k => [(11, .int .i64 (k.1 : Int))]) (fun k => [(1, dsk q k.2)]) (fun k => k.1 ≤ os.length ∧ Rel k.2 (runR K (os.take k.1))) (fun k => os.length - k.1) (0, d) ⟨Nat.zero_le _, hR⟩ ⟨rfl, trivial⟩ ?_
  rintro ⟨i, dc⟩ u ⟨hi, hRc⟩
  dsimp only at hi hRc
  dsimp only
  ((try dsimp only); refine C_n ?_; (try simp only [Nat.reduceAdd, Nat.zero_add]))
  by_cases hlt : i < os.length
  · obtain ⟨x, hx⟩ : ∃ x, os[i]? = some x := ⟨_, List.getElem?_eq_getElem (by omega)⟩
    have hax : At os i x := ⟨hx⟩
    have hxo := hok x (List.mem_of_getElem? hx)
    have hsu := runR_succ (K := K) hx
    refine C_sub (sub_peekO (.head _) hx) ?_
    repeat' (first | refine go ?_ | intro _ | (apply cG; first | refine cT ?_ | refine cF ?_ | refine cS (fun _ => ?_) fun _ => ?_) | (apply gW; refine sW ?_) | (apply gI; refine sI ?_) | (apply gE; refine sE ?_) | (apply gP; refine sP ?_) | (apply gC; refine sC ?_) | (apply gD; refine sD ?_) | fail)
    refine O_d (dy_call ArgsI.pf (by first | exact rfl | trivial | (intro a b; rfl)) (CT.pull (i := 3) (by rfl) (do_ct hRc hxo (.head _) (.tail _ (.head _))))) ?_; rintro _ _ ⟨_, ⟨d2, hR2, rfl, rfl⟩, rfl⟩; refine O_n ?_
    rw [← hsu] at hR2
    repeat' (first | refine go ?_ | intro _ | (apply cG; first | refine cT ?_ | refine cF ?_ | refine cS (fun _ => ?_) fun _ => ?_) | (apply gW; refine sW ?_) | (apply gI; refine sI ?_) | (apply gE; refine sE ?_) | (apply gP; refine sP ?_) | (apply gC; refine sC ?_) | (apply gD; refine sD ?_) | fail)
    exact E_round (i + 1, d2) ⟨hlt, hR2⟩ (by dsimp only; omega) ⟨rfl, trivial⟩ Sb
  obtain rfl : i = os.length := by omega
  rw [List.take_length] at hRc
  repeat' (first | refine go ?_ | intro _ | (apply cG; first | refine cT ?_ | refine cF ?_ | refine cS (fun _ => ?_) fun _ => ?_) | (apply gW; refine sW ?_) | (apply gI; refine sI ?_) | (apply gE; refine sE ?_) | (apply gP; refine sP ?_) | (apply gC; refine sC ?_) | (apply gD; refine sD ?_) | fail)
  refine O_sub (S := dsk p d :: rdk r K :: own 48 eOV (.slice A1 os.length c1) os :: dsk q dc :: L) Sb ?_
  refine O_d (dy_call ArgsI.pf (by first | exact rfl | trivial | (intro a b; rfl)) (same_ct hR)) ?_; rintro _ _ ⟨_, ⟨rfl, rfl⟩, rfl⟩; refine O_n ?_
  repeat' (first | refine go ?_ | intro _ | (apply cG; first | refine cT ?_ | refine cF ?_ | refine cS (fun _ => ?_) fun _ => ?_) | (apply gW; refine sW ?_) | (apply gI; refine sI ?_) | (apply gE; refine sE ?_) | (apply gP; refine sP ?_) | (apply gC; refine sC ?_) | (apply gD; refine sD ?_) | fail)
  refine O_d (dy_call ArgsI.pf (by first | exact rfl | trivial | (intro a b; rfl)) (CT.pull (i := 0) (by rfl) (Copy_ct))) ?_; rintro _ _ ⟨_, ⟨q2, rfl, rfl⟩, rfl⟩; refine O_n ?_
  repeat' (first | refine go ?_ | intro _ | (apply cG; first | refine cT ?_ | refine cF ?_ | refine cS (fun _ => ?_) fun _ => ?_) | (apply gW; refine sW ?_) | (apply gI; refine sI ?_) | (apply gE; refine sE ?_) | (apply gP; refine sP ?_) | (apply gC; refine sC ?_) | (apply gD; refine sD ?_) | fail)
  refine C_sub (S := own 48 eOV (.slice A1 os.length c1) os :: dsk q2 d :: rdk r K :: dsk q dc :: L) Sb ?_
  refine C_loopS (κ := Nat × DK × RK) [false, false, false, false, false, false, true, false, false, false, false, false, false, true, false, false, false, false, false, false, false, false, false, false, false, false, false, false, false, false, false, false, false, false, false, false, false, false, false, false, false, false, false, false, false, false, false, false, false, false, false, false, false, false, false, false, false, false, true, true, true, true, true, true, true, true, true, true, true, true, true, true, true, true, true, true, true, false, false, false, false, false, false, false, false, false, false, false] (fun k => [(13, .int .i64 (k.1 : Int))]) (fun k => [(1, dsk q2 k.2.1), (2, rdk r k.2.2)]) (fun k => k.1 ≤ os.length ∧ Rel k.2.1 k.2.2 ∧ k.2.2 = runR K (os.take k.1)) (fun k => os.length - k.1) (0, d, K) ⟨Nat.zero_le _, hR, rfl⟩ ⟨rfl, trivial⟩ ?_
  rintro ⟨i, da, Ka⟩ u ⟨hi, hRa, hKa⟩
  dsimp only at hi hRa hKa
  dsimp only
  ((try dsimp only); refine C_n ?_; (try simp only [Nat.reduceAdd, Nat.zero_add]))
  by_cases hlt : i < os.length
  · obtain ⟨x, hx⟩ : ∃ x, os[i]? = some x := ⟨_, List.getElem?_eq_getElem (by omega)⟩
    have hax : At os i x := ⟨hx⟩
    have hxo := hok x (List.mem_of_getElem? hx)
    have hsu := runR_succ (K := K) hx
    refine C_sub (sub_peekO (.head _) hx) ?_
    repeat' (first | refine go ?_ | intro _ | (apply cG; first | refine cT ?_ | refine cF ?_ | refine cS (fun _ => ?_) fun _ => ?_) | (apply gW; refine sW ?_) | (apply gI; refine sI ?_) | (apply gE; refine sE ?_) | (apply gP; refine sP ?_) | (apply gC; refine sC ?_) | (apply gD; refine sD ?_) | fail)
    refine C_draw (n := 99) [own 48 eOV (.slice A1 os.length c1) os] [(0, 1), (1, 1), (2, 1), (3, 1), (4, 1), (6, 1), (7, 1), (8, 1), (9, 1), (10, 1), (5, 0), (11, 0), (12, 1)] (by kernel_rfl) (by kernel_rfl) Sb ?_
    repeat' (first | refine go ?_ | intro _ | (apply cG; first | refine cT ?_ | refine cF ?_ | refine cS (fun _ => ?_) fun _ => ?_) | (apply gW; refine sW ?_) | (apply gI; refine sI ?_) | (apply gE; refine sE ?_) | (apply gP; refine sP ?_) | (apply gC; refine sC ?_) | (apply gD; refine sD ?_) | fail)
    refine D_op rfl ?_; refine X_d (dy_call ArgsI.pf (by first | exact rfl | trivial | (intro a b; rfl)) (CT.pull (i := 3) (by rfl) (do_ct hRa hxo (.head _) (.tail _ (.head _))))) ?_; rintro _ _ ⟨_, ⟨d2, hR2, rfl, rfl⟩, rfl⟩; refine ⟨(by first | exact .inl rfl | exact .inr Sb), D_n ?_⟩
    repeat' (first | refine go ?_ | intro _ | (apply cG; first | refine cT ?_ | refine cF ?_ | refine cS (fun _ => ?_) fun _ => ?_) | (apply gW; refine sW ?_) | (apply gI; refine sI ?_) | (apply gE; refine sE ?_) | (apply gP; refine sP ?_) | (apply gC; refine sC ?_) | (apply gD; refine sD ?_) | fail)
    refine D_op rfl ?_; refine X_d (dy_call ArgsI.pf (by first | exact rfl | trivial | (intro a b; rfl)) (CT.pull (i := 4) (by rfl) (rDo_ct hRa.kok hxo (.tail _ (.head _)) (.tail _ (.tail _ (.head _)))))) ?_; rintro _ _ ⟨_, ⟨rfl, rfl⟩, rfl⟩; refine ⟨(by first | exact .inl rfl | exact .inr Sb), D_n ?_⟩
    repeat' (first | refine go ?_ | intro _ | (apply cG; first | refine cT ?_ | refine cF ?_ | refine cS (fun _ => ?_) fun _ => ?_) | (apply gW; refine sW ?_) | (apply gI; refine sI ?_) | (apply gE; refine sE ?_) | (apply gP; refine sP ?_) | (apply gC; refine sC ?_) | (apply gD; refine sD ?_) | fail)
    exact E_round (i + 1, d2, (doR Ka x).1) ⟨hlt, hR2, by dsimp only; rw [hsu, hKa]⟩ (by dsimp only; omega) ⟨rfl, trivial⟩ Sb
  obtain rfl : i = os.length := by omega
  rw [List.take_length] at hKa
  subst hKa
  repeat' (first | refine go ?_ | intro _ | (apply cG; first | refine cT ?_ | refine cF ?_ | refine cS (fun _ => ?_) fun _ => ?_) | (apply gW; refine sW ?_) | (apply gI; refine sI ?_) | (apply gE; refine sE ?_) | (apply gP; refine sP ?_) | (apply gC; refine sC ?_) | (apply gD; refine sD ?_) | fail)
  refine O_sub (S := dsk q2 da :: rdk r (runR K os) :: dsk q dc :: L) Sb ?_
  refine O_d (dy_call ArgsI.pf (by first | exact rfl | trivial | (intro a b; rfl)) (same_ct hRa)) ?_; rintro _ _ ⟨_, ⟨rfl, rfl⟩, rfl⟩; refine O_n ?_
  repeat' (first | refine go ?_ | intro _ | (apply cG; first | refine cT ?_ | refine cF ?_ | refine cS (fun _ => ?_) fun _ => ?_) | (apply gW; refine sW ?_) | (apply gI; refine sI ?_) | (apply gE; refine sE ?_) | (apply gP; refine sP ?_) | (apply gC; refine sC ?_) | (apply gD; refine sD ?_) | fail)
  refine O_sub (S := dsk q dc :: rdk r (runR K os) :: L) Sb ?_
  refine O_d (dy_call ArgsI.pf (by first | exact rfl | trivial | (intro a b; rfl)) (same_ct hRc)) ?_; rintro _ _ ⟨_, ⟨rfl, rfl⟩, rfl⟩; refine O_n ?_
  repeat' (first | refine go ?_ | intro _ | (apply cG; first | refine cT ?_ | refine cF ?_ | refine cS (fun _ => ?_) fun _ => ?_) | (apply gW; refine sW ?_) | (apply gI; refine sI ?_) | (apply gE; refine sE ?_) | (apply gP; refine sP ?_) | (apply gC; refine sC ?_) | (apply gD; refine sD ?_) | fail)
  refine O_d (dy_call ArgsI.pf (by first | exact rfl | trivial | (intro a b; rfl)) (lives_ct)) ?_; rintro _ _ ⟨_, ⟨rfl, hLL⟩, rfl⟩; replace hLL := hLL.symm; subst hLL; refine O_n ?_
  repeat' (first | refine go ?_ | intro _ | (apply cG; first | refine cT ?_ | refine cF ?_ | refine cS (fun _ => ?_) fun _ => ?_) | (apply gW; refine sW ?_) | (apply gI; refine sI ?_) | (apply gE; refine sE ?_) | (apply gP; refine sP ?_) | (apply gC; refine sC ?_) | (apply gD; refine sD ?_) | fail)
  refine E_res1 (by rfl) (by rfl) ⟨rfl, rfl⟩ Sb
theorem DiskCopies_any {n : Int} {v vm : Value} {li lm : List Int} {w : World} (s : St w w [rd eI v li, rd eI vm lm]) (hn1 : -9223372036854775808 ≤ n) (hn2 : n ≤ 9223372036854775807) (hr : ∀ n ∈ li, -9223372036854775808 ≤ n ∧ n ≤ 9223372036854775807) (hrm : ∀ n ∈ lm, -9223372036854775808 ≤ n ∧ n ≤ 9223372036854775807) :
    Calls Try.prog 8 #[.int .i64 n, v, vm] w fun e w' => e = .returned (.bool true) ∧ Below w.heap.size w w' :=
  ((DiskCopies_ct (W0 := w) hn1 hn2 (.head _) hr (.tail _ (.head _)) hrm).run w s).mono fun e w' h => by
    obtain ⟨v, L', rfl, ⟨rfl, rfl⟩, s⟩ := h
    exact ⟨rfl, s.below⟩
end
end Go.Proofs.Ytikdelkcpapgdaa
namespace Go.Proofs.Ytikdelkcpapgdaa
open Go Go.RowKit
set_option linter.unusedVariables false
set_option linter.unusedSimpArgs false
def toB (n : Int) : UInt8 := UInt8.ofNat n.toNat
theorem toB_wf {n : Int} (h : (Lit.int .u8 n).wf = true) : ((toB n).toNat : Int) = n := by
  simp [Lit.wf, IntKind.min, IntKind.max, IntKind.signed, IntKind.bits] at h
  unfold toB
  simp
  omega
/-- a row of numbers of one kind, said as the rows' proofs say it -/
theorem row_sl {α : Type} {f : α → Value} {hf : ∀ a, (f a).oneCell' = true} {k : IntKind} {w : World} {a : Option Addr} {len cap : Nat} {zs : List Int} {l : List α} (hl : l.map f = (zs.take len).map (Value.int k)) (hz : zs.length = cap) (hlc : len ≤ cap)
    {x : Addr} (ha : a = some x) (hcell : ∀ i, i < zs.length → w.cell? (x.add i) = some (.int k (zs.getD i 0))) : Sl (Hp.of w) (e1 f hf) (.slice a len cap) l := by
  have hlen : l.length = len := by
    have := congrArg List.length hl
    simp at this
    omega
  subst hlen
  refine ⟨a, cap, l.map fun b => [f b], rfl, hlc, all2_e1.2 rfl, ?_⟩
  by_cases h0 : l = []
  · exact .inl h0
  · right
    have hpos : 0 < l.length := List.length_pos_iff.2 h0
    obtain ⟨b, off, spot⟩ := x
    have h1 := hcell 0 (by omega)
    have hspot : spot = none := by simpa [Addr.add] using World.cell?_spot h1
    subst hspot
    rw [flat_one]
    have hb : ∃ cs t fr, w.heap[b]? = some (.cells cs t fr) := by
      unfold World.cell? at h1
      simp only [Addr.add] at h1
      split at h1
      · rename_i cs t fr he; exact ⟨cs, t, fr, he⟩
      · cases h1
    obtain ⟨cs, t, fr, hb⟩ := hb
    refine ⟨b, off, cs, t, fr, ha, hb, ?_⟩
    intro j u hj
    rw [hl] at hj
    have hjl : j < l.length := by
      have := (List.getElem?_eq_some_iff.1 hj).1
      simp at this
      omega
    have h2 := hcell j (by omega)
    have h3 : w.cell? ⟨b, off + j, none⟩ = some (.int k (zs.getD j 0)) := by
      have e : (Addr.add ⟨b, off, none⟩ j) = ⟨b, off + j, none⟩ := by
        by_cases hj0 : j = 0
        · subst hj0; rfl
        · simp [Addr.add, hj0]
      rw [e] at h2
      exact h2
    have h4 : cs[off + j]? = some (.int k (zs.getD j 0)) := by simpa [World.cell?, hb] using h3
    rw [h4]
    rw [List.getElem?_map, List.getElem?_take, if_pos hjl] at hj
    rw [List.getD_eq_getElem?_getD]
    cases hzz : zs[j]? with
    | none => rw [hzz] at hj; cases hj
    | some z => rw [hzz] at hj; simpa using hj
theorem row_i64 {w : World} {a : Option Addr} {len cap : Nat} {zs : List Int} (h : (a = none ∧ len = 0 ∧ cap = 0 ∧ zs = []) ∨
    ∃ x, a = some x ∧ len ≤ cap ∧ cap ≤ maxLen ∧ zs.length = cap ∧ (∀ i, i < zs.length → w.cell? (x.add i) = some (.int .i64 (zs.getD i 0))) ∧ ∀ n ∈ zs, (Lit.int .i64 n).wf = true) :
    ∃ l : List Int, Sl (Hp.of w) eI (.slice a len cap) l ∧ l.length = len ∧ len ≤ 9223372036854775807 ∧ ∀ n ∈ l, -9223372036854775808 ≤ n ∧ n ≤ 9223372036854775807 := by
  rcases h with ⟨rfl, rfl, rfl, rfl⟩ | ⟨x, ha, hl, hm, hz, hc, hw⟩
  · exact ⟨[], ⟨none, 0, [], rfl, Nat.le_refl _, trivial, .inl rfl⟩, rfl, by omega, by simp⟩
  · unfold maxLen at hm
    refine ⟨zs.take len, row_sl rfl hz hl ha hc, by simp; omega, by omega, fun n hn => ?_⟩
    have := hw n (List.mem_of_mem_take hn)
    simpa [Lit.wf, IntKind.min, IntKind.max, IntKind.signed, IntKind.bits] using this
theorem row_u8 {w : World} {a : Option Addr} {len cap : Nat} {zs : List Int} (h : (a = none ∧ len = 0 ∧ cap = 0 ∧ zs = []) ∨
    ∃ x, a = some x ∧ len ≤ cap ∧ cap ≤ maxLen ∧ zs.length = cap ∧ (∀ i, i < zs.length → w.cell? (x.add i) = some (.int .u8 (zs.getD i 0))) ∧ ∀ n ∈ zs, (Lit.int .u8 n).wf = true) :
    ∃ l : List UInt8, Sl (Hp.of w) eB (.slice a len cap) l ∧ l.length = len ∧ len ≤ 9223372036854775807 := by
  rcases h with ⟨rfl, rfl, rfl, rfl⟩ | ⟨x, ha, hl, hm, hz, hc, hw⟩
  · exact ⟨[], ⟨none, 0, [], rfl, Nat.le_refl _, trivial, .inl rfl⟩, rfl, by omega⟩
  · unfold maxLen at hm
    refine ⟨(zs.take len).map toB, row_sl ?_ hz hl ha hc, by simp; omega, by omega⟩
    rw [List.map_map]
    refine List.map_congr_left fun n hn => ?_
    show bv (toB n) = _
    rw [bv, toB_wf (hw n (List.mem_of_mem_take hn))]
theorem St.mem_ {W : World} {α : Type} {R : Enc α} {v : Value} {l : List α} {L : List HP} (h : Sl (Hp.of W) R v l) (hS : St W W L) : St W W (Go.Proofs.Ytikdelkcpapgdaa.rd R v l :: L) := hS.old h
end Go.Proofs.Ytikdelkcpapgdaa
