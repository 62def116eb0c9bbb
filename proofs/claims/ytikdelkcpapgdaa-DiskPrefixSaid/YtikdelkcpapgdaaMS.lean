/-
  Walks: the examples of package disk.
-/
import Derived.ArgAppend
import Derived.Test.YtikdelkcpapgdaaMR
import Derived.Test.YtikdelkcpapgdaaMK
namespace Go.Proofs.Ytikdelkcpapgdaa
open Go Go.RowKit
set_option linter.unusedVariables false
set_option linter.unusedSimpArgs false
set_option maxRecDepth 20000
set_option synthInstance.maxSize 100000
set_option synthInstance.maxHeartbeats 400000
theorem crB_ex1 : crB [1] 7 2 [1, 2, 255] = [1, 2, 254] := by decide +kernel
theorem crB_ex2 : crB [] 7 2 [1, 2, 255] = [1, 2] := by decide +kernel
section
variable {W0 : World} {L : List HP}
set_option maxHeartbeats 1000000 in
theorem lives_ct : CT Try.prog 19 #[] W0 L fun r L' => r = .bool true ∧ L' = L := by
  refine CT_enter Try.func19 rfl ?_; (simp only [Try.ntmps19, List.size_toArray, List.length_cons, List.length_nil, Nat.reduceAdd, Nat.reduceSub, Array.replicate_succ, Array.replicate_zero, List.push_toArray, List.append_toArray, List.nil_append, List.cons_append])
  repeat' (first | refine go ?_ | intro _ | (apply cG; first | refine cT ?_ | refine cF ?_ | refine cS (fun _ => ?_) fun _ => ?_) | (apply gW; refine sW ?_) | (apply gI; refine sI ?_) | (apply gE; refine sE ?_) | (apply gP; refine sP ?_) | (apply gC; refine sC ?_) | (apply gD; refine sD ?_) | fail)
  refine O_d (dy_call ArgsI.pf (by first | exact rfl | trivial | (intro a b; rfl)) (dNew_ct (room := 100) (by decide) (by decide))) ?_; rintro _ _ ⟨_, ⟨p, rfl, rfl⟩, rfl⟩; refine O_n ?_
  have hj0 : J1 ⟨[], 100, false, false, 0⟩ 3 100 [] 0 := J1.begun (by decide) (by decide) 3
  have hfk : (0 : Int) ≤ 3 ∧ (3 : Int) < 64 := by decide
  repeat' (first | refine go ?_ | intro _ | (apply cG; first | refine cT ?_ | refine cF ?_ | refine cS (fun _ => ?_) fun _ => ?_) | (apply gW; refine sW ?_) | (apply gI; refine sI ?_) | (apply gE; refine sE ?_) | (apply gP; refine sP ?_) | (apply gC; refine sC ?_) | (apply gD; refine sD ?_) | fail)
  refine O_d (dy_litP (f := bv) (hf := fun _ => rfl) [1, 2] (by rfl)) ?_; rintro _ _ ⟨_, rfl, rfl⟩; refine O_n ?_
  refine O_d (dy_call ArgsI.pf (by first | exact rfl | trivial | (intro a b; rfl)) (CT.pull (i := 1) (by rfl) (Append_na hj0 hfk (b := [1, 2]) Sc.pf (by decide) (by decide) (by decide) (by decide)))) ?_; rintro _ _ ⟨_, ⟨f1, hj1, rfl, rfl⟩, rfl⟩; refine O_n ?_
  repeat' (first | refine go ?_ | intro _ | (apply cG; first | refine cT ?_ | refine cF ?_ | refine cS (fun _ => ?_) fun _ => ?_) | (apply gW; refine sW ?_) | (apply gI; refine sI ?_) | (apply gE; refine sE ?_) | (apply gP; refine sP ?_) | (apply gC; refine sC ?_) | (apply gD; refine sD ?_) | fail)
  refine O_d (dy_call ArgsI.pf (by first | exact rfl | trivial | (intro a b; rfl)) (CT.pull (i := 0) (by rfl) (Sync_na hj1 (by decide) (by decide)))) ?_; rintro _ _ ⟨_, ⟨f2, hj2, rfl, rfl⟩, rfl⟩; refine O_n ?_
  repeat' (first | refine go ?_ | intro _ | (apply cG; first | refine cT ?_ | refine cF ?_ | refine cS (fun _ => ?_) fun _ => ?_) | (apply gW; refine sW ?_) | (apply gI; refine sI ?_) | (apply gE; refine sE ?_) | (apply gP; refine sP ?_) | (apply gC; refine sC ?_) | (apply gD; refine sD ?_) | fail)
  refine O_d (dy_litP (f := bv) (hf := fun _ => rfl) [255] (by rfl)) ?_; rintro _ _ ⟨_, rfl, rfl⟩; refine O_n ?_
  refine O_d (dy_call ArgsI.pf (by first | exact rfl | trivial | (intro a b; rfl)) (CT.pull (i := 1) (by rfl) (Append_na hj2 hfk (b := [255]) Sc.pf (by decide) (by decide) (by decide) (by decide)))) ?_; rintro _ _ ⟨_, ⟨f3, hj3, rfl, rfl⟩, rfl⟩; refine O_n ?_
  replace hj3 : J1 ⟨f3, 100, false, false, 0⟩ 3 100 [1, 2, 255] 2 := hj3
  repeat' (first | refine go ?_ | intro _ | (apply cG; first | refine cT ?_ | refine cF ?_ | refine cS (fun _ => ?_) fun _ => ?_) | (apply gW; refine sW ?_) | (apply gI; refine sI ?_) | (apply gE; refine sE ?_) | (apply gP; refine sP ?_) | (apply gC; refine sC ?_) | (apply gD; refine sD ?_) | fail)
  refine O_d (dy_call ArgsI.pf (by first | exact rfl | trivial | (intro a b; rfl)) (CT.pull (i := 0) (by rfl) (Copy_ct))) ?_; rintro _ _ ⟨_, ⟨q, rfl, rfl⟩, rfl⟩; refine O_n ?_
  repeat' (first | refine go ?_ | intro _ | (apply cG; first | refine cT ?_ | refine cF ?_ | refine cS (fun _ => ?_) fun _ => ?_) | (apply gW; refine sW ?_) | (apply gI; refine sI ?_) | (apply gE; refine sE ?_) | (apply gP; refine sP ?_) | (apply gC; refine sC ?_) | (apply gD; refine sD ?_) | fail)
  refine O_d (dy_litP (f := iv) (hf := fun _ => rfl) [1] (by rfl)) ?_; rintro _ LI' ⟨_, rfl, hLL⟩; replace hLL : LI' = own _ eI _ _ :: _ := hLL; subst hLL; refine O_n ?_
  refine O_frz 0 ?_
  repeat' (first | refine go ?_ | intro _ | (apply cG; first | refine cT ?_ | refine cF ?_ | refine cS (fun _ => ?_) fun _ => ?_) | (apply gW; refine sW ?_) | (apply gI; refine sI ?_) | (apply gE; refine sE ?_) | (apply gP; refine sP ?_) | (apply gC; refine sC ?_) | (apply gD; refine sD ?_) | fail)
  refine O_front 2 rfl EAt.pf ?_
  refine O_d (dy_call ArgsI.pf (by first | exact rfl | trivial | (intro a b; rfl)) (Crash_na (kp := [1]) (z := 7) hj3 (.head _) (by decide) (by decide) (by decide) (by decide))) ?_; rintro _ _ ⟨_, ⟨f4, hj4, rfl, rfl⟩, rfl⟩; refine O_n ?_
  rw [crB_ex1] at hj4
  replace hj4 : J1 ⟨f4, 100, false, false, 0⟩ 3 100 [1, 2, 254] 3 := hj4
  repeat' (first | refine go ?_ | intro _ | (apply cG; first | refine cT ?_ | refine cF ?_ | refine cS (fun _ => ?_) fun _ => ?_) | (apply gW; refine sW ?_) | (apply gI; refine sI ?_) | (apply gE; refine sE ?_) | (apply gP; refine sP ?_) | (apply gC; refine sC ?_) | (apply gD; refine sD ?_) | fail)
  refine O_rdnil eI none 0 ?_
  refine O_front 3 rfl EAt.pf ?_
  refine O_d (dy_call ArgsI.pf (by first | exact rfl | trivial | (intro a b; rfl)) (Crash_na (kp := []) (z := 7) hj3 (.head _) (by decide) (fun x hx => by cases hx) (by decide) (by decide))) ?_; rintro _ _ ⟨_, ⟨f5, hj5, rfl, rfl⟩, rfl⟩; refine O_n ?_
  rw [crB_ex2] at hj5
  replace hj5 : J1 ⟨f5, 100, false, false, 0⟩ 3 100 [1, 2] 2 := hj5
  repeat' (first | refine go ?_ | intro _ | (apply cG; first | refine cT ?_ | refine cF ?_ | refine cS (fun _ => ?_) fun _ => ?_) | (apply gW; refine sW ?_) | (apply gI; refine sI ?_) | (apply gE; refine sE ?_) | (apply gP; refine sP ?_) | (apply gC; refine sC ?_) | (apply gD; refine sD ?_) | fail)
  refine O_d (dy_call ArgsI.pf (by first | exact rfl | trivial | (intro a b; rfl)) (CT.pull (i := 2) (by rfl) (Read_j hj4 hfk))) ?_; rintro _ _ ⟨_, ⟨A6, c6, rfl, rfl⟩, rfl⟩; refine O_n ?_
  repeat' (first | refine go ?_ | intro _ | (apply cG; first | refine cT ?_ | refine cF ?_ | refine cS (fun _ => ?_) fun _ => ?_) | (apply gW; refine sW ?_) | (apply gI; refine sI ?_) | (apply gE; refine sE ?_) | (apply gP; refine sP ?_) | (apply gC; refine sC ?_) | (apply gD; refine sD ?_) | fail)
  refine O_d (dy_call ArgsI.pf (by first | exact rfl | trivial | (intro a b; rfl)) (CT.pull (i := 2) (by rfl) (Read_j hj5 hfk))) ?_; rintro _ _ ⟨_, ⟨A7, c7, rfl, rfl⟩, rfl⟩; refine O_n ?_
  repeat' (first | refine go ?_ | intro _ | (apply cG; first | refine cT ?_ | refine cF ?_ | refine cS (fun _ => ?_) fun _ => ?_) | (apply gW; refine sW ?_) | (apply gI; refine sI ?_) | (apply gE; refine sE ?_) | (apply gP; refine sP ?_) | (apply gC; refine sC ?_) | (apply gD; refine sD ?_) | fail)
  refine O_d (dy_call ArgsI.pf (by first | exact rfl | trivial | (intro a b; rfl)) (CT.pull (i := 1) (by rfl) (dArm_ct (n := 0)))) ?_; rintro _ _ ⟨_, ⟨rfl, rfl⟩, rfl⟩; refine O_n ?_
  repeat' (first | refine go ?_ | intro _ | (apply cG; first | refine cT ?_ | refine cF ?_ | refine cS (fun _ => ?_) fun _ => ?_) | (apply gW; refine sW ?_) | (apply gI; refine sI ?_) | (apply gE; refine sE ?_) | (apply gP; refine sP ?_) | (apply gC; refine sC ?_) | (apply gD; refine sD ?_) | fail)
  have hu5 := hj5.ok.u
  have hfu5 := file_le_used (n := 1) f5
  replace hu5 : (usedL f5 : Int) ≤ 100 := hu5
  refine O_rdnil eB none 0 ?_
  refine O_d (dy_call ArgsI.pf (by first | exact rfl | trivial | (intro a b; rfl)) (CT.pull (i := 1) (by rfl) (dAppend_ct (n := 1) (b := []) (.inl (.head _)) (by decide) (by omega) (by decide) (by decide) (by omega) (by decide) (by decide)))) ?_; rintro _ _ ⟨_, ⟨A8, c8, rfl, rfl⟩, rfl⟩; refine O_n ?_
  have ha8 : ∃ f8, appF ⟨f5, 100, false, decide ((0 : Int) ≤ 0), 0⟩ 1 [] (.slice A8 ((fileF 1 f5).b ++ []).length c8) = (⟨f8, 100, true, false, -1⟩, 21) := by
    unfold appF
    rw [if_pos (by decide), if_neg (by simp)]
    dsimp only
    rw [if_neg (by simp only [List.length_nil]; omega)]
    exact ⟨_, rfl⟩
  obtain ⟨f8, ha8⟩ := ha8
  rw [ha8]
  dsimp only
  repeat' (first | refine go ?_ | intro _ | (apply cG; first | refine cT ?_ | refine cF ?_ | refine cS (fun _ => ?_) fun _ => ?_) | (apply gW; refine sW ?_) | (apply gI; refine sI ?_) | (apply gE; refine sE ?_) | (apply gP; refine sP ?_) | (apply gC; refine sC ?_) | (apply gD; refine sD ?_) | fail)
  refine O_d (dy_call ArgsI.pf (by first | exact rfl | trivial | (intro a b; rfl)) (CT.pull (i := 0) (by rfl) (dRead_no (files := f8) (room := 100) (off := true) (armed := false) (left := -1) (e := 21) (.inr ⟨by decide, rfl, rfl⟩)))) ?_; rintro _ _ ⟨_, ⟨rfl, rfl⟩, rfl⟩; refine O_n ?_
  repeat' (first | refine go ?_ | intro _ | (apply cG; first | refine cT ?_ | refine cF ?_ | refine cS (fun _ => ?_) fun _ => ?_) | (apply gW; refine sW ?_) | (apply gI; refine sI ?_) | (apply gE; refine sE ?_) | (apply gP; refine sP ?_) | (apply gC; refine sC ?_) | (apply gD; refine sD ?_) | fail)
  refine O_d (dy_litP (f := bv) (hf := fun _ => rfl) [1, 2, 254] (by rfl)) ?_; rintro _ _ ⟨_, rfl, rfl⟩; refine O_n ?_
  refine O_d (dy_call ArgsI.pf (by first | exact rfl | trivial | (intro a b; rfl)) (SameBytes_ct (la := [1, 2, 254]) (lb := [1, 2, 254]) (.inr ⟨_, .tail _ (.tail _ (.tail _ (.tail _ (.head _))))⟩) (.inr ⟨_, .head _⟩) (by decide) (by decide) (q := true) (by decide))) ?_; rintro _ _ ⟨_, ⟨rfl, hLL⟩, rfl⟩; replace hLL := hLL.symm; subst hLL; refine O_n ?_
  repeat' (first | refine go ?_ | intro _ | (apply cG; first | refine cT ?_ | refine cF ?_ | refine cS (fun _ => ?_) fun _ => ?_) | (apply gW; refine sW ?_) | (apply gI; refine sI ?_) | (apply gE; refine sE ?_) | (apply gP; refine sP ?_) | (apply gC; refine sC ?_) | (apply gD; refine sD ?_) | fail)
  refine O_d (dy_litP (f := bv) (hf := fun _ => rfl) [1, 2] (by rfl)) ?_; rintro _ _ ⟨_, rfl, rfl⟩; refine O_n ?_
  refine O_d (dy_call ArgsI.pf (by first | exact rfl | trivial | (intro a b; rfl)) (SameBytes_ct (la := [1, 2]) (lb := [1, 2]) (.inr ⟨_, .tail _ (.tail _ (.tail _ (.tail _ (.head _))))⟩) (.inr ⟨_, .head _⟩) (by decide) (by decide) (q := true) (by decide))) ?_; rintro _ _ ⟨_, ⟨rfl, hLL⟩, rfl⟩; replace hLL := hLL.symm; subst hLL; refine O_n ?_
  repeat' (first | refine go ?_ | intro _ | (apply cG; first | refine cT ?_ | refine cF ?_ | refine cS (fun _ => ?_) fun _ => ?_) | (apply gW; refine sW ?_) | (apply gI; refine sI ?_) | (apply gE; refine sE ?_) | (apply gP; refine sP ?_) | (apply gC; refine sC ?_) | (apply gD; refine sD ?_) | fail)
  refine E_res1 (by rfl) (by rfl) ⟨rfl, rfl⟩ Sb
end
end Go.Proofs.Ytikdelkcpapgdaa
namespace Go.Proofs.Ytikdelkcpapgdaa
open Go Go.RowKit
set_option linter.unusedVariables false
set_option linter.unusedSimpArgs false
theorem all2B {m : Hp} : ∀ {l : List UInt8} {css : List (List Value)}, All2 (eB.r m) l css → css = l.map fun b => [bv b]
  | [], [], _ => rfl
  | b :: l, c :: css, ⟨h, t⟩ => by
    rw [List.map_cons, ← all2B t]
    have : c = [bv b] := h
    rw [this]
  | [], _ :: _, h => h.elim
  | _ :: _, [], h => h.elim
theorem all2B' (m : Hp) : ∀ (l : List UInt8), All2 (eB.r m) l (l.map fun b => [bv b])
  | [] => trivial
  | b :: l => ⟨rfl, all2B' m l⟩
theorem flatB : ∀ (l : List UInt8), (l.map fun b => [bv b]).flatten = l.map fun b => bv b
  | [] => rfl
  | b :: l => by rw [List.map_cons, List.flatten_cons, flatB l]; rfl
section
variable {P : Program} {W0 w : World} {L : List HP}
theorem append_keepB {t ty e : TypeId} {z : Value} {by_ : Nat} [u : UL P t (.slice e)] [ti : TI P e z 1 by_] (hzs : z.cells.size = 1) {A : Option Addr} {c : Nat} {l l2 : List UInt8} {y : Value}
    (S : St W0 w (own e eB (.slice A l.length c) l :: L)) (hy : Src L eB y l2) (h0 : 0 < l.length) (h02 : 0 < l2.length) (hb : (l.length + l2.length) * by_ ≤ 140737488355328) (h63 : l.length + l2.length ≤ maxLen) :
    ∃ A' c' w', (Builtin.append_ #[t, t] ty #[.slice A l.length c, y]).run P w = .ok (.slice A' (l.length + l2.length) c') w' ∧ St W0 w' (rd eB (.slice A' (l.length + l2.length) c') (l ++ l2) :: rd eB (.slice A l.length c) l :: L) := by
  obtain ⟨i, hi, hz, hsz, hby⟩ := ti.pf
  obtain ⟨v', w', hr, hS'⟩ := append_run (P := P) (t := t) (ty := ty) (e := e) hzs (by decide) rfl S hy hb h63
  obtain ⟨A', c', rfl, _⟩ := (hS'.rdo (.head _)).form
  rw [List.length_append] at hr hS'
  obtain ⟨m, x, b, hA, hL, hm, hx, hbw, d, g⟩ := S.lay
  obtain ⟨css, hall, hrow, hblk⟩ := own_ownsRow hx hA
  have hcss := all2B hall
  subst hcss
  rw [flatB] at hrow
  obtain ⟨A2, c2, css2, rfl, ha2, hsrc⟩ := hy.get hL hm hbw
  have hcss2 := all2B ha2
  subst hcss2
  rw [flatB] at hsrc
  obtain ⟨b2, off2, cs2, T2, fr2, rfl, hb2, hcs2⟩ : ∃ b off cs T fr, A2 = some ⟨b, off, none⟩ ∧ Hp.of w b = some (.cells cs T fr) ∧ ∀ j u, (l2.map fun b => bv b)[j]? = some u → cs[off + j]? = some u := by
    rcases hsrc with h | h
    · subst h; simp at h02
    · exact h
  obtain ⟨gg, cap, cur, hv, _, hgg, hnc, hcm, hcsz, hct⟩ : ∃ g cap cur, Value.slice A l.length c = .slice (some ⟨g, 0, none⟩) l.length cap ∧ 0 ≤ g ∧ w.heap[g]? = some (.cells cur e (0, 0)) ∧ l.length ≤ cap ∧ cap ≤ maxLen ∧ cur.size = cap * 1 ∧ cur.toList.take (l.length * 1) = (l.map fun b => bv b) := by
    rcases hrow.2 with ⟨h, hn⟩ | h
    · omega
    · exact h
  injection hv with e1 e2 e3
  subst e1 e3
  have hcell : ∀ j u, (l.map fun b => bv b)[j]? = some u → w.cell? ((⟨gg, 0, none⟩ : Addr).add j) = some u := by
    intro j u hj
    rw [← hct] at hj
    rw [List.getElem?_take] at hj
    split at hj
    · rw [add0]
      simpa [World.cell?, hgg] using hj
    · cases hj
  have hcell2 : ∀ j u, (l2.map fun b => bv b)[j]? = some u → w.cell? ((⟨b2, off2, none⟩ : Addr).add j) = some u := by
    intro j u hj
    have hb2' : w.heap[b2]? = some (.cells cs2 T2 fr2) := hb2
    rw [add0]
    simp [World.cell?, hb2', hcs2 j u hj]
  have hone : ∀ u ∈ (l2.map fun b => bv b), u.oneCell' = true := by
    intro u hu
    obtain ⟨b, _, rfl⟩ := List.mem_map.1 hu
    rfl
  by_cases hroom : l.length + l2.length ≤ c
  · have hr2 := run_append_room_cells (P := P) w t ty e i u.pf hi gg 0 l.length c ⟨b2, off2, none⟩ l2.length c2 (l2.map fun b => bv b) (by rw [List.length_map, hsz]; omega) hcell2 hone hroom
      (by
        intro j hj
        rw [List.length_map] at hj
        rw [hsz]
        simp [World.cell?, hgg]
        omega)
      (by
        intro j hj
        rw [List.length_map] at hj
        rw [hsz]
        simp [World.frozen?, hgg])
    rw [hr2] at hr
    injection hr with e1 e2
    injection e1 with e1 _ e3
    subst e1 e2 e3
    refine ⟨_, _, _, hr2, ?_⟩
    have h1 := hS'.own_rd.dup
    have h2 := (h1.rd_cut (lo := 0) (hi := l.length) (mx := c) (Nat.zero_le _) (Nat.le_add_right _ _) hnc)
    rw [if_neg (by omega), List.take_left, List.drop_zero, Nat.sub_zero, Nat.sub_zero] at h2
    exact h2.weak fun _ _ h => h.swap
  · obtain ⟨v3, w3, hr3, hown, hg⟩ := run_append_arg_grows (P := P) w t ty e i z 1 by_ u.pf hi hz hsz hby hzs (by decide) ⟨gg, 0, none⟩ l.length c (l.map fun b => bv b) (by simp) hcell ⟨b2, off2, none⟩ l2.length c2 (l2.map fun b => bv b) (by simp) hcell2 (by omega) h63 hb
    rw [hr3] at hr
    injection hr with e1 e2
    subst e1 e2
    refine ⟨_, _, _, hr3, ?_⟩
    have s1 := (S.own_rd).own_nil e eB
    obtain ⟨css3, _, _, _, k⟩ := s1.own_turn
    have hlen : (l ++ l2).length = l.length + l2.length := List.length_append
    refine St.own_rd (k (l' := l ++ l2) (css' := (l ++ l2).map fun b => [bv b]) (fun m h _ _ => all2B' m _) ?_ ?_ ?_)
    · rw [flatB, hlen, List.map_append]
      exact ⟨hown.1, hown.2.imp id fun ⟨g, cap, cur, a, _, rest⟩ => ⟨g, cap, cur, a, Nat.zero_le _, rest⟩⟩
    · exact hg
    · right
      have hg4 := run_append_grow (P := P) (w := w) t ty e i z u.pf hi hz ⟨gg, 0, none⟩ l.length c (l.map fun b => bv b) (by rw [hsz]; simp) hcell ⟨b2, off2, none⟩ l2.length c2 (l2.map fun b => bv b) (by rw [hsz]; simp) hcell2 (by omega) (by unfold maxLen at h63; omega) (growslice_fits (by omega) (by rw [hby]; exact hb))
      rw [hg4] at hr3
      injection hr3 with e1 _
      injection e1 with e1 _ _
      rw [← e1]
      rfl
theorem dy_appendK {t ty e : TypeId} {zv : Value} {by_ : Nat} [u : UL P t (.slice e)] [ti : TI P e zv 1 by_] {x y : Operand} {a : Act} {d : Option Tmp} {pos : String} {aft : Array Edge} {gd : Option (Nat × Bool)} {A : Option Addr} {n c : Nat} {v' : Value} {l l2 : List UInt8} (i : Nat) {Le : List HP} {N : Nat}
    (hx : a.eval x = .slice A n c := by exact Ev.pf) (hy : a.eval y = v' := by exact Ev.pf) (hm : L[i]? = some (own e eB (.slice A n c) l) := by rfl) (hn : n = l.length := by rfl) (he : L.eraseIdx i = Le := by exact EAt.pf) (hsrc : Src Le eB v' l2 := by exact Sc.pf) (hzs : zv.cells.size = 1 := by rfl) (h0 : 0 < l.length := by omega) (h02 : 0 < l2.length := by decide) (hN : l.length + l2.length = N := by (try simp only [List.length_append, List.length_cons, List.length_nil, Nat.zero_add, Nat.add_zero, Nat.reduceAdd]) <;> exact rfl) (hb : N * by_ ≤ 140737488355328 := by omega) (h63 : N ≤ 9223372036854775807 := by omega) :
    DY P W0 L ⟨d, .call { callee := .builtin .append, args := #[x, y], argTypes := #[t, t] }, ty, pos, aft, gd⟩ a fun a' L' => ∃ A2 c2, a.put d (.slice A2 N c2) = a' ∧ L' = rd eB (.slice A2 N c2) (l ++ l2) :: rd eB (.slice A n c) l :: Le :=
  dy_val fun w s => by
    subst he hn hN
    obtain ⟨A2, c2, w', hr, hS'⟩ := append_keepB (P := P) (t := t) (ty := ty) (e := e) hzs (s.at_ hm) hsrc h0 h02 hb (by unfold maxLen; omega)
    refine ⟨_, w', _, ?_, ⟨A2, c2, rfl, rfl⟩, hS'⟩
    unfold execOp
    simp only [resolve, invoke, builtin, Sem.run_bind, Sem.run_pure, Result.andThen_ok, List.map_toArray, List.map_cons, List.map_nil, hx, hy, hr]
end
end Go.Proofs.Ytikdelkcpapgdaa
