/-
  Append to bytes that are read again. No program.
-/
import Derived.ArgAppend
import Derived.Test.YtbjaecofccpahaaMT
import Derived.Test.YtbjaecofccpahaaMM
import Derived.Test.YtbjaecofccpahaaMN
namespace Go.Proofs.Ytbjaecofccpahaa
open Go Go.RowKit
set_option linter.unusedVariables false
set_option linter.unusedSimpArgs false
theorem all2B {m : Hp} : ∀ {l : List UInt8} {css : List (List Value)}, All2 (eB.r m) l css → css = l.map fun b => [bv b]
  | [], [], _ => rfl
  | b :: l, c :: css, ⟨h, t⟩ => by
    rw [List.map_cons, ← all2B t]
    have : c = [bv b] := h
    rw [this]
  | [], _ :: _, h => h.elim
  | _ :: _, [], h => h.elim
theorem all2B' (m : Hp) : ∀ (l : List UInt8), All2 (eB.r m) l (l.map fun b => [bv b])
  | [] => trivial
  | b :: l => ⟨rfl, all2B' m l⟩
theorem flatB : ∀ (l : List UInt8), (l.map fun b => [bv b]).flatten = l.map fun b => bv b
  | [] => rfl
  | b :: l => by rw [List.map_cons, List.flatten_cons, flatB l]; rfl
section
variable {P : Program} {W0 w : World} {L : List HP}
theorem append_keepB {t ty e : TypeId} {z : Value} {by_ : Nat} [u : UL P t (.slice e)] [ti : TI P e z 1 by_] (hzs : z.cells.size = 1) {A : Option Addr} {c : Nat} {l l2 : List UInt8} {y : Value}
    (S : St W0 w (own e eB (.slice A l.length c) l :: L)) (hy : Src L eB y l2) (h0 : 0 < l.length) (h02 : 0 < l2.length) (hb : (l.length + l2.length) * by_ ≤ 140737488355328) (h63 : l.length + l2.length ≤ maxLen) :
    ∃ A' c' w', (Builtin.append_ #[t, t] ty #[.slice A l.length c, y]).run P w = .ok (.slice A' (l.length + l2.length) c') w' ∧ St W0 w' (rd eB (.slice A' (l.length + l2.length) c') (l ++ l2) :: rd eB (.slice A l.length c) l :: L) := by
  obtain ⟨i, hi, hz, hsz, hby⟩ := ti.pf
  obtain ⟨v', w', hr, hS'⟩ := append_run (P := P) (t := t) (ty := ty) (e := e) hzs (by decide) rfl S hy hb h63
  obtain ⟨A', c', rfl, _⟩ := (hS'.rdo (.head _)).form
  rw [List.length_append] at hr hS'
  obtain ⟨m, x, b, hA, hL, hm, hx, hbw, d, g⟩ := S.lay
  obtain ⟨css, hall, hrow, hblk⟩ := own_ownsRow hx hA
  have hcss := all2B hall
  subst hcss
  rw [flatB] at hrow
  obtain ⟨A2, c2, css2, rfl, ha2, hsrc⟩ := hy.get hL hm hbw
  have hcss2 := all2B ha2
  subst hcss2
  rw [flatB] at hsrc
  obtain ⟨b2, off2, cs2, T2, fr2, rfl, hb2, hcs2⟩ : ∃ b off cs T fr, A2 = some ⟨b, off, none⟩ ∧ Hp.of w b = some (.cells cs T fr) ∧ ∀ j u, (l2.map fun b => bv b)[j]? = some u → cs[off + j]? = some u := by
    rcases hsrc with h | h
    · subst h; simp at h02
    · exact h
  obtain ⟨gg, cap, cur, hv, _, hgg, hnc, hcm, hcsz, hct⟩ : ∃ g cap cur, Value.slice A l.length c = .slice (some ⟨g, 0, none⟩) l.length cap ∧ 0 ≤ g ∧ w.heap[g]? = some (.cells cur e (0, 0)) ∧ l.length ≤ cap ∧ cap ≤ maxLen ∧ cur.size = cap * 1 ∧ cur.toList.take (l.length * 1) = (l.map fun b => bv b) := by
    rcases hrow.2 with ⟨h, hn⟩ | h
    · omega
    · exact h
  injection hv with e1 e2 e3
  subst e1 e3
  have hcell : ∀ j u, (l.map fun b => bv b)[j]? = some u → w.cell? ((⟨gg, 0, none⟩ : Addr).add j) = some u := by
    intro j u hj
    rw [← hct] at hj
    rw [List.getElem?_take] at hj
    split at hj
    · rw [add0]
      simpa [World.cell?, hgg] using hj
    · cases hj
  have hcell2 : ∀ j u, (l2.map fun b => bv b)[j]? = some u → w.cell? ((⟨b2, off2, none⟩ : Addr).add j) = some u := by
    intro j u hj
    have hb2' : w.heap[b2]? = some (.cells cs2 T2 fr2) := hb2
    rw [add0]
    simp [World.cell?, hb2', hcs2 j u hj]
  have hone : ∀ u ∈ (l2.map fun b => bv b), u.oneCell' = true := by
    intro u hu
    obtain ⟨b, _, rfl⟩ := List.mem_map.1 hu
    rfl
  by_cases hroom : l.length + l2.length ≤ c
  · have hr2 := run_append_room_cells (P := P) w t ty e i u.pf hi gg 0 l.length c ⟨b2, off2, none⟩ l2.length c2 (l2.map fun b => bv b) (by rw [List.length_map, hsz]; omega) hcell2 hone hroom
      (by
        intro j hj
        rw [List.length_map] at hj
        rw [hsz]
        simp [World.cell?, hgg]
        omega)
      (by
        intro j hj
        rw [List.length_map] at hj
        rw [hsz]
        simp [World.frozen?, hgg])
    rw [hr2] at hr
    injection hr with e1 e2
    injection e1 with e1 _ e3
    subst e1 e2 e3
    refine ⟨_, _, _, hr2, ?_⟩
    have h1 := hS'.own_rd.dup
    have h2 := (h1.rd_cut (lo := 0) (hi := l.length) (mx := c) (Nat.zero_le _) (Nat.le_add_right _ _) hnc)
    rw [if_neg (by omega), List.take_left, List.drop_zero, Nat.sub_zero, Nat.sub_zero] at h2
    exact h2.weak fun _ _ h => h.swap
  · obtain ⟨v3, w3, hr3, hown, hg⟩ := run_append_arg_grows (P := P) w t ty e i z 1 by_ u.pf hi hz hsz hby hzs (by decide) ⟨gg, 0, none⟩ l.length c (l.map fun b => bv b) (by simp) hcell ⟨b2, off2, none⟩ l2.length c2 (l2.map fun b => bv b) (by simp) hcell2 (by omega) h63 hb
    rw [hr3] at hr
    injection hr with e1 e2
    subst e1 e2
    refine ⟨_, _, _, hr3, ?_⟩
    have s1 := (S.own_rd).own_nil e eB
    obtain ⟨css3, _, _, _, k⟩ := s1.own_turn
    have hlen : (l ++ l2).length = l.length + l2.length := List.length_append
    refine St.own_rd (k (l' := l ++ l2) (css' := (l ++ l2).map fun b => [bv b]) (fun m h _ _ => all2B' m _) ?_ ?_ ?_)
    · rw [flatB, hlen, List.map_append]
      exact ⟨hown.1, hown.2.imp id fun ⟨g, cap, cur, a, _, rest⟩ => ⟨g, cap, cur, a, Nat.zero_le _, rest⟩⟩
    · exact hg
    · right
      have hg4 := run_append_grow (P := P) (w := w) t ty e i z u.pf hi hz ⟨gg, 0, none⟩ l.length c (l.map fun b => bv b) (by rw [hsz]; simp) hcell ⟨b2, off2, none⟩ l2.length c2 (l2.map fun b => bv b) (by rw [hsz]; simp) hcell2 (by omega) (by unfold maxLen at h63; omega) (growslice_fits (by omega) (by rw [hby]; exact hb))
      rw [hg4] at hr3
      injection hr3 with e1 _
      injection e1 with e1 _ _
      rw [← e1]
      rfl
theorem dy_appendK {t ty e : TypeId} {zv : Value} {by_ : Nat} [u : UL P t (.slice e)] [ti : TI P e zv 1 by_] {x y : Operand} {a : Act} {d : Option Tmp} {pos : String} {aft : Array Edge} {gd : Option (Nat × Bool)} {A : Option Addr} {n c : Nat} {v' : Value} {l l2 : List UInt8} (i : Nat) {Le : List HP} {N : Nat}
    (hx : a.eval x = .slice A n c := by exact Ev.pf) (hy : a.eval y = v' := by exact Ev.pf) (hm : L[i]? = some (own e eB (.slice A n c) l) := by rfl) (hn : n = l.length := by rfl) (he : L.eraseIdx i = Le := by exact EAt.pf) (hsrc : Src Le eB v' l2 := by exact Sc.pf) (hzs : zv.cells.size = 1 := by rfl) (h0 : 0 < l.length := by omega) (h02 : 0 < l2.length := by decide) (hN : l.length + l2.length = N := by (try simp only [List.length_append, List.length_cons, List.length_nil, Nat.zero_add, Nat.add_zero, Nat.reduceAdd]) <;> exact rfl) (hb : N * by_ ≤ 140737488355328 := by omega) (h63 : N ≤ 9223372036854775807 := by omega) :
    DY P W0 L ⟨d, .call { callee := .builtin .append, args := #[x, y], argTypes := #[t, t] }, ty, pos, aft, gd⟩ a fun a' L' => ∃ A2 c2, a.put d (.slice A2 N c2) = a' ∧ L' = rd eB (.slice A2 N c2) (l ++ l2) :: rd eB (.slice A n c) l :: Le :=
  dy_val fun w s => by
    subst he hn hN
    obtain ⟨A2, c2, w', hr, hS'⟩ := append_keepB (P := P) (t := t) (ty := ty) (e := e) hzs (s.at_ hm) hsrc h0 h02 hb (by unfold maxLen; omega)
    refine ⟨_, w', _, ?_, ⟨A2, c2, rfl, rfl⟩, hS'⟩
    unfold execOp
    simp only [resolve, invoke, builtin, Sem.run_bind, Sem.run_pure, Result.andThen_ok, List.map_toArray, List.map_cons, List.map_nil, hx, hy, hr]
end
end Go.Proofs.Ytbjaecofccpahaa
namespace Go.Proofs.Ytbjaecofccpahaa
open Go Go.RowKit
set_option linter.unusedVariables false
set_option linter.unusedSimpArgs false
set_option maxRecDepth 20000
set_option synthInstance.maxSize 100000
set_option synthInstance.maxHeartbeats 400000
theorem core07 : coreF 0 [7] = [0, 1, 7] := by
  unfold coreF
  decide +kernel
theorem frame07 : frameF 0 [7] = varint 3 ++ [0, 1, 7] ++ varint (bytesW lblF.data.toList [0, 1, 7]).toNat := by
  unfold frameF sumF
  rw [core07]
  rfl
theorem isF_short {i : Int} {b : List UInt8} (h : b.length ≤ 3) : isF i b = false := by
  rw [Bool.eq_false_iff]
  intro h2
  obtain ⟨t, ht⟩ := isF_iff.1 h2
  have h3 := frameF_min i (recF b)
  have h4 := congrArg List.length ht
  rw [List.length_append] at h4
  omega
theorem scanF_short {n : Nat} {i : Int} {b : List UInt8} (h : b.length ≤ 3) : scanF n i b = ([], 0) := by
  cases n with
  | zero => rfl
  | succ n => exact scanF_no (isF_short h)
theorem scan07 {f : List UInt8} (hf : frameF 0 [7] = f) (n : Nat) (hn : 1 ≤ n) : scanF n 0 (f ++ [3, 0, 1]) = ([[7]], f.length) := by
  have h := scanF_frames [[7]] n 0 [3, 0, 1] (by intro x hx; simp only [List.mem_cons, List.not_mem_nil, or_false] at hx; subst hx; decide) (by decide) (by decide) hn
  have e : framesF 0 [[7]] = f := by simp [framesF, hf]
  rw [e, scanF_short (b := [3, 0, 1]) (by decide)] at h
  simpa using h
section
variable {W0 : World} {L : List HP}
theorem lives_ct : CT Try.prog 22 #[] W0 L fun r L' => r = .bool true ∧ L' = L := by
  refine CT_enter Try.func22 rfl ?_; (simp only [Try.ntmps22, List.size_toArray, List.length_cons, List.length_nil, Nat.reduceAdd, Nat.reduceSub, Array.replicate_succ, Array.replicate_zero, List.push_toArray, List.append_toArray, List.nil_append, List.cons_append])
  repeat' (first | refine go ?_ | intro _ | (apply cG; first | refine cT ?_ | refine cF ?_ | refine cS (fun _ => ?_) fun _ => ?_) | (apply gW; refine sW ?_) | (apply gI; refine sI ?_) | (apply gE; refine sE ?_) | (apply gP; refine sP ?_) | (apply gC; refine sC ?_) | (apply gD; refine sD ?_) | fail)
  refine O_d (dy_lit1 (R := eB) (7 : UInt8) (hcs := by rfl) (hel := fun _ _ _ => by rfl)) ?_; rintro _ _ ⟨_, rfl, rfl⟩; refine O_n ?_
  repeat' (first | refine go ?_ | intro _ | (apply cG; first | refine cT ?_ | refine cF ?_ | refine cS (fun _ => ?_) fun _ => ?_) | (apply gW; refine sW ?_) | (apply gI; refine sI ?_) | (apply gE; refine sE ?_) | (apply gP; refine sP ?_) | (apply gC; refine sC ?_) | (apply gD; refine sD ?_) | fail)
  refine O_d (dy_call ArgsI.pf (by first | exact rfl | trivial | (intro a b; rfl)) (Frame_ct (i := 0) (x := [7]) Sc.pf (by decide) (by decide) (by decide))) ?_; rintro _ _ ⟨_, ⟨A1, c1, rfl, rfl⟩, rfl⟩; refine O_n ?_
  have hmin := frameF_min 0 [7]
  have hmax := frameF_len (i := 0) (x := [7]) (by decide) (by decide) (by decide)
  simp only [List.length_cons, List.length_nil] at hmin hmax
  have h07 := frame07
  obtain ⟨f, hf⟩ : ∃ f, frameF 0 [7] = f := ⟨_, rfl⟩
  have hscan := scan07 hf (f ++ [3, 0, 1]).length (by simp)
  rw [hf] at hmin hmax h07 ⊢
  repeat' (first | refine go ?_ | intro _ | (apply cG; first | refine cT ?_ | refine cF ?_ | refine cS (fun _ => ?_) fun _ => ?_) | (apply gW; refine sW ?_) | (apply gI; refine sI ?_) | (apply gE; refine sE ?_) | (apply gP; refine sP ?_) | (apply gC; refine sC ?_) | (apply gD; refine sD ?_) | fail)
  refine wr_newO ?_
  refine O_d (dy_litP (f := bv) (hf := fun _ => rfl) [0, 1, 7] (by rfl)) ?_; rintro _ _ ⟨_, rfl, rfl⟩; refine O_n ?_
  refine O_d (dy_call ArgsI.pf (by first | exact rfl | trivial | (intro a b; rfl)) (CT.pull (i := 1) (by rfl) (wRaw_ct (l := [0, 1, 7]) Sc.pf (by decide) (by decide)))) ?_; rintro _ _ ⟨_, rfl, rfl⟩; refine O_n ?_
  repeat' (first | refine go ?_ | intro _ | (apply cG; first | refine cT ?_ | refine cF ?_ | refine cS (fun _ => ?_) fun _ => ?_) | (apply gW; refine sW ?_) | (apply gI; refine sI ?_) | (apply gE; refine sE ?_) | (apply gP; refine sP ?_) | (apply gC; refine sC ?_) | (apply gD; refine sD ?_) | fail)
  refine O_d (dy_litP (f := bv) (hf := fun _ => rfl) [0, 1, 7] (by rfl)) ?_; rintro _ _ ⟨_, rfl, rfl⟩; refine O_n ?_
  refine O_d (dy_call ArgsI.pf (by first | exact rfl | trivial | (intro a b; rfl)) (hBytes_ct (s := lblF) (l := [0, 1, 7]) Sc.pf (by decide) (by decide) rfl)) ?_; rintro _ _ ⟨_, ⟨rfl, hLL⟩, rfl⟩; replace hLL := hLL.symm; subst hLL; refine O_n ?_
  obtain ⟨z, hz⟩ : ∃ z, bytesW lblF.data.toList [0, 1, 7] = z := ⟨_, rfl⟩
  rw [hz] at h07 ⊢
  have hzl := z.toNat_lt
  repeat' (first | refine go ?_ | intro _ | (apply cG; first | refine cT ?_ | refine cF ?_ | refine cS (fun _ => ?_) fun _ => ?_) | (apply gW; refine sW ?_) | (apply gI; refine sI ?_) | (apply gE; refine sE ?_) | (apply gP; refine sP ?_) | (apply gC; refine sC ?_) | (apply gD; refine sD ?_) | fail)
  refine O_d (dy_call ArgsI.pf (by first | exact rfl | trivial | (intro a b; rfl)) (CT.pull (i := 1) (by rfl) (wUint_ct (m := z.toNat) hzl (by decide +kernel)))) ?_; rintro _ _ ⟨_, rfl, rfl⟩; refine O_n ?_
  have hw : ([] : List UInt8) ++ varint ([0, 1, 7] : List UInt8).length ++ ([0, 1, 7] : List UInt8) ++ varint z.toNat = f := by rw [List.nil_append]; exact h07.symm
  rw [hw]
  repeat' (first | refine go ?_ | intro _ | (apply cG; first | refine cT ?_ | refine cF ?_ | refine cS (fun _ => ?_) fun _ => ?_) | (apply gW; refine sW ?_) | (apply gI; refine sI ?_) | (apply gE; refine sE ?_) | (apply gP; refine sP ?_) | (apply gC; refine sC ?_) | (apply gD; refine sD ?_) | fail)
  refine O_d (dy_litP (f := bv) (hf := fun _ => rfl) [3, 0, 1] (by rfl)) ?_; rintro _ _ ⟨_, rfl, rfl⟩; refine O_n ?_
  refine O_d (dy_appendK 4 (l := f) (l2 := [3, 0, 1]) (v' := _)) ?_; rintro _ _ ⟨A2, c2, rfl, rfl⟩; refine O_n ?_
  repeat' (first | refine go ?_ | intro _ | (apply cG; first | refine cT ?_ | refine cF ?_ | refine cS (fun _ => ?_) fun _ => ?_) | (apply gW; refine sW ?_) | (apply gI; refine sI ?_) | (apply gE; refine sE ?_) | (apply gP; refine sP ?_) | (apply gC; refine sC ?_) | (apply gD; refine sD ?_) | fail)
  have hlen : (f ++ [3, 0, 1]).length = f.length + 3 := by simp
  refine O_d (dy_call ArgsI.pf (by first | exact rfl | trivial | (intro a b; rfl)) (Scan_ct (b := f ++ [3, 0, 1]) (by rw [← hlen]; exact .head _) (by rw [hlen]; omega) hscan)) ?_; rintro _ _ ⟨_, ⟨A3, c3, rfl, rfl⟩, rfl⟩; refine O_n ?_
  repeat' (first | refine go ?_ | intro _ | (apply cG; first | refine cT ?_ | refine cF ?_ | refine cS (fun _ => ?_) fun _ => ?_) | (apply gW; refine sW ?_) | (apply gI; refine sI ?_) | (apply gE; refine sE ?_) | (apply gP; refine sP ?_) | (apply gC; refine sC ?_) | (apply gD; refine sD ?_) | fail)
  refine O_d (dy_call ArgsI.pf (by first | exact rfl | trivial | (intro a b; rfl)) (CT.pull (i := 4) (by rfl) (wDone_ct (bs := f) (by omega)))) ?_; rintro _ _ ⟨_, ⟨A4, c4, rfl, rfl⟩, rfl⟩; refine O_n ?_
  refine O_d (dy_call ArgsI.pf (by first | exact rfl | trivial | (intro a b; rfl)) (SameBytes_ct (la := f) (lb := f) Sc.pf Sc.pf (by omega) (by omega) (q := true) (decide_eq_true rfl))) ?_; rintro _ _ ⟨_, ⟨rfl, hLL⟩, rfl⟩; replace hLL := hLL.symm; subst hLL; refine O_n ?_
  repeat' (first | refine go ?_ | intro _ | (apply cG; first | refine cT ?_ | refine cF ?_ | refine cS (fun _ => ?_) fun _ => ?_) | (apply gW; refine sW ?_) | (apply gI; refine sI ?_) | (apply gE; refine sE ?_) | (apply gP; refine sP ?_) | (apply gC; refine sC ?_) | (apply gD; refine sD ?_) | fail)
  refine O_d (dy_lit1 (R := eB) (7 : UInt8) (hcs := by rfl) (hel := fun _ _ _ => by rfl)) ?_; rintro _ _ ⟨_, rfl, rfl⟩; refine O_n ?_
  refine O_frz 0 ?_
  rename_i b8 _ _ _ _ b7
  refine O_d (dy_litS (R := eSl eB) [[7]] [.slice (some ⟨b7, 0, none⟩) 1 1] (by rfl) (fun m h hs => ⟨⟨_, rfl, rd_mem hs (by repeat (first | exact .head _ | refine .tail _ ?_))⟩, trivial⟩)) ?_; rintro _ _ ⟨_, rfl, rfl⟩; refine O_n ?_
  refine O_frz 0 ?_
  refine O_frz 4 ?_
  have h7 : ∀ x ∈ ([[7]] : List (List UInt8)), x.length ≤ 10000000 := by decide
  refine O_d (dy_call ArgsI.pf (by first | exact rfl | trivial | (intro a b; rfl)) (SameLists_ct (la := [[7]]) (lb := [[7]]) (.tail _ (.tail _ (.tail _ (.tail _ (.head _))))) (.head _) (by decide) (by decide) h7 h7 (q := true) (decide_eq_true rfl))) ?_; rintro _ _ ⟨_, ⟨rfl, hLL⟩, rfl⟩; replace hLL := hLL.symm; subst hLL; refine O_n ?_
  repeat' (first | refine go ?_ | intro _ | (apply cG; first | refine cT ?_ | refine cF ?_ | refine cS (fun _ => ?_) fun _ => ?_) | (apply gW; refine sW ?_) | (apply gI; refine sI ?_) | (apply gE; refine sE ?_) | (apply gP; refine sP ?_) | (apply gC; refine sC ?_) | (apply gD; refine sD ?_) | fail)
  refine E_res1 (by rfl) (by rfl) ⟨rfl, rfl⟩ Sb
end
end Go.Proofs.Ytbjaecofccpahaa
namespace Go.Proofs.Ytbjaecofccpahaa
open Go Go.RowKit
set_option linter.unusedVariables false
set_option linter.unusedSimpArgs false
set_option maxRecDepth 20000
set_option synthInstance.maxSize 100000
set_option synthInstance.maxHeartbeats 400000
/-- a log, plain -/
structure LG where
  file : Int
  n : Int
  down : Bool
/-- Append of a record -/
def logF (g : LG) (d : DK) (b : List UInt8) (y : Value) : LG × DK × Int :=
  if g.down then (g, d, 21) else match appF d g.file (frameF g.n b) y with
    | (d1, e1) => if e1 = 0 then match syncF d1 with
        | (d2, e2) => (⟨g.file, if e2 = 0 then g.n + 1 else g.n, decide (e2 = 21)⟩, d2, e2)
      else (⟨g.file, g.n, decide (e1 = 21)⟩, d1, e1)
section
variable {W0 : World} {L : List HP}
theorem D_fr0 {P : Program} {S : List HP} {n : Nat} {l : List Oper} {Q : Exit → Act → World → Prop} {br : Bool} {pl : List (Nat × Nat)} {a : Act} {E : TypeId} {v : Value} {x : List UInt8} (i : Nat) {L' : List HP} (h : L[i]? = some (own E eB v x)) (hL : L.set i (rd eB v x) = L') (k : DL P W0 S n l Q br pl L' a) : DL P W0 S n l Q br pl L a := by
  subst hL
  exact ⟨fun w s => k.run w ((s.at_ h).own_rd.back h)⟩
theorem clo_cd {be bl q : Nat} {e n file : Int} {x0 : Value} {down : Bool} {T1 T2 : TypeId} (hn1 : -4611686018427387904 ≤ n) (hn2 : n ≤ 4611686018427387904) :
    CD Try.prog 42 #[.pointer (some ⟨be, 0, none⟩), .pointer (some ⟨bl, 0, none⟩)] W0 (cel be [.int .i64 e] T1 :: cel bl [.pointer (some ⟨q, 0, none⟩)] T2 :: cel q [x0, .int .i64 file, .int .i64 n, .bool down] 70 :: L)
      fun _ L1 => L1 = cel be [.int .i64 e] T1 :: cel bl [.pointer (some ⟨q, 0, none⟩)] T2 :: cel q [x0, .int .i64 file, .int .i64 (if e = 0 then n + 1 else n), .bool (decide (e = 21))] 70 :: L := by
  refine ⟨_, _, Try.func42, rfl, ?_⟩; (simp only [Try.ntmps42, List.size_toArray, List.length_cons, List.length_nil, Nat.reduceAdd, Nat.reduceSub, Array.replicate_succ, Array.replicate_zero, List.push_toArray, List.append_toArray, List.nil_append, List.cons_append])
  by_cases h0 : e = 0
  · subst h0
    repeat' (first | refine go ?_ | intro _ | (apply cG; first | refine cT ?_ | refine cF ?_ | refine cS (fun _ => ?_) fun _ => ?_) | (apply gW; refine sW ?_) | (apply gI; refine sI ?_) | (apply gE; refine sE ?_) | (apply gP; refine sP ?_) | (apply gC; refine sC ?_) | (apply gD; refine sD ?_) | fail)
    refine E_end0 (by first | exact .inl rfl | exact .inr rfl) (by rfl) (by rfl) rfl
  · rw [if_neg h0]
    by_cases h1 : e = 21
    · subst h1
      repeat' (first | refine go ?_ | intro _ | (apply cG; first | refine cT ?_ | refine cF ?_ | refine cS (fun _ => ?_) fun _ => ?_) | (apply gW; refine sW ?_) | (apply gI; refine sI ?_) | (apply gE; refine sE ?_) | (apply gP; refine sP ?_) | (apply gC; refine sC ?_) | (apply gD; refine sD ?_) | fail)
      refine E_end0 (by first | exact .inl rfl | exact .inr rfl) (by rfl) (by rfl) rfl
    · rw [decide_eq_false h1]
      repeat' (first | refine go ?_ | intro _ | (apply cG; first | refine cT ?_ | refine cF ?_ | refine cS (fun _ => ?_) fun _ => ?_) | (apply gW; refine sW ?_) | (apply gI; refine sI ?_) | (apply gE; refine sE ?_) | (apply gP; refine sP ?_) | (apply gC; refine sC ?_) | (apply gD; refine sD ?_) | fail)
      refine E_end0 (by first | exact .inl rfl | exact .inr rfl) (by rfl) (by rfl) rfl
theorem LApp_ct {q p : Nat} {file n : Int} {down : Bool} {d : DK} {v : Value} {b : List UInt8} (hv : Src L eB v b) (hb : b.length ≤ 65536) (hn1 : 0 ≤ n) (hn2' : n ≤ 1000000000) (hd : DOk d) (h1 : -1000000000 ≤ d.left) (h2 : d.left ≤ 9223372036854775807) :
    CT Try.prog 15 #[.pointer (some ⟨q, 0, none⟩), v] W0 (cel q [.pointer (some ⟨p, 0, none⟩), .int .i64 file, .int .i64 n, .bool down] 70 :: dsk p d :: L) fun r L' => ∃ A c, r = .int .i64 (logF ⟨file, n, down⟩ d b (.slice A ((fileF file d.files).b ++ frameF n b).length c)).2.2 ∧
      L' = cel q [.pointer (some ⟨p, 0, none⟩), .int .i64 (logF ⟨file, n, down⟩ d b (.slice A ((fileF file d.files).b ++ frameF n b).length c)).1.file, .int .i64 (logF ⟨file, n, down⟩ d b (.slice A ((fileF file d.files).b ++ frameF n b).length c)).1.n, .bool (logF ⟨file, n, down⟩ d b (.slice A ((fileF file d.files).b ++ frameF n b).length c)).1.down] 70 :: dsk p (logF ⟨file, n, down⟩ d b (.slice A ((fileF file d.files).b ++ frameF n b).length c)).2.1 :: L := by
  have hv : Sc L v eB b := ⟨hv⟩
  obtain ⟨files, room, off, armed, left⟩ := d
  dsimp only at h1 h2
  dsimp only
  have hn2 : n ≤ 4611686018427387904 := by omega
  have hn0 : -4611686018427387904 ≤ n := by omega
  refine CT_fact (fun w s => ((Sc.pf : Src _ eB v b).sl s).form) ?_
  rintro ⟨A0, c0, rfl, hc0⟩
  have hfl := frameF_len (i := n) (x := b) (by omega) (by omega) (by omega)
  have hfu := file_le_used (n := file) files
  have hu : (usedL files : Int) ≤ room := hd.u
  have hr0 : 0 ≤ room := hd.r0
  have hr1 : room ≤ 16777216 := hd.r1
  refine CT_enterD Try.func15 rfl ?_; (simp only [Try.ntmps15, List.size_toArray, List.length_cons, List.length_nil, Nat.reduceAdd, Nat.reduceSub, Array.replicate_succ, Array.replicate_zero, List.push_toArray, List.append_toArray, List.nil_append, List.cons_append])
  repeat' (first | refine go ?_ | intro _ | (apply cG; first | refine cT ?_ | refine cF ?_ | refine cS (fun _ => ?_) fun _ => ?_) | (apply gW; refine sW ?_) | (apply gI; refine sI ?_) | (apply gE; refine sE ?_) | (apply gP; refine sP ?_) | (apply gC; refine sC ?_) | (apply gD; refine sD ?_) | fail)
  rename_i bl be
  refine O_d (dy_defer Ev.pf) ?_; rintro _ _ ⟨rfl, rfl⟩; refine O_n ?_
  cases down
  rotate_left
  · repeat' (first | refine go ?_ | intro _ | (apply cG; first | refine cT ?_ | refine cF ?_ | refine cS (fun _ => ?_) fun _ => ?_) | (apply gW; refine sW ?_) | (apply gI; refine sI ?_) | (apply gE; refine sE ?_) | (apply gP; refine sP ?_) | (apply gC; refine sC ?_) | (apply gD; refine sD ?_) | fail)
    refine E_sub (S := cel be [.int .i64 21] _ :: cel bl [.pointer (some ⟨q, 0, none⟩)] _ :: cel q [.pointer (some ⟨p, 0, none⟩), .int .i64 file, .int .i64 n, .bool true] 70 :: dsk p ⟨files, room, off, armed, left⟩ :: L) Sb ?_
    refine E_cell1 rfl rfl rfl (by first | exact rfl | trivial | (intro a b; rfl)) Ev.pf (clo_cd hn0 hn2) ?_
    rintro _ _ rfl
    exact ⟨.int .i64 21, _, _, _, .head _, rfl, ⟨none, 0, by rw [(show logF ⟨file, n, true⟩ ⟨files, room, off, armed, left⟩ b (.slice none ((fileF file files).b ++ frameF n b).length 0) = (⟨file, if (21 : Int) = 0 then n + 1 else n, decide ((21 : Int) = 21)⟩, ⟨files, room, off, armed, left⟩, 21) from rfl)], by rw [(show logF ⟨file, n, true⟩ ⟨files, room, off, armed, left⟩ b (.slice none ((fileF file files).b ++ frameF n b).length 0) = (⟨file, if (21 : Int) = 0 then n + 1 else n, decide ((21 : Int) = 21)⟩, ⟨files, room, off, armed, left⟩, 21) from rfl)]⟩, Sb⟩
  repeat' (first | refine go ?_ | intro _ | (apply cG; first | refine cT ?_ | refine cF ?_ | refine cS (fun _ => ?_) fun _ => ?_) | (apply gW; refine sW ?_) | (apply gI; refine sI ?_) | (apply gE; refine sE ?_) | (apply gP; refine sP ?_) | (apply gC; refine sC ?_) | (apply gD; refine sD ?_) | fail)
  refine C_draw (n := 99) [cel bl [.pointer (some ⟨q, 0, none⟩)] _, cel q [.pointer (some ⟨p, 0, none⟩), .int .i64 file, .int .i64 n, .bool false] 70] [(0, 1), (1, 1), (2, 1), (3, 1), (4, 1), (5, 1), (6, 1), (7, 1), (8, 1), (9, 1), (10, 1), (11, 1), (12, 1), (13, 0), (14, 0), (15, 1)] (by kernel_rfl) (by kernel_rfl) Sb ?_
  repeat' (first | refine go ?_ | intro _ | (apply cG; first | refine cT ?_ | refine cF ?_ | refine cS (fun _ => ?_) fun _ => ?_) | (apply gW; refine sW ?_) | (apply gI; refine sI ?_) | (apply gE; refine sE ?_) | (apply gP; refine sP ?_) | (apply gC; refine sC ?_) | (apply gD; refine sD ?_) | fail)
  refine D_op rfl ?_; refine X_d (dy_call ArgsI.pf (by first | exact rfl | trivial | (intro a b; rfl)) (Frame_ct (i := n) (x := b) Sc.pf (by omega) (by omega) (by omega))) ?_; rintro _ _ ⟨_, ⟨A1, c1, rfl, rfl⟩, rfl⟩; refine ⟨(by first | exact .inl rfl | exact .inr Sb), D_n ?_⟩
  refine D_fr0 0 rfl SAt.pf ?_
  repeat' (first | refine go ?_ | intro _ | (apply cG; first | refine cT ?_ | refine cF ?_ | refine cS (fun _ => ?_) fun _ => ?_) | (apply gW; refine sW ?_) | (apply gI; refine sI ?_) | (apply gE; refine sE ?_) | (apply gP; refine sP ?_) | (apply gC; refine sC ?_) | (apply gD; refine sD ?_) | fail)
  refine D_op rfl ?_; refine X_d (dy_call ArgsI.pf (by first | exact rfl | trivial | (intro a b; rfl)) (CT.pull (i := 4) (by rfl) (dAppend_ct (b := frameF n b) (.inl (.head _)) (by omega) (by omega) hr0 hr1 (by omega) (by omega) h2))) ?_; rintro _ _ ⟨_, ⟨A2, c2, rfl, rfl⟩, rfl⟩; refine ⟨(by first | exact .inl rfl | exact .inr Sb), D_n ?_⟩
  obtain ⟨d1, e1, hap⟩ : ∃ d1 e1, appF ⟨files, room, off, armed, left⟩ file (frameF n b) (.slice A2 ((fileF file files).b ++ frameF n b).length c2) = (d1, e1) := ⟨_, _, rfl⟩
  rw [hap]
  have hlog : ∀ g d2 e2, (if e1 = 0 then (match syncF d1 with | (d2, e2) => ((⟨file, if e2 = 0 then n + 1 else n, decide (e2 = 21)⟩ : LG), d2, e2)) else (⟨file, n, decide (e1 = 21)⟩, d1, e1)) = (g, d2, e2) → logF ⟨file, n, false⟩ ⟨files, room, off, armed, left⟩ b (.slice A2 ((fileF file files).b ++ frameF n b).length c2) = (g, d2, e2) := by
    intro g d2 e2 h
    unfold logF
    rw [if_neg (by simp)]
    dsimp only
    rw [hap]
    exact h
  have hok := hd.app (n := file) (b := frameF n b) (y := .slice A2 ((fileF file files).b ++ frameF n b).length c2)
  have hle := appF_left ⟨files, room, off, armed, left⟩ file (frameF n b) (.slice A2 ((fileF file files).b ++ frameF n b).length c2)
  rw [hap] at hok hle
  dsimp only at hok hle ⊢
  by_cases h0 : e1 = 0
  rotate_left
  · have hl := hlog ⟨file, if e1 = 0 then n + 1 else n, decide (e1 = 21)⟩ d1 e1 (by rw [if_neg h0, if_neg h0])
    repeat' (first | refine go ?_ | intro _ | (apply cG; first | refine cT ?_ | refine cF ?_ | refine cS (fun _ => ?_) fun _ => ?_) | (apply gW; refine sW ?_) | (apply gI; refine sI ?_) | (apply gE; refine sE ?_) | (apply gP; refine sP ?_) | (apply gC; refine sC ?_) | (apply gD; refine sD ?_) | fail)
    refine E_sub (S := cel be [.int .i64 e1] _ :: cel bl [.pointer (some ⟨q, 0, none⟩)] _ :: cel q [.pointer (some ⟨p, 0, none⟩), .int .i64 file, .int .i64 n, .bool false] 70 :: dsk p d1 :: L) Sb ?_
    refine E_cell1 rfl rfl rfl (by first | exact rfl | trivial | (intro a b; rfl)) Ev.pf (clo_cd hn0 hn2) ?_
    rintro _ _ rfl
    exact ⟨.int .i64 e1, _, _, _, .head _, rfl, ⟨A2, c2, by rw [hl], by rw [hl]⟩, Sb⟩
  subst h0
  obtain ⟨f1, r1, o1, a1, l1⟩ := d1
  dsimp only at hle
  have hu1 : (usedL f1 : Int) ≤ r1 := hok.u
  have hr2 : r1 ≤ 16777216 := hok.r1
  repeat' (first | refine go ?_ | intro _ | (apply cG; first | refine cT ?_ | refine cF ?_ | refine cS (fun _ => ?_) fun _ => ?_) | (apply gW; refine sW ?_) | (apply gI; refine sI ?_) | (apply gE; refine sE ?_) | (apply gP; refine sP ?_) | (apply gC; refine sC ?_) | (apply gD; refine sD ?_) | fail)
  refine O_d (dy_call ArgsI.pf (by first | exact rfl | trivial | (intro a b; rfl)) (CT.pull (i := 0) (by rfl) (dSync_ct (files := f1) (room := r1) (off := o1) (armed := a1) (left := l1) hok.k (by omega) (by omega) (by omega)))) ?_; rintro _ _ ⟨_, ⟨rfl, rfl⟩, rfl⟩; refine O_n ?_
  obtain ⟨d2, e2, hsy⟩ : ∃ d2 e2, syncF ⟨f1, r1, o1, a1, l1⟩ = (d2, e2) := ⟨_, _, rfl⟩
  rw [hsy]
  have hl := hlog ⟨file, if e2 = 0 then n + 1 else n, decide (e2 = 21)⟩ d2 e2 (by rw [if_pos rfl, hsy])
  dsimp only
  repeat' (first | refine go ?_ | intro _ | (apply cG; first | refine cT ?_ | refine cF ?_ | refine cS (fun _ => ?_) fun _ => ?_) | (apply gW; refine sW ?_) | (apply gI; refine sI ?_) | (apply gE; refine sE ?_) | (apply gP; refine sP ?_) | (apply gC; refine sC ?_) | (apply gD; refine sD ?_) | fail)
  refine E_sub (S := cel be [.int .i64 e2] _ :: cel bl [.pointer (some ⟨q, 0, none⟩)] _ :: cel q [.pointer (some ⟨p, 0, none⟩), .int .i64 file, .int .i64 n, .bool false] 70 :: dsk p d2 :: L) Sb ?_
  refine E_cell1 rfl rfl rfl (by first | exact rfl | trivial | (intro a b; rfl)) Ev.pf (clo_cd hn0 hn2) ?_
  rintro _ _ rfl
  exact ⟨.int .i64 e2, _, _, _, .head _, rfl, ⟨A2, c2, by rw [hl], by rw [hl]⟩, Sb⟩
/-- Open of a file that is there, with the power on; N: the length of what was scanned; y: where the file's bytes lie then if it was cut -/
def openF (d : DK) (file : Int) (N : Nat) (y : Value) : DK × Int :=
  match (if N < (fileF file d.files).b.length then truncF d file N y else (d, 0)) with
  | (d1, e1) => if e1 = 0 then syncF d1 else (d1, e1)
theorem Open_nil {file : Int} : CT Try.prog 11 #[.pointer none, .int .i64 file] W0 L fun r L' => r = .tuple #[.pointer none, .slice none 0 0, .int .i64 1] ∧ L' = L := by
  refine CT_enter Try.func11 rfl ?_; (simp only [Try.ntmps11, List.size_toArray, List.length_cons, List.length_nil, Nat.reduceAdd, Nat.reduceSub, Array.replicate_succ, Array.replicate_zero, List.push_toArray, List.append_toArray, List.nil_append, List.cons_append])
  repeat' (first | refine go ?_ | intro _ | (apply cG; first | refine cT ?_ | refine cF ?_ | refine cS (fun _ => ?_) fun _ => ?_) | (apply gW; refine sW ?_) | (apply gI; refine sI ?_) | (apply gE; refine sE ?_) | (apply gP; refine sP ?_) | (apply gC; refine sC ?_) | (apply gD; refine sD ?_) | fail)
  refine E_res3 (by rfl) (by rfl) ⟨rfl, rfl⟩ Sb
theorem Open_no {p : Nat} {files : List (Int × DF)} {room left : Int} {off armed : Bool} {file e : Int} (he : (¬ (0 ≤ file ∧ file < 64) ∧ e = 1) ∨ ((0 ≤ file ∧ file < 64) ∧ off = true ∧ e = 21)) :
    CT Try.prog 11 #[.pointer (some ⟨p, 0, none⟩), .int .i64 file] W0 (dsk p ⟨files, room, off, armed, left⟩ :: L) fun r L' => r = .tuple #[.pointer none, .slice none 0 0, .int .i64 e] ∧ L' = dsk p ⟨files, room, off, armed, left⟩ :: L := by
  have h0 : e = 1 ∨ e = 21 := by rcases he with ⟨_, h⟩ | ⟨_, _, h⟩ <;> omega
  refine CT_enter Try.func11 rfl ?_; (simp only [Try.ntmps11, List.size_toArray, List.length_cons, List.length_nil, Nat.reduceAdd, Nat.reduceSub, Array.replicate_succ, Array.replicate_zero, List.push_toArray, List.append_toArray, List.nil_append, List.cons_append])
  repeat' (first | refine go ?_ | intro _ | (apply cG; first | refine cT ?_ | refine cF ?_ | refine cS (fun _ => ?_) fun _ => ?_) | (apply gW; refine sW ?_) | (apply gI; refine sI ?_) | (apply gE; refine sE ?_) | (apply gP; refine sP ?_) | (apply gC; refine sC ?_) | (apply gD; refine sD ?_) | fail)
  refine O_d (dy_call ArgsI.pf (by first | exact rfl | trivial | (intro a b; rfl)) (CT.pull (i := 0) (by rfl) (dRead_no he))) ?_; rintro _ _ ⟨_, ⟨rfl, rfl⟩, rfl⟩; refine O_n ?_
  repeat' (first | refine go ?_ | intro _ | (apply cG; first | refine cT ?_ | refine cF ?_ | refine cS (fun _ => ?_) fun _ => ?_) | (apply gW; refine sW ?_) | (apply gI; refine sI ?_) | (apply gE; refine sE ?_) | (apply gP; refine sP ?_) | (apply gC; refine sC ?_) | (apply gD; refine sD ?_) | fail)
  refine E_res3 (by rfl) (by rfl) ⟨rfl, rfl⟩ Sb
theorem Open_ct {p : Nat} {d : DK} {file : Int} {xs : List (List UInt8)} {N : Nat} (hd : DOk d) (ho : d.off = false) (hf : 0 ≤ file ∧ file < 64) (hB : (fileF file d.files).b.length ≤ 1000000) (hsc : scanF (fileF file d.files).b.length 0 (fileF file d.files).b = (xs, N)) (hN : N ≤ (fileF file d.files).b.length) (hxs : xs.length ≤ 1000000) (h1 : -1000000000 ≤ d.left) (h2 : d.left ≤ 9223372036854775807) :
    CT Try.prog 11 #[.pointer (some ⟨p, 0, none⟩), .int .i64 file] W0 (dsk p d :: L) fun r L' => ∃ A c, ((openF d file N (.slice A N c)).2 ≠ 0 ∧ r = .tuple #[.pointer none, .slice none 0 0, .int .i64 (openF d file N (.slice A N c)).2] ∧ L' = dsk p (openF d file N (.slice A N c)).1 :: L) ∨
      ((openF d file N (.slice A N c)).2 = 0 ∧ ∃ q A3 c3, r = .tuple #[.pointer (some ⟨q, 0, none⟩), .slice A3 xs.length c3, .int .i64 0] ∧ L' = cel q [.pointer (some ⟨p, 0, none⟩), .int .i64 file, .int .i64 (xs.length : Int), .bool false] 70 :: own 23 (eSl eB) (.slice A3 xs.length c3) xs :: dsk p (openF d file N (.slice A N c)).1 :: L) := by
  obtain ⟨files, room, off, armed, left⟩ := d
  dsimp only at ho h1 h2 hB hsc hN
  subst ho
  try dsimp only
  have hd0 : 0 ≤ (fileF file files).d ∧ (fileF file files).d ≤ (fileF file files).b.length := hd.d0 file
  have hu : (usedL files : Int) ≤ room := hd.u
  have hr1 : room ≤ 16777216 := hd.r1
  obtain ⟨B, hBe⟩ : ∃ B, (fileF file files).b = B := ⟨_, rfl⟩
  rw [hBe] at hsc
  have hBl : B.length ≤ 1000000 := by rw [← hBe]; exact hB
  refine CT_enter Try.func11 rfl ?_; (simp only [Try.ntmps11, List.size_toArray, List.length_cons, List.length_nil, Nat.reduceAdd, Nat.reduceSub, Array.replicate_succ, Array.replicate_zero, List.push_toArray, List.append_toArray, List.nil_append, List.cons_append])
  repeat' (first | refine go ?_ | intro _ | (apply cG; first | refine cT ?_ | refine cF ?_ | refine cS (fun _ => ?_) fun _ => ?_) | (apply gW; refine sW ?_) | (apply gI; refine sI ?_) | (apply gE; refine sE ?_) | (apply gP; refine sP ?_) | (apply gC; refine sC ?_) | (apply gD; refine sD ?_) | fail)
  refine O_d (dy_call ArgsI.pf (by first | exact rfl | trivial | (intro a b; rfl)) (CT.pull (i := 0) (by rfl) (dRead_ct (by omega) hf))) ?_; rintro _ _ ⟨_, ⟨A1, c1, rfl, rfl⟩, rfl⟩; refine O_n ?_
  rw [hBe]
  refine O_frz 0 ?_
  repeat' (first | refine go ?_ | intro _ | (apply cG; first | refine cT ?_ | refine cF ?_ | refine cS (fun _ => ?_) fun _ => ?_) | (apply gW; refine sW ?_) | (apply gI; refine sI ?_) | (apply gE; refine sE ?_) | (apply gP; refine sP ?_) | (apply gC; refine sC ?_) | (apply gD; refine sD ?_) | fail)
  refine O_d (dy_call ArgsI.pf (by first | exact rfl | trivial | (intro a b; rfl)) (Scan_ct (.head _) hBl hsc)) ?_; rintro _ _ ⟨_, ⟨A3, c3, rfl, rfl⟩, rfl⟩; refine O_n ?_
  by_cases hlt : N < B.length
  · repeat' (first | refine go ?_ | intro _ | (apply cG; first | refine cT ?_ | refine cF ?_ | refine cS (fun _ => ?_) fun _ => ?_) | (apply gW; refine sW ?_) | (apply gI; refine sI ?_) | (apply gE; refine sE ?_) | (apply gP; refine sP ?_) | (apply gC; refine sC ?_) | (apply gD; refine sD ?_) | fail)
    refine O_d (dy_call ArgsI.pf (by first | exact rfl | trivial | (intro a b; rfl)) (CT.pull (i := 2) (by rfl) (dTrunc_ct hf hN (by omega) hd0.1 (by omega) (by omega) h2))) ?_; rintro _ _ ⟨_, ⟨A4, c4, rfl, rfl⟩, rfl⟩; refine O_n ?_
    obtain ⟨d1, e1, htr⟩ : ∃ d1 e1, truncF ⟨files, room, false, armed, left⟩ file N (.slice A4 N c4) = (d1, e1) := ⟨_, _, rfl⟩
    have hok := hd.trunc (n := file) (N := N) (y := .slice A4 N c4) hN
    have hle := truncF_left ⟨files, room, false, armed, left⟩ file N (.slice A4 N c4)
    rw [htr] at hok hle
    rw [htr]
    dsimp only at hok hle ⊢
    by_cases he1 : e1 = 0
    rotate_left
    · have hop : openF ⟨files, room, false, armed, left⟩ file N (.slice A4 N c4) = (d1, e1) := by
        unfold openF
        dsimp only
        rw [hBe, if_pos hlt, htr]
        dsimp only
        rw [if_neg he1]
      repeat' (first | refine go ?_ | intro _ | (apply cG; first | refine cT ?_ | refine cF ?_ | refine cS (fun _ => ?_) fun _ => ?_) | (apply gW; refine sW ?_) | (apply gI; refine sI ?_) | (apply gE; refine sE ?_) | (apply gP; refine sP ?_) | (apply gC; refine sC ?_) | (apply gD; refine sD ?_) | fail)
      refine E_res3 (by rfl) (by rfl) ⟨A4, c4, .inl ⟨by rw [hop]; exact he1, by rw [hop], rfl⟩⟩ (by rw [hop]; exact Sb)
    subst he1
    have hop : openF ⟨files, room, false, armed, left⟩ file N (.slice A4 N c4) = syncF d1 := by
      unfold openF
      dsimp only
      rw [hBe, if_pos hlt, htr]
      rfl
    obtain ⟨f1, r1, o1, a1, l1⟩ := d1
    dsimp only at hle
    have hu1 : (usedL f1 : Int) ≤ r1 := hok.u
    have hr2 : r1 ≤ 16777216 := hok.r1
    repeat' (first | refine go ?_ | intro _ | (apply cG; first | refine cT ?_ | refine cF ?_ | refine cS (fun _ => ?_) fun _ => ?_) | (apply gW; refine sW ?_) | (apply gI; refine sI ?_) | (apply gE; refine sE ?_) | (apply gP; refine sP ?_) | (apply gC; refine sC ?_) | (apply gD; refine sD ?_) | fail)
    refine O_d (dy_call ArgsI.pf (by first | exact rfl | trivial | (intro a b; rfl)) (CT.pull (i := 0) (by rfl) (dSync_ct (files := f1) (room := r1) (off := o1) (armed := a1) (left := l1) hok.k (by omega) (by omega) (by omega)))) ?_; rintro _ _ ⟨_, ⟨rfl, rfl⟩, rfl⟩; refine O_n ?_
    obtain ⟨d2, e2, hsy⟩ : ∃ d2 e2, syncF ⟨f1, r1, o1, a1, l1⟩ = (d2, e2) := ⟨_, _, rfl⟩
    rw [hsy]
    dsimp only
    by_cases h2 : e2 = 0
    · subst h2
      repeat' (first | refine go ?_ | intro _ | (apply cG; first | refine cT ?_ | refine cF ?_ | refine cS (fun _ => ?_) fun _ => ?_) | (apply gW; refine sW ?_) | (apply gI; refine sI ?_) | (apply gE; refine sE ?_) | (apply gP; refine sP ?_) | (apply gC; refine sC ?_) | (apply gD; refine sD ?_) | fail)
      rename_i q
      refine E_res3 (by rfl) (by rfl) ⟨A4, c4, .inr ⟨by rw [hop, hsy], q, A3, c3, rfl, rfl⟩⟩ (Sub.trans (B := cel q [.pointer (some ⟨p, 0, none⟩), .int .i64 file, .int .i64 (xs.length : Int), .bool false] 70 :: own 23 (eSl eB) (.slice A3 xs.length c3) xs :: dsk p d2 :: L) Sb (by rw [hop, hsy]; exact Sb))
    · repeat' (first | refine go ?_ | intro _ | (apply cG; first | refine cT ?_ | refine cF ?_ | refine cS (fun _ => ?_) fun _ => ?_) | (apply gW; refine sW ?_) | (apply gI; refine sI ?_) | (apply gE; refine sE ?_) | (apply gP; refine sP ?_) | (apply gC; refine sC ?_) | (apply gD; refine sD ?_) | fail)
      refine E_res3 (by rfl) (by rfl) ⟨A4, c4, .inl ⟨by rw [hop, hsy]; exact h2, by rw [hop, hsy], rfl⟩⟩ (by rw [hop, hsy]; exact Sb)

  · have hok := hd
    have hop : openF ⟨files, room, false, armed, left⟩ file N (.slice none N 0) = syncF ⟨files, room, false, armed, left⟩ := by
      unfold openF
      dsimp only
      rw [hBe, if_neg hlt]
      rfl
    repeat' (first | refine go ?_ | intro _ | (apply cG; first | refine cT ?_ | refine cF ?_ | refine cS (fun _ => ?_) fun _ => ?_) | (apply gW; refine sW ?_) | (apply gI; refine sI ?_) | (apply gE; refine sE ?_) | (apply gP; refine sP ?_) | (apply gC; refine sC ?_) | (apply gD; refine sD ?_) | fail)
    refine O_d (dy_call ArgsI.pf (by first | exact rfl | trivial | (intro a b; rfl)) (CT.pull (i := 2) (by rfl) (dSync_ct (files := files) (room := room) (off := false) (armed := armed) (left := left) hok.k (by omega) (by omega) (by omega)))) ?_; rintro _ _ ⟨_, ⟨rfl, rfl⟩, rfl⟩; refine O_n ?_
    obtain ⟨d2, e2, hsy⟩ : ∃ d2 e2, syncF ⟨files, room, false, armed, left⟩ = (d2, e2) := ⟨_, _, rfl⟩
    rw [hsy]
    dsimp only
    by_cases h2 : e2 = 0
    · subst h2
      repeat' (first | refine go ?_ | intro _ | (apply cG; first | refine cT ?_ | refine cF ?_ | refine cS (fun _ => ?_) fun _ => ?_) | (apply gW; refine sW ?_) | (apply gI; refine sI ?_) | (apply gE; refine sE ?_) | (apply gP; refine sP ?_) | (apply gC; refine sC ?_) | (apply gD; refine sD ?_) | fail)
      rename_i q
      refine E_res3 (by rfl) (by rfl) ⟨none, 0, .inr ⟨by rw [hop, hsy], q, A3, c3, rfl, rfl⟩⟩ (Sub.trans (B := cel q [.pointer (some ⟨p, 0, none⟩), .int .i64 file, .int .i64 (xs.length : Int), .bool false] 70 :: own 23 (eSl eB) (.slice A3 xs.length c3) xs :: dsk p d2 :: L) Sb (by rw [hop, hsy]; exact Sb))
    · repeat' (first | refine go ?_ | intro _ | (apply cG; first | refine cT ?_ | refine cF ?_ | refine cS (fun _ => ?_) fun _ => ?_) | (apply gW; refine sW ?_) | (apply gI; refine sI ?_) | (apply gE; refine sE ?_) | (apply gP; refine sP ?_) | (apply gC; refine sC ?_) | (apply gD; refine sD ?_) | fail)
      refine E_res3 (by rfl) (by rfl) ⟨none, 0, .inl ⟨by rw [hop, hsy]; exact h2, by rw [hop, hsy], rfl⟩⟩ (by rw [hop, hsy]; exact Sb)
end
end Go.Proofs.Ytbjaecofccpahaa
