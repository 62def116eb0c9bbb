/-
  Walks: the examples of package label.
-/
import Derived.Laws.StructEq
import Derived.Test.YteeapkfakehocaaMV
import Derived.Test.YteeapkfakehocaaME
import Derived.Test.YteeapkfakehocaaMC
namespace Go.Proofs.Yteeapkfakehocaa
open Go Go.RowKit
set_option linter.unusedVariables false
set_option linter.unusedSimpArgs false
set_option maxRecDepth 20000
set_option synthInstance.maxSize 100000
set_option synthInstance.maxHeartbeats 400000
section
variable {W0 : World} {L : List HP}
theorem lives_ct : CT Try.prog 16 #[] W0 L fun r L' => r = .bool true ∧ L' = L := by
  have e1 : placeF [⟨0, 0, 2, 1, 1⟩, ⟨1, 0, 2, 1, 5⟩] [] 100 = ([0, 2], 6, 0) := by decide +kernel
  have e2 : placeF [⟨0, 0, 2, 1, 1⟩, ⟨1, 0, 2, 1, 5⟩] [⟨-9, -9, 9, 0⟩] 100 = ([1, 0], 6, 0) := by decide +kernel
  have e3 : placeF [⟨0, 0, 2, 1, 1⟩, ⟨1, 0, 2, 1, 5⟩] [⟨-9, -9, 9, 9⟩] 100 = ([-1, -1], 0, 0) := by decide +kernel
  refine CT_enter Try.func16 rfl ?_; (simp only [Try.ntmps16, List.size_toArray, List.length_cons, List.length_nil, Nat.reduceAdd, Nat.reduceSub, Array.replicate_succ, Array.replicate_zero, List.push_toArray, List.append_toArray, List.nil_append, List.cons_append])
  repeat' (first | refine go ?_ | intro _ | (apply cG; first | refine cT ?_ | refine cF ?_ | refine cS (fun _ => ?_) fun _ => ?_) | (apply gW; refine sW ?_) | (apply gI; refine sI ?_) | (apply gE; refine sE ?_) | (apply gP; refine sP ?_) | (apply gC; refine sC ?_) | (apply gD; refine sD ?_) | fail)
  refine O_d (dy_litA (R := eAK) [⟨0, 0, 2, 1, 1⟩, ⟨1, 0, 2, 1, 5⟩] [[.int .i64 0, .int .i64 0, .int .i64 2, .int .i64 1, .int .i64 1], [.int .i64 1, .int .i64 0, .int .i64 2, .int .i64 1, .int .i64 5]] (by rfl) (fun m h hs => ⟨rfl, rfl, trivial⟩)) ?_; rintro _ _ ⟨_, rfl, rfl⟩; refine O_n ?_
  repeat' (first | refine go ?_ | intro _ | (apply cG; first | refine cT ?_ | refine cF ?_ | refine cS (fun _ => ?_) fun _ => ?_) | (apply gW; refine sW ?_) | (apply gI; refine sI ?_) | (apply gE; refine sE ?_) | (apply gP; refine sP ?_) | (apply gC; refine sC ?_) | (apply gD; refine sD ?_) | fail)
  rename_i g pb pc
  refine O_frz 2 ?_
  refine O_rdnil eBX none 0 ?_
  refine O_d (dy_call ArgsI.pf (by first | exact rfl | trivial | (intro a b; rfl)) (Place_ct (fuel := 100) (A := some ⟨g, 0, none⟩) (c := 2) (A2 := none) (c2 := 0) (l := [⟨0, 0, 2, 1, 1⟩, ⟨1, 0, 2, 1, 5⟩]) (t := []) (.tail _ (.tail _ (.tail _ (.head _)))) (.head _) (by decide) (.inl (by decide)))) ?_; rintro _ _ ⟨_, ⟨A3, c3, rfl, rfl⟩, rfl⟩; refine O_n ?_
  rw [e1]
  dsimp only
  repeat' (first | refine go ?_ | intro _ | (apply cG; first | refine cT ?_ | refine cF ?_ | refine cS (fun _ => ?_) fun _ => ?_) | (apply gW; refine sW ?_) | (apply gI; refine sI ?_) | (apply gE; refine sE ?_) | (apply gP; refine sP ?_) | (apply gC; refine sC ?_) | (apply gD; refine sD ?_) | fail)
  refine O_d (dy_lit1 (R := eBX) (⟨-9, -9, 9, 0⟩ : BX) (hcs := by rfl) (hel := fun _ _ _ => by rfl)) ?_; rintro _ _ ⟨_, rfl, rfl⟩; refine O_n ?_
  refine O_frz 0 ?_
  rename_i g2
  refine O_d (dy_call ArgsI.pf (by first | exact rfl | trivial | (intro a b; rfl)) (Place_ct (fuel := 100) (A := some ⟨g, 0, none⟩) (c := 2) (A2 := some ⟨g2, 0, none⟩) (c2 := 1) (l := [⟨0, 0, 2, 1, 1⟩, ⟨1, 0, 2, 1, 5⟩]) (t := [⟨-9, -9, 9, 0⟩]) (.tail _ (.tail _ (.tail _ (.tail _ (.tail _ (.head _)))))) (.head _) (by decide) (.inl (by decide)))) ?_; rintro _ _ ⟨_, ⟨A4, c4, rfl, rfl⟩, rfl⟩; refine O_n ?_
  rw [e2]
  dsimp only
  repeat' (first | refine go ?_ | intro _ | (apply cG; first | refine cT ?_ | refine cF ?_ | refine cS (fun _ => ?_) fun _ => ?_) | (apply gW; refine sW ?_) | (apply gI; refine sI ?_) | (apply gE; refine sE ?_) | (apply gP; refine sP ?_) | (apply gC; refine sC ?_) | (apply gD; refine sD ?_) | fail)
  refine O_d (dy_lit1 (R := eBX) (⟨-9, -9, 9, 9⟩ : BX) (hcs := by rfl) (hel := fun _ _ _ => by rfl)) ?_; rintro _ _ ⟨_, rfl, rfl⟩; refine O_n ?_
  refine O_frz 0 ?_
  rename_i g3
  refine O_d (dy_call ArgsI.pf (by first | exact rfl | trivial | (intro a b; rfl)) (Place_ct (fuel := 100) (A := some ⟨g, 0, none⟩) (c := 2) (A2 := some ⟨g3, 0, none⟩) (c2 := 1) (l := [⟨0, 0, 2, 1, 1⟩, ⟨1, 0, 2, 1, 5⟩]) (t := [⟨-9, -9, 9, 9⟩]) (.tail _ (.tail _ (.tail _ (.tail _ (.tail _ (.tail _ (.tail _ (.head _)))))))) (.head _) (by decide) (.inl (by decide)))) ?_; rintro _ _ ⟨_, ⟨A5, c5, rfl, rfl⟩, rfl⟩; refine O_n ?_
  rw [e3]
  dsimp only
  repeat' (first | refine go ?_ | intro _ | (apply cG; first | refine cT ?_ | refine cF ?_ | refine cS (fun _ => ?_) fun _ => ?_) | (apply gW; refine sW ?_) | (apply gI; refine sI ?_) | (apply gE; refine sE ?_) | (apply gP; refine sP ?_) | (apply gC; refine sC ?_) | (apply gD; refine sD ?_) | fail)
  refine O_d (dy_litP (f := iv) (hf := fun _ => rfl) [(0 : Int), 2] (by rfl)) ?_; rintro _ LI' ⟨_, rfl, hLL⟩; replace hLL : LI' = own _ eI _ _ :: _ := hLL; subst hLL; refine O_n ?_
  refine O_d (dy_call ArgsI.pf (by first | exact rfl | trivial | (intro a b; rfl)) (SameInts_ct (la := [0, 2]) (lb := [0, 2]) (q := true) Sc.pf Sc.pf (by decide) (by decide) (decide_eq_true rfl))) ?_; rintro _ _ ⟨_, ⟨rfl, hLL⟩, rfl⟩; replace hLL := hLL.symm; subst hLL; refine O_n ?_
  repeat' (first | refine go ?_ | intro _ | (apply cG; first | refine cT ?_ | refine cF ?_ | refine cS (fun _ => ?_) fun _ => ?_) | (apply gW; refine sW ?_) | (apply gI; refine sI ?_) | (apply gE; refine sE ?_) | (apply gP; refine sP ?_) | (apply gC; refine sC ?_) | (apply gD; refine sD ?_) | fail)
  refine O_d (dy_litP (f := iv) (hf := fun _ => rfl) [(1 : Int), 0] (by rfl)) ?_; rintro _ LI' ⟨_, rfl, hLL⟩; replace hLL : LI' = own _ eI _ _ :: _ := hLL; subst hLL; refine O_n ?_
  refine O_d (dy_call ArgsI.pf (by first | exact rfl | trivial | (intro a b; rfl)) (SameInts_ct (la := [1, 0]) (lb := [1, 0]) (q := true) Sc.pf Sc.pf (by decide) (by decide) (decide_eq_true rfl))) ?_; rintro _ _ ⟨_, ⟨rfl, hLL⟩, rfl⟩; replace hLL := hLL.symm; subst hLL; refine O_n ?_
  repeat' (first | refine go ?_ | intro _ | (apply cG; first | refine cT ?_ | refine cF ?_ | refine cS (fun _ => ?_) fun _ => ?_) | (apply gW; refine sW ?_) | (apply gI; refine sI ?_) | (apply gE; refine sE ?_) | (apply gP; refine sP ?_) | (apply gC; refine sC ?_) | (apply gD; refine sD ?_) | fail)
  refine O_d (dy_litP (f := iv) (hf := fun _ => rfl) [(-1 : Int), -1] (by rfl)) ?_; rintro _ LI' ⟨_, rfl, hLL⟩; replace hLL : LI' = own _ eI _ _ :: _ := hLL; subst hLL; refine O_n ?_
  refine O_d (dy_call ArgsI.pf (by first | exact rfl | trivial | (intro a b; rfl)) (SameInts_ct (la := [-1, -1]) (lb := [-1, -1]) (q := true) Sc.pf Sc.pf (by decide) (by decide) (decide_eq_true rfl))) ?_; rintro _ _ ⟨_, ⟨rfl, hLL⟩, rfl⟩; replace hLL := hLL.symm; subst hLL; refine O_n ?_
  repeat' (first | refine go ?_ | intro _ | (apply cG; first | refine cT ?_ | refine cF ?_ | refine cS (fun _ => ?_) fun _ => ?_) | (apply gW; refine sW ?_) | (apply gI; refine sI ?_) | (apply gE; refine sE ?_) | (apply gP; refine sP ?_) | (apply gC; refine sC ?_) | (apply gD; refine sD ?_) | fail)
  refine E_res1 (by rfl) (by rfl) ⟨rfl, rfl⟩ Sb
end
end Go.Proofs.Yteeapkfakehocaa
namespace Go.Proofs.Yteeapkfakehocaa
open Go Go.RowKit
set_option linter.unusedVariables false
set_option linter.unusedSimpArgs false
section
variable {P : Program} {W0 w : World} {S : List HP} {a : Act} {d : Option Tmp} {ty : TypeId} {pos : String} {aft : Array Edge} {gd : Option (Nat × Bool)} {x y : Operand} {t u : TypeId}
theorem eqF_nil {n : Nat} {xs ys : Array Value} {w : World} : (Op.eqFields n xs ys []).run P w = .ok true w := by
  simp [Op.eqFields]
theorem eqF_cons {n : Nat} {xs ys : Array Value} {f : Field} {fs : List Field} {v v' : Value} {w : World} (hn : f.name ≠ "_") (ha : (part f.type xs f.offset).run P w = .ok v w) (hb : (part f.type ys f.offset).run P w = .ok v' w) (he : (Op.equalIn n f.type v v').run P w = .ok true w) (h : (Op.eqFields n xs ys fs).run P w = .ok true w) :
    (Op.eqFields n xs ys (f :: fs)).run P w = .ok true w := by
  simp only [Op.eqFields, if_pos hn, Sem.run_bind, ha, hb, he, Result.andThen_ok, Bool.not_true, Bool.false_eq_true, if_false]
  exact h
theorem eqA_of {n : Nat} {xs ys : Array Value} {w : World} {fs : Array Field} (hu : P.underlying t = some (.struct fs)) (hp : P.stoodInHeld t = false) (h : (Op.eqFields n xs ys fs.toList).run P w = .ok true w) : (Op.equalIn (n + 1) t (.agg xs) (.agg ys)).run P w = .ok true w := by
  have hf : P.fieldsOf t = fs := by unfold Program.fieldsOf; rw [hu]
  rw [run_equalIn_agg w n t xs ys (by rw [hf]; exact hu) hp, hf]
  exact h
theorem sv_neA {xs ys : Array Value} (hx : a.eval x = .agg xs := by exact Ev.pf) (hy : a.eval y = .agg ys := by exact Ev.pf) (hg : P.eqGuardType P.depth t = false := by kernel_rfl) (h : ∀ w, (Op.equalIn 10000 t (.agg xs) (.agg ys)).run P w = .ok true w) : SV P W0 S ⟨d, .binOp .neq t x y u, ty, pos, aft, gd⟩ a (.bool false) := ⟨fun w _ => by
  unfold execOp
  simp [hx, hy, run_eqGuard_agg (P := P) w .neq t x y xs ys hg, run_neq_struct, h]⟩
theorem sv_eqA {xs ys : Array Value} (hx : a.eval x = .agg xs := by exact Ev.pf) (hy : a.eval y = .agg ys := by exact Ev.pf) (hg : P.eqGuardType P.depth t = false := by kernel_rfl) (h : ∀ w, (Op.equalIn 10000 t (.agg xs) (.agg ys)).run P w = .ok true w) : SV P W0 S ⟨d, .binOp .eql t x y u, ty, pos, aft, gd⟩ a (.bool true) := ⟨fun w _ => by
  unfold execOp
  simp [hx, hy, run_eqGuard_agg (P := P) w .eql t x y xs ys hg, run_eql_struct, h]⟩
theorem eqI_of {n : Nat} {k k' : IntKind} {z : Int} {w : World} (h : P.underlying t = some (.int k')) : (Op.equalIn (n + 1) t (.int k z) (.int k z)).run P w = .ok true w := by
  rw [run_equalIn_int w n t k k' z z h]
  simp
end
end Go.Proofs.Yteeapkfakehocaa
namespace Go.Proofs.Yteeapkfakehocaa
open Go Go.RowKit
set_option linter.unusedVariables false
set_option linter.unusedSimpArgs false
set_option maxRecDepth 20000
set_option synthInstance.maxSize 100000
set_option synthInstance.maxHeartbeats 400000
theorem eq_pt (x y : Int) (n : Nat) (w : World) : (Op.equalIn (n + 2) 30 (.agg #[.int .i64 x, .int .i64 y]) (.agg #[.int .i64 x, .int .i64 y])).run Try.prog w = .ok true w :=
  eqA_of Try.underlying30 (by kernel_rfl) (eqF_cons (v := .int .i64 x) (v' := .int .i64 x) (by decide) (by kernel_rfl) (by kernel_rfl) (eqI_of Try.underlying3) (eqF_cons (v := .int .i64 y) (v' := .int .i64 y) (by decide) (by kernel_rfl) (by kernel_rfl) (eqI_of Try.underlying3) eqF_nil))
theorem eq_bx (b : BX) (w : World) : (Op.equalIn 10000 32 (bxV b) (bxV b)).run Try.prog w = .ok true w :=
  eqA_of Try.underlying32 (by kernel_rfl) (eqF_cons (v := .agg #[.int .i64 b.x0, .int .i64 b.y0]) (v' := .agg #[.int .i64 b.x0, .int .i64 b.y0]) (by decide) (by kernel_rfl) (by kernel_rfl) (eq_pt b.x0 b.y0 9997 w) (eqF_cons (v := .agg #[.int .i64 b.x1, .int .i64 b.y1]) (v' := .agg #[.int .i64 b.x1, .int .i64 b.y1]) (by decide) (by kernel_rfl) (by kernel_rfl) (eq_pt b.x1 b.y1 9997 w) eqF_nil))
section
variable {W0 : World} {L : List HP}
theorem LabelBoxes_ct {v : Value} {li : List Int} {at_ how by_ : Int} (hv : rd eI v li ∈ L) (hl : li.length ≤ 9223372036854775807) (hr : ∀ n ∈ li, I64 n) (ha : I64 at_) (hh : I64 how) (hb : I64 by_) :
    CT Try.prog 3 #[v, .int .i64 at_, .int .i64 how, .int .i64 by_] W0 L fun r L' => r = .bool true ∧ L' = L := by
  refine CT_fact (fun w s => ((Src.sl (.inl hv) s).form)) ?_
  rintro ⟨A0, c0, rfl, hc0⟩
  refine CT.sub ?_ (sub_dup hv)
  refine CT_enter Try.func3 rfl ?_; (simp only [Try.ntmps3, List.size_toArray, List.length_cons, List.length_nil, Nat.reduceAdd, Nat.reduceSub, Array.replicate_succ, Array.replicate_zero, List.push_toArray, List.append_toArray, List.nil_append, List.cons_append])
  repeat' (first | refine go ?_ | intro _ | (apply cG; first | refine cT ?_ | refine cF ?_ | refine cS (fun _ => ?_) fun _ => ?_) | (apply gW; refine sW ?_) | (apply gI; refine sI ?_) | (apply gE; refine sE ?_) | (apply gP; refine sP ?_) | (apply gC; refine sC ?_) | (apply gD; refine sD ?_) | fail)
  refine O_d (dy_call ArgsI.pf (by first | exact rfl | trivial | (intro a b; rfl)) (Some_ct (m := 4) (by repeat (first | exact .head _ | refine .tail _ ?_)) hr hl (by decide))) ?_; rintro _ _ ⟨_, ⟨A1, c1, x, rfl, hx4, hxok, rfl⟩, rfl⟩; refine O_n ?_
  repeat' (first | refine go ?_ | intro _ | (apply cG; first | refine cT ?_ | refine cF ?_ | refine cS (fun _ => ?_) fun _ => ?_) | (apply gW; refine sW ?_) | (apply gI; refine sI ?_) | (apply gE; refine sE ?_) | (apply gP; refine sP ?_) | (apply gC; refine sC ?_) | (apply gD; refine sD ?_) | fail)
  refine O_frz 0 ?_
  refine O_d (dy_call ArgsI.pf (by first | exact rfl | trivial | (intro a b; rfl)) (Spoilt_ct (l := x) (by repeat (first | exact .head _ | refine .tail _ ?_)) (by omega) ha hh hb)) ?_; rintro _ _ ⟨_, ⟨A2, c2, y, rfl, hy4, rfl⟩, rfl⟩; refine O_n ?_
  refine O_frz 0 ?_
  repeat' (first | refine go ?_ | intro _ | (apply cG; first | refine cT ?_ | refine cF ?_ | refine cS (fun _ => ?_) fun _ => ?_) | (apply gW; refine sW ?_) | (apply gI; refine sI ?_) | (apply gE; refine sE ?_) | (apply gP; refine sP ?_) | (apply gC; refine sC ?_) | (apply gD; refine sD ?_) | fail)
  refine O_d (dy_litS (R := eSX eAK) [⟨.slice A1 x.length c1, x⟩, ⟨.slice A2 y.length c2, y⟩] [.slice A1 x.length c1, .slice A2 y.length c2] (by rfl) (fun m h hs => ⟨⟨rfl, rd_mem hs (by repeat (first | exact .head _ | refine .tail _ ?_))⟩, ⟨rfl, rd_mem hs (by repeat (first | exact .head _ | refine .tail _ ?_))⟩, trivial⟩)) ?_; rintro _ _ ⟨g, rfl, rfl⟩; refine O_n ?_
  refine O_frz 0 ?_
  have hz0 : ∀ z ∈ [(⟨.slice A1 x.length c1, x⟩ : SX AK), ⟨.slice A2 y.length c2, y⟩], z.b.length ≤ 4 ∧ ∃ A c, z.v = .slice A z.b.length c := by
    intro z hz
    simp only [List.mem_cons, List.not_mem_nil, or_false] at hz
    rcases hz with rfl | rfl
    · exact ⟨hx4, A1, c1, rfl⟩
    · exact ⟨by dsimp only; omega, A2, c2, rfl⟩
  have hzl : [(⟨.slice A1 x.length c1, x⟩ : SX AK), ⟨.slice A2 y.length c2, y⟩].length = 2 := rfl
  obtain ⟨zs, hzs⟩ : ∃ zs : List (SX AK), [⟨.slice A1 x.length c1, x⟩, ⟨.slice A2 y.length c2, y⟩] = zs := ⟨_, rfl⟩
  rw [hzs] at hz0 hzl ⊢
  clear hzs
  repeat' (first | refine go ?_ | intro _ | (apply cG; first | refine cT ?_ | refine cF ?_ | refine cS (fun _ => ?_) fun _ => ?_) | (apply gW; refine sW ?_) | (apply gI; refine sI ?_) | (apply gE; refine sE ?_) | (apply gP; refine sP ?_) | (apply gC; refine sC ?_) | (apply gD; refine sD ?_) | fail)
  refine C_loopS (κ := Nat) [false, false, false, false, false, false, false, false, true, false, false, true, true, true, true, true, true, true, true, false, false, false, false, false, false, false, false, false, true, true, true, true, true, true, true, true, true, true, true, true, true, true, true, true, true, true, true, true, true, true, true, true, true, true, true, true, true, true, true, true, true, true, true, true, true, true, true, true, true, true, true, true, true, true, true, true, false] (fun k => [(11, .int .i64 (k : Int))]) (fun k => []) (fun k => k ≤ 2) (fun k => 2 - k) 0 (Nat.zero_le _) ⟨rfl, trivial⟩ ?_
  rintro i u hi
  ((try dsimp only); refine C_n ?_; (try simp only [Nat.reduceAdd, Nat.zero_add]))
  by_cases hi2 : i < 2
  rotate_left
  · repeat' (first | refine go ?_ | intro _ | (apply cG; first | refine cT ?_ | refine cF ?_ | refine cS (fun _ => ?_) fun _ => ?_) | (apply gW; refine sW ?_) | (apply gI; refine sI ?_) | (apply gE; refine sE ?_) | (apply gP; refine sP ?_) | (apply gC; refine sC ?_) | (apply gD; refine sD ?_) | fail)
    refine O_d (dy_call ArgsI.pf (by first | exact rfl | trivial | (intro a b; rfl)) (lives_ct)) ?_; rintro _ _ ⟨_, ⟨rfl, hLL⟩, rfl⟩; replace hLL := hLL.symm; subst hLL; refine O_n ?_
    repeat' (first | refine go ?_ | intro _ | (apply cG; first | refine cT ?_ | refine cF ?_ | refine cS (fun _ => ?_) fun _ => ?_) | (apply gW; refine sW ?_) | (apply gI; refine sI ?_) | (apply gE; refine sE ?_) | (apply gP; refine sP ?_) | (apply gC; refine sC ?_) | (apply gD; refine sD ?_) | fail)
    refine E_res1 (by rfl) (by rfl) ⟨rfl, rfl⟩ Sb
  obtain ⟨z, hz⟩ : ∃ z, zs[i]? = some z := ⟨_, List.getElem?_eq_getElem (by omega)⟩
  have haz : At zs i z := ⟨hz⟩
  obtain ⟨hz4, Az, cz, hzv⟩ := hz0 z (List.mem_of_getElem? hz)
  have hec : EncC (eSX eAK) z [.slice Az z.b.length cz] := ⟨fun m cs h => by rw [h.1, hzv]⟩
  refine C_sub (sub_peekX (R := eAK) (.head _) hz) ?_
  rw [hzv]
  repeat' (first | refine go ?_ | intro _ | (apply cG; first | refine cT ?_ | refine cF ?_ | refine cS (fun _ => ?_) fun _ => ?_) | (apply gW; refine sW ?_) | (apply gI; refine sI ?_) | (apply gE; refine sE ?_) | (apply gP; refine sP ?_) | (apply gC; refine sC ?_) | (apply gD; refine sD ?_) | fail)
  refine O_d (dy_call ArgsI.pf (by first | exact rfl | trivial | (intro a b; rfl)) (own_ct (l := z.b) (by repeat (first | exact .head _ | refine .tail _ ?_)) (by omega))) ?_; rintro _ _ ⟨_, ⟨A3, c3, rfl, rfl⟩, rfl⟩; refine O_n ?_
  repeat' (first | refine go ?_ | intro _ | (apply cG; first | refine cT ?_ | refine cF ?_ | refine cS (fun _ => ?_) fun _ => ?_) | (apply gW; refine sW ?_) | (apply gI; refine sI ?_) | (apply gE; refine sE ?_) | (apply gP; refine sP ?_) | (apply gC; refine sC ?_) | (apply gD; refine sD ?_) | fail)
  refine C_loopS (κ := Nat) [false, false, false, false, false, false, false, false, true, false, false, false, false, true, true, true, true, true, true, false, false, false, false, false, false, false, false, false, false, false, false, false, false, false, false, false, false, true, true, true, true, true, true, true, true, true, true, true, true, true, true, true, true, true, true, true, true, true, true, true, true, true, true, true, true, true, true, true, true, true, true, true, true, true, true, true, false] (fun k => [(13, .int .i64 (k : Int))]) (fun k => []) (fun k => k ≤ z.b.length) (fun k => z.b.length - k) 0 (Nat.zero_le _) ⟨rfl, trivial⟩ ?_
  rintro k u2 hk
  ((try dsimp only); refine C_n ?_; (try simp only [Nat.reduceAdd, Nat.zero_add]))
  by_cases hkl : k < z.b.length
  rotate_left
  · repeat' (first | refine go ?_ | intro _ | (apply cG; first | refine cT ?_ | refine cF ?_ | refine cS (fun _ => ?_) fun _ => ?_) | (apply gW; refine sW ?_) | (apply gI; refine sI ?_) | (apply gE; refine sE ?_) | (apply gP; refine sP ?_) | (apply gC; refine sC ?_) | (apply gD; refine sD ?_) | fail)
    exact E_round (i + 1) hi2 (by omega) ⟨rfl, trivial⟩ Sb
  obtain ⟨a, hka⟩ : ∃ a, z.b[k]? = some a := ⟨_, List.getElem?_eq_getElem hkl⟩
  have hak : At z.b k a := ⟨hka⟩
  repeat' (first | refine go ?_ | intro _ | (apply cG; first | refine cT ?_ | refine cF ?_ | refine cS (fun _ => ?_) fun _ => ?_) | (apply gW; refine sW ?_) | (apply gI; refine sI ?_) | (apply gE; refine sE ?_) | (apply gP; refine sP ?_) | (apply gC; refine sC ?_) | (apply gD; refine sD ?_) | fail)
  refine C_loopS (κ := Nat) [false, false, false, false, false, false, false, false, true, false, false, false, false, false, true, true, true, true, true, false, false, false, false, false, false, false, false, false, false, false, false, false, false, false, false, false, false, false, false, false, false, false, false, true, true, true, true, true, true, true, true, true, true, true, true, true, true, true, true, true, true, true, true, true, true, true, true, true, true, true, true, true, true, true, true, true, false] (fun k => [(14, .int .i64 ((k : Int) - 1))]) (fun k => []) (fun k => k ≤ 6) (fun k => 6 - k) 0 (Nat.zero_le _) ⟨rfl, trivial⟩ ?_
  rintro q u3 hq
  ((try dsimp only); refine C_n ?_; (try simp only [Nat.reduceAdd, Nat.zero_add]))
  obtain ⟨pz, hpz⟩ : ∃ pz : Int, (q : Int) - 1 = pz := ⟨_, rfl⟩
  rw [hpz]
  by_cases hq6 : q < 6
  rotate_left
  · repeat' (first | refine go ?_ | intro _ | (apply cG; first | refine cT ?_ | refine cF ?_ | refine cS (fun _ => ?_) fun _ => ?_) | (apply gW; refine sW ?_) | (apply gI; refine sI ?_) | (apply gE; refine sE ?_) | (apply gP; refine sP ?_) | (apply gC; refine sC ?_) | (apply gD; refine sD ?_) | fail)
    exact E_round (k + 1) hkl (by omega) ⟨rfl, trivial⟩ Sb
  obtain ⟨⟨b, e⟩, hbe⟩ : ∃ be, boxF a pz = be := ⟨_, rfl⟩
  repeat' (first | refine go ?_ | intro _ | (apply cG; first | refine cT ?_ | refine cF ?_ | refine cS (fun _ => ?_) fun _ => ?_) | (apply gW; refine sW ?_) | (apply gI; refine sI ?_) | (apply gE; refine sE ?_) | (apply gP; refine sP ?_) | (apply gC; refine sC ?_) | (apply gD; refine sD ?_) | fail)
  refine O_d (dy_call ArgsI.pf (by first | exact rfl | trivial | (intro a b; rfl)) (Box_ct (a := a) (p := pz))) ?_; rintro _ _ ⟨_, ⟨rfl, hLL⟩, rfl⟩; replace hLL := hLL.symm; subst hLL; refine O_n ?_
  rw [hbe]
  dsimp only
  repeat' (first | refine go ?_ | intro _ | (apply cG; first | refine cT ?_ | refine cF ?_ | refine cS (fun _ => ?_) fun _ => ?_) | (apply gW; refine sW ?_) | (apply gI; refine sI ?_) | (apply gE; refine sE ?_) | (apply gP; refine sP ?_) | (apply gC; refine sC ?_) | (apply gD; refine sD ?_) | fail)
  refine O_d (dy_call ArgsI.pf (by first | exact rfl | trivial | (intro a b; rfl)) (rBox_ct (a := a) (p := pz))) ?_; rintro _ _ ⟨_, ⟨rfl, hLL⟩, rfl⟩; replace hLL := hLL.symm; subst hLL; refine O_n ?_
  rw [hbe]
  dsimp only
  repeat' (first | refine go ?_ | intro _ | (apply cG; first | refine cT ?_ | refine cF ?_ | refine cS (fun _ => ?_) fun _ => ?_) | (apply gW; refine sW ?_) | (apply gI; refine sI ?_) | (apply gE; refine sE ?_) | (apply gP; refine sP ?_) | (apply gC; refine sC ?_) | (apply gD; refine sD ?_) | fail)
  refine O_s (sv_neA (h := eq_bx b)) ?_
  repeat' (first | refine go ?_ | intro _ | (apply cG; first | refine cT ?_ | refine cF ?_ | refine cS (fun _ => ?_) fun _ => ?_) | (apply gW; refine sW ?_) | (apply gI; refine sI ?_) | (apply gE; refine sE ?_) | (apply gP; refine sP ?_) | (apply gC; refine sC ?_) | (apply gD; refine sD ?_) | fail)
  exact E_round (q + 1) hq6 (by omega) ⟨by rw [← hpz]; show Value.int .i64 _ = Value.int .i64 _; congr 1; omega, trivial⟩ Sb
end
theorem LabelBoxes_any {v : Value} {li : List Int} {at_ how by_ : Int} {w : World} (s : St w w [rd eI v li]) (hl : li.length ≤ 9223372036854775807) (hr : ∀ n ∈ li, I64 n) (ha : I64 at_) (hh : I64 how) (hb : I64 by_) :
    Calls Try.prog 3 #[v, .int .i64 at_, .int .i64 how, .int .i64 by_] w fun e w' => e = .returned (.bool true) ∧ Below w.heap.size w w' :=
  ((LabelBoxes_ct (W0 := w) (.head _) hl hr ha hh hb).run w s).mono fun e w' h => by
    obtain ⟨v, L', rfl, ⟨rfl, rfl⟩, s⟩ := h
    exact ⟨rfl, s.below⟩
end Go.Proofs.Yteeapkfakehocaa
namespace Go.Proofs.Yteeapkfakehocaa
open Go Go.RowKit
set_option linter.unusedVariables false
set_option linter.unusedSimpArgs false
def toB (n : Int) : UInt8 := UInt8.ofNat n.toNat
theorem toB_wf {n : Int} (h : (Lit.int .u8 n).wf = true) : ((toB n).toNat : Int) = n := by
  simp [Lit.wf, IntKind.min, IntKind.max, IntKind.signed, IntKind.bits] at h
  unfold toB
  simp
  omega
/-- a row of numbers of one kind, said as the rows' proofs say it -/
theorem row_sl {α : Type} {f : α → Value} {hf : ∀ a, (f a).oneCell' = true} {k : IntKind} {w : World} {a : Option Addr} {len cap : Nat} {zs : List Int} {l : List α} (hl : l.map f = (zs.take len).map (Value.int k)) (hz : zs.length = cap) (hlc : len ≤ cap)
    {x : Addr} (ha : a = some x) (hcell : ∀ i, i < zs.length → w.cell? (x.add i) = some (.int k (zs.getD i 0))) : Sl (Hp.of w) (e1 f hf) (.slice a len cap) l := by
  have hlen : l.length = len := by
    have := congrArg List.length hl
    simp at this
    omega
  subst hlen
  refine ⟨a, cap, l.map fun b => [f b], rfl, hlc, all2_e1.2 rfl, ?_⟩
  by_cases h0 : l = []
  · exact .inl h0
  · right
    have hpos : 0 < l.length := List.length_pos_iff.2 h0
    obtain ⟨b, off, spot⟩ := x
    have h1 := hcell 0 (by omega)
    have hspot : spot = none := by simpa [Addr.add] using World.cell?_spot h1
    subst hspot
    rw [flat_one]
    have hb : ∃ cs t fr, w.heap[b]? = some (.cells cs t fr) := by
      unfold World.cell? at h1
      simp only [Addr.add] at h1
      split at h1
      · rename_i cs t fr he; exact ⟨cs, t, fr, he⟩
      · cases h1
    obtain ⟨cs, t, fr, hb⟩ := hb
    refine ⟨b, off, cs, t, fr, ha, hb, ?_⟩
    intro j u hj
    rw [hl] at hj
    have hjl : j < l.length := by
      have := (List.getElem?_eq_some_iff.1 hj).1
      simp at this
      omega
    have h2 := hcell j (by omega)
    have h3 : w.cell? ⟨b, off + j, none⟩ = some (.int k (zs.getD j 0)) := by
      have e : (Addr.add ⟨b, off, none⟩ j) = ⟨b, off + j, none⟩ := by
        by_cases hj0 : j = 0
        · subst hj0; rfl
        · simp [Addr.add, hj0]
      rw [e] at h2
      exact h2
    have h4 : cs[off + j]? = some (.int k (zs.getD j 0)) := by simpa [World.cell?, hb] using h3
    rw [h4]
    rw [List.getElem?_map, List.getElem?_take, if_pos hjl] at hj
    rw [List.getD_eq_getElem?_getD]
    cases hzz : zs[j]? with
    | none => rw [hzz] at hj; cases hj
    | some z => rw [hzz] at hj; simpa using hj
theorem row_i64 {w : World} {a : Option Addr} {len cap : Nat} {zs : List Int} (h : (a = none ∧ len = 0 ∧ cap = 0 ∧ zs = []) ∨
    ∃ x, a = some x ∧ len ≤ cap ∧ cap ≤ maxLen ∧ zs.length = cap ∧ (∀ i, i < zs.length → w.cell? (x.add i) = some (.int .i64 (zs.getD i 0))) ∧ ∀ n ∈ zs, (Lit.int .i64 n).wf = true) :
    ∃ l : List Int, Sl (Hp.of w) eI (.slice a len cap) l ∧ l.length = len ∧ len ≤ 9223372036854775807 ∧ ∀ n ∈ l, -9223372036854775808 ≤ n ∧ n ≤ 9223372036854775807 := by
  rcases h with ⟨rfl, rfl, rfl, rfl⟩ | ⟨x, ha, hl, hm, hz, hc, hw⟩
  · exact ⟨[], ⟨none, 0, [], rfl, Nat.le_refl _, trivial, .inl rfl⟩, rfl, by omega, by simp⟩
  · unfold maxLen at hm
    refine ⟨zs.take len, row_sl rfl hz hl ha hc, by simp; omega, by omega, fun n hn => ?_⟩
    have := hw n (List.mem_of_mem_take hn)
    simpa [Lit.wf, IntKind.min, IntKind.max, IntKind.signed, IntKind.bits] using this
theorem row_u8 {w : World} {a : Option Addr} {len cap : Nat} {zs : List Int} (h : (a = none ∧ len = 0 ∧ cap = 0 ∧ zs = []) ∨
    ∃ x, a = some x ∧ len ≤ cap ∧ cap ≤ maxLen ∧ zs.length = cap ∧ (∀ i, i < zs.length → w.cell? (x.add i) = some (.int .u8 (zs.getD i 0))) ∧ ∀ n ∈ zs, (Lit.int .u8 n).wf = true) :
    ∃ l : List UInt8, Sl (Hp.of w) eB (.slice a len cap) l ∧ l.length = len ∧ len ≤ 9223372036854775807 := by
  rcases h with ⟨rfl, rfl, rfl, rfl⟩ | ⟨x, ha, hl, hm, hz, hc, hw⟩
  · exact ⟨[], ⟨none, 0, [], rfl, Nat.le_refl _, trivial, .inl rfl⟩, rfl, by omega⟩
  · unfold maxLen at hm
    refine ⟨(zs.take len).map toB, row_sl ?_ hz hl ha hc, by simp; omega, by omega⟩
    rw [List.map_map]
    refine List.map_congr_left fun n hn => ?_
    show bv (toB n) = _
    rw [bv, toB_wf (hw n (List.mem_of_mem_take hn))]
theorem St.mem_ {W : World} {α : Type} {R : Enc α} {v : Value} {l : List α} {L : List HP} (h : Sl (Hp.of W) R v l) (hS : St W W L) : St W W (Go.Proofs.Yteeapkfakehocaa.rd R v l :: L) := hS.old h
end Go.Proofs.Yteeapkfakehocaa
