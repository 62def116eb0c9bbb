/-
  Walks: the examples of package label.
-/
import Derived.Laws.StructEq
import Derived.Test.YteeapkfakehocaaMV
import Derived.Test.YteeapkfakehocaaME
import Derived.Test.YteeapkfakehocaaMQ
namespace Go.Proofs.Yteeapkfakehocaa
open Go Go.RowKit
set_option linter.unusedVariables false
set_option linter.unusedSimpArgs false
set_option maxRecDepth 20000
set_option synthInstance.maxSize 100000
set_option synthInstance.maxHeartbeats 400000
section
variable {W0 : World} {L : List HP}
theorem lives_ct : CT Try.prog 16 #[] W0 L fun r L' => r = .bool true ∧ L' = L := by
  have e1 : placeF [⟨0, 0, 2, 1, 1⟩, ⟨1, 0, 2, 1, 5⟩] [] 100 = ([0, 2], 6, 0) := by decide +kernel
  have e2 : placeF [⟨0, 0, 2, 1, 1⟩, ⟨1, 0, 2, 1, 5⟩] [⟨-9, -9, 9, 0⟩] 100 = ([1, 0], 6, 0) := by decide +kernel
  have e3 : placeF [⟨0, 0, 2, 1, 1⟩, ⟨1, 0, 2, 1, 5⟩] [⟨-9, -9, 9, 9⟩] 100 = ([-1, -1], 0, 0) := by decide +kernel
  refine CT_enter Try.func16 rfl ?_; (simp only [Try.ntmps16, List.size_toArray, List.length_cons, List.length_nil, Nat.reduceAdd, Nat.reduceSub, Array.replicate_succ, Array.replicate_zero, List.push_toArray, List.append_toArray, List.nil_append, List.cons_append])
  repeat' (first | refine go ?_ | intro _ | (apply cG; first | refine cT ?_ | refine cF ?_ | refine cS (fun _ => ?_) fun _ => ?_) | (apply gW; refine sW ?_) | (apply gI; refine sI ?_) | (apply gE; refine sE ?_) | (apply gP; refine sP ?_) | (apply gC; refine sC ?_) | (apply gD; refine sD ?_) | fail)
  refine O_d (dy_litA (R := eAK) [⟨0, 0, 2, 1, 1⟩, ⟨1, 0, 2, 1, 5⟩] [[.int .i64 0, .int .i64 0, .int .i64 2, .int .i64 1, .int .i64 1], [.int .i64 1, .int .i64 0, .int .i64 2, .int .i64 1, .int .i64 5]] (by rfl) (fun m h hs => ⟨rfl, rfl, trivial⟩)) ?_; rintro _ _ ⟨_, rfl, rfl⟩; refine O_n ?_
  repeat' (first | refine go ?_ | intro _ | (apply cG; first | refine cT ?_ | refine cF ?_ | refine cS (fun _ => ?_) fun _ => ?_) | (apply gW; refine sW ?_) | (apply gI; refine sI ?_) | (apply gE; refine sE ?_) | (apply gP; refine sP ?_) | (apply gC; refine sC ?_) | (apply gD; refine sD ?_) | fail)
  rename_i g pb pc
  refine O_frz 2 ?_
  refine O_rdnil eBX none 0 ?_
  refine O_d (dy_call ArgsI.pf (by first | exact rfl | trivial | (intro a b; rfl)) (Place_ct (fuel := 100) (A := some ⟨g, 0, none⟩) (c := 2) (A2 := none) (c2 := 0) (l := [⟨0, 0, 2, 1, 1⟩, ⟨1, 0, 2, 1, 5⟩]) (t := []) (.tail _ (.tail _ (.tail _ (.head _)))) (.head _) (by decide) (.inl (by decide)))) ?_; rintro _ _ ⟨_, ⟨A3, c3, rfl, rfl⟩, rfl⟩; refine O_n ?_
  rw [e1]
  dsimp only
  repeat' (first | refine go ?_ | intro _ | (apply cG; first | refine cT ?_ | refine cF ?_ | refine cS (fun _ => ?_) fun _ => ?_) | (apply gW; refine sW ?_) | (apply gI; refine sI ?_) | (apply gE; refine sE ?_) | (apply gP; refine sP ?_) | (apply gC; refine sC ?_) | (apply gD; refine sD ?_) | fail)
  refine O_d (dy_lit1 (R := eBX) (⟨-9, -9, 9, 0⟩ : BX) (hcs := by rfl) (hel := fun _ _ _ => by rfl)) ?_; rintro _ _ ⟨_, rfl, rfl⟩; refine O_n ?_
  refine O_frz 0 ?_
  rename_i g2
  refine O_d (dy_call ArgsI.pf (by first | exact rfl | trivial | (intro a b; rfl)) (Place_ct (fuel := 100) (A := some ⟨g, 0, none⟩) (c := 2) (A2 := some ⟨g2, 0, none⟩) (c2 := 1) (l := [⟨0, 0, 2, 1, 1⟩, ⟨1, 0, 2, 1, 5⟩]) (t := [⟨-9, -9, 9, 0⟩]) (.tail _ (.tail _ (.tail _ (.tail _ (.tail _ (.head _)))))) (.head _) (by decide) (.inl (by decide)))) ?_; rintro _ _ ⟨_, ⟨A4, c4, rfl, rfl⟩, rfl⟩; refine O_n ?_
  rw [e2]
  dsimp only
  repeat' (first | refine go ?_ | intro _ | (apply cG; first | refine cT ?_ | refine cF ?_ | refine cS (fun _ => ?_) fun _ => ?_) | (apply gW; refine sW ?_) | (apply gI; refine sI ?_) | (apply gE; refine sE ?_) | (apply gP; refine sP ?_) | (apply gC; refine sC ?_) | (apply gD; refine sD ?_) | fail)
  refine O_d (dy_lit1 (R := eBX) (⟨-9, -9, 9, 9⟩ : BX) (hcs := by rfl) (hel := fun _ _ _ => by rfl)) ?_; rintro _ _ ⟨_, rfl, rfl⟩; refine O_n ?_
  refine O_frz 0 ?_
  rename_i g3
  refine O_d (dy_call ArgsI.pf (by first | exact rfl | trivial | (intro a b; rfl)) (Place_ct (fuel := 100) (A := some ⟨g, 0, none⟩) (c := 2) (A2 := some ⟨g3, 0, none⟩) (c2 := 1) (l := [⟨0, 0, 2, 1, 1⟩, ⟨1, 0, 2, 1, 5⟩]) (t := [⟨-9, -9, 9, 9⟩]) (.tail _ (.tail _ (.tail _ (.tail _ (.tail _ (.tail _ (.tail _ (.head _)))))))) (.head _) (by decide) (.inl (by decide)))) ?_; rintro _ _ ⟨_, ⟨A5, c5, rfl, rfl⟩, rfl⟩; refine O_n ?_
  rw [e3]
  dsimp only
  repeat' (first | refine go ?_ | intro _ | (apply cG; first | refine cT ?_ | refine cF ?_ | refine cS (fun _ => ?_) fun _ => ?_) | (apply gW; refine sW ?_) | (apply gI; refine sI ?_) | (apply gE; refine sE ?_) | (apply gP; refine sP ?_) | (apply gC; refine sC ?_) | (apply gD; refine sD ?_) | fail)
  refine O_d (dy_litP (f := iv) (hf := fun _ => rfl) [(0 : Int), 2] (by rfl)) ?_; rintro _ LI' ⟨_, rfl, hLL⟩; replace hLL : LI' = own _ eI _ _ :: _ := hLL; subst hLL; refine O_n ?_
  refine O_d (dy_call ArgsI.pf (by first | exact rfl | trivial | (intro a b; rfl)) (SameInts_ct (la := [0, 2]) (lb := [0, 2]) (q := true) Sc.pf Sc.pf (by decide) (by decide) (decide_eq_true rfl))) ?_; rintro _ _ ⟨_, ⟨rfl, hLL⟩, rfl⟩; replace hLL := hLL.symm; subst hLL; refine O_n ?_
  repeat' (first | refine go ?_ | intro _ | (apply cG; first | refine cT ?_ | refine cF ?_ | refine cS (fun _ => ?_) fun _ => ?_) | (apply gW; refine sW ?_) | (apply gI; refine sI ?_) | (apply gE; refine sE ?_) | (apply gP; refine sP ?_) | (apply gC; refine sC ?_) | (apply gD; refine sD ?_) | fail)
  refine O_d (dy_litP (f := iv) (hf := fun _ => rfl) [(1 : Int), 0] (by rfl)) ?_; rintro _ LI' ⟨_, rfl, hLL⟩; replace hLL : LI' = own _ eI _ _ :: _ := hLL; subst hLL; refine O_n ?_
  refine O_d (dy_call ArgsI.pf (by first | exact rfl | trivial | (intro a b; rfl)) (SameInts_ct (la := [1, 0]) (lb := [1, 0]) (q := true) Sc.pf Sc.pf (by decide) (by decide) (decide_eq_true rfl))) ?_; rintro _ _ ⟨_, ⟨rfl, hLL⟩, rfl⟩; replace hLL := hLL.symm; subst hLL; refine O_n ?_
  repeat' (first | refine go ?_ | intro _ | (apply cG; first | refine cT ?_ | refine cF ?_ | refine cS (fun _ => ?_) fun _ => ?_) | (apply gW; refine sW ?_) | (apply gI; refine sI ?_) | (apply gE; refine sE ?_) | (apply gP; refine sP ?_) | (apply gC; refine sC ?_) | (apply gD; refine sD ?_) | fail)
  refine O_d (dy_litP (f := iv) (hf := fun _ => rfl) [(-1 : Int), -1] (by rfl)) ?_; rintro _ LI' ⟨_, rfl, hLL⟩; replace hLL : LI' = own _ eI _ _ :: _ := hLL; subst hLL; refine O_n ?_
  refine O_d (dy_call ArgsI.pf (by first | exact rfl | trivial | (intro a b; rfl)) (SameInts_ct (la := [-1, -1]) (lb := [-1, -1]) (q := true) Sc.pf Sc.pf (by decide) (by decide) (decide_eq_true rfl))) ?_; rintro _ _ ⟨_, ⟨rfl, hLL⟩, rfl⟩; replace hLL := hLL.symm; subst hLL; refine O_n ?_
  repeat' (first | refine go ?_ | intro _ | (apply cG; first | refine cT ?_ | refine cF ?_ | refine cS (fun _ => ?_) fun _ => ?_) | (apply gW; refine sW ?_) | (apply gI; refine sI ?_) | (apply gE; refine sE ?_) | (apply gP; refine sP ?_) | (apply gC; refine sC ?_) | (apply gD; refine sD ?_) | fail)
  refine E_res1 (by rfl) (by rfl) ⟨rfl, rfl⟩ Sb
end
end Go.Proofs.Yteeapkfakehocaa
namespace Go.Proofs.Yteeapkfakehocaa
open Go Go.RowKit
set_option linter.unusedVariables false
set_option linter.unusedSimpArgs false
section
variable {P : Program} {W0 w : World} {S : List HP} {a : Act} {d : Option Tmp} {ty : TypeId} {pos : String} {aft : Array Edge} {gd : Option (Nat × Bool)} {x y : Operand} {t u : TypeId}
theorem eqF_nil {n : Nat} {xs ys : Array Value} {w : World} : (Op.eqFields n xs ys []).run P w = .ok true w := by
  simp [Op.eqFields]
theorem eqF_cons {n : Nat} {xs ys : Array Value} {f : Field} {fs : List Field} {v v' : Value} {w : World} (hn : f.name ≠ "_") (ha : (part f.type xs f.offset).run P w = .ok v w) (hb : (part f.type ys f.offset).run P w = .ok v' w) (he : (Op.equalIn n f.type v v').run P w = .ok true w) (h : (Op.eqFields n xs ys fs).run P w = .ok true w) :
    (Op.eqFields n xs ys (f :: fs)).run P w = .ok true w := by
  simp only [Op.eqFields, if_pos hn, Sem.run_bind, ha, hb, he, Result.andThen_ok, Bool.not_true, Bool.false_eq_true, if_false]
  exact h
theorem eqA_of {n : Nat} {xs ys : Array Value} {w : World} {fs : Array Field} (hu : P.underlying t = some (.struct fs)) (hp : P.stoodInHeld t = false) (h : (Op.eqFields n xs ys fs.toList).run P w = .ok true w) : (Op.equalIn (n + 1) t (.agg xs) (.agg ys)).run P w = .ok true w := by
  have hf : P.fieldsOf t = fs := by unfold Program.fieldsOf; rw [hu]
  rw [run_equalIn_agg w n t xs ys (by rw [hf]; exact hu) hp, hf]
  exact h
theorem sv_neA {xs ys : Array Value} (hx : a.eval x = .agg xs := by exact Ev.pf) (hy : a.eval y = .agg ys := by exact Ev.pf) (hg : P.eqGuardType P.depth t = false := by kernel_rfl) (h : ∀ w, (Op.equalIn 10000 t (.agg xs) (.agg ys)).run P w = .ok true w) : SV P W0 S ⟨d, .binOp .neq t x y u, ty, pos, aft, gd⟩ a (.bool false) := ⟨fun w _ => by
  unfold execOp
  simp [hx, hy, run_eqGuard_agg (P := P) w .neq t x y xs ys hg, run_neq_struct, h]⟩
theorem sv_eqA {xs ys : Array Value} (hx : a.eval x = .agg xs := by exact Ev.pf) (hy : a.eval y = .agg ys := by exact Ev.pf) (hg : P.eqGuardType P.depth t = false := by kernel_rfl) (h : ∀ w, (Op.equalIn 10000 t (.agg xs) (.agg ys)).run P w = .ok true w) : SV P W0 S ⟨d, .binOp .eql t x y u, ty, pos, aft, gd⟩ a (.bool true) := ⟨fun w _ => by
  unfold execOp
  simp [hx, hy, run_eqGuard_agg (P := P) w .eql t x y xs ys hg, run_eql_struct, h]⟩
theorem eqI_of {n : Nat} {k k' : IntKind} {z : Int} {w : World} (h : P.underlying t = some (.int k')) : (Op.equalIn (n + 1) t (.int k z) (.int k z)).run P w = .ok true w := by
  rw [run_equalIn_int w n t k k' z z h]
  simp
end
end Go.Proofs.Yteeapkfakehocaa
namespace Go.Proofs.Yteeapkfakehocaa
open Go Go.RowKit
set_option linter.unusedVariables false
set_option linter.unusedSimpArgs false
set_option maxRecDepth 20000
set_option synthInstance.maxSize 100000
set_option synthInstance.maxHeartbeats 400000
theorem eq_pt (x y : Int) (n : Nat) (w : World) : (Op.equalIn (n + 2) 30 (.agg #[.int .i64 x, .int .i64 y]) (.agg #[.int .i64 x, .int .i64 y])).run Try.prog w = .ok true w :=
  eqA_of Try.underlying30 (by kernel_rfl) (eqF_cons (v := .int .i64 x) (v' := .int .i64 x) (by decide) (by kernel_rfl) (by kernel_rfl) (eqI_of Try.underlying3) (eqF_cons (v := .int .i64 y) (v' := .int .i64 y) (by decide) (by kernel_rfl) (by kernel_rfl) (eqI_of Try.underlying3) eqF_nil))
theorem eq_bx (b : BX) (w : World) : (Op.equalIn 10000 32 (bxV b) (bxV b)).run Try.prog w = .ok true w :=
  eqA_of Try.underlying32 (by kernel_rfl) (eqF_cons (v := .agg #[.int .i64 b.x0, .int .i64 b.y0]) (v' := .agg #[.int .i64 b.x0, .int .i64 b.y0]) (by decide) (by kernel_rfl) (by kernel_rfl) (eq_pt b.x0 b.y0 9997 w) (eqF_cons (v := .agg #[.int .i64 b.x1, .int .i64 b.y1]) (v' := .agg #[.int .i64 b.x1, .int .i64 b.y1]) (by decide) (by kernel_rfl) (by kernel_rfl) (eq_pt b.x1 b.y1 9997 w) eqF_nil))
section
variable {W0 : World} {L : List HP}
theorem LabelBoxes_ct {v : Value} {li : List Int} {at_ how by_ : Int} (hv : rd eI v li ∈ L) (hl : li.length ≤ 9223372036854775807) (hr : ∀ n ∈ li, I64 n) (ha : I64 at_) (hh : I64 how) (hb : I64 by_) :
    CT Try.prog 3 #[v, .int .i64 at_, .int .i64 how, .int .i64 by_] W0 L fun r L' => r = .bool true ∧ L' = L := by
  refine CT_fact (fun w s => ((Src.sl (.inl hv) s).form)) ?_
  rintro ⟨A0, c0, rfl, hc0⟩
  refine CT.sub ?_ (sub_dup hv)
  refine CT_enter Try.func3 rfl ?_; (simp only [Try.ntmps3, List.size_toArray, List.length_cons, List.length_nil, Nat.reduceAdd, Nat.reduceSub, Array.replicate_succ, Array.replicate_zero, List.push_toArray, List.append_toArray, List.nil_append, List.cons_append])
  repeat' (first | refine go ?_ | intro _ | (apply cG; first | refine cT ?_ | refine cF ?_ | refine cS (fun _ => ?_) fun _ => ?_) | (apply gW; refine sW ?_) | (apply gI; refine sI ?_) | (apply gE; refine sE ?_) | (apply gP; refine sP ?_) | (apply gC; refine sC ?_) | (apply gD; refine sD ?_) | fail)
  refine O_d (dy_call ArgsI.pf (by first | exact rfl | trivial | (intro a b; rfl)) (Some_ct (m := 4) (by repeat (first | exact .head _ | refine .tail _ ?_)) hr hl (by decide))) ?_; rintro _ _ ⟨_, ⟨A1, c1, x, rfl, hx4, hxok, rfl⟩, rfl⟩; refine O_n ?_
  repeat' (first | refine go ?_ | intro _ | (apply cG; first | refine cT ?_ | refine cF ?_ | refine cS (fun _ => ?_) fun _ => ?_) | (apply gW; refine sW ?_) | (apply gI; refine sI ?_) | (apply gE; refine sE ?_) | (apply gP; refine sP ?_) | (apply gC; refine sC ?_) | (apply gD; refine sD ?_) | fail)
  refine O_frz 0 ?_
  refine O_d (dy_call ArgsI.pf (by first | exact rfl | trivial | (intro a b; rfl)) (Spoilt_ct (l := x) (by repeat (first | exact .head _ | refine .tail _ ?_)) (by omega) ha hh hb)) ?_; rintro _ _ ⟨_, ⟨A2, c2, y, rfl, hy4, rfl⟩, rfl⟩; refine O_n ?_
  refine O_frz 0 ?_
  repeat' (first | refine go ?_ | intro _ | (apply cG; first | refine cT ?_ | refine cF ?_ | refine cS (fun _ => ?_) fun _ => ?_) | (apply gW; refine sW ?_) | (apply gI; refine sI ?_) | (apply gE; refine sE ?_) | (apply gP; refine sP ?_) | (apply gC; refine sC ?_) | (apply gD; refine sD ?_) | fail)
  refine O_d (dy_litS (R := eSX eAK) [⟨.slice A1 x.length c1, x⟩, ⟨.slice A2 y.length c2, y⟩] [.slice A1 x.length c1, .slice A2 y.length c2] (by rfl) (fun m h hs => ⟨⟨rfl, rd_mem hs (by repeat (first | exact .head _ | refine .tail _ ?_))⟩, ⟨rfl, rd_mem hs (by repeat (first | exact .head _ | refine .tail _ ?_))⟩, trivial⟩)) ?_; rintro _ _ ⟨g, rfl, rfl⟩; refine O_n ?_
  refine O_frz 0 ?_
  have hz0 : ∀ z ∈ [(⟨.slice A1 x.length c1, x⟩ : SX AK), ⟨.slice A2 y.length c2, y⟩], z.b.length ≤ 4 ∧ ∃ A c, z.v = .slice A z.b.length c := by
    intro z hz
    simp only [List.mem_cons, List.not_mem_nil, or_false] at hz
    rcases hz with rfl | rfl
    · exact ⟨hx4, A1, c1, rfl⟩
    · exact ⟨by dsimp only; omega, A2, c2, rfl⟩
  have hzl : [(⟨.slice A1 x.length c1, x⟩ : SX AK), ⟨.slice A2 y.length c2, y⟩].length = 2 := rfl
  obtain ⟨zs, hzs⟩ : ∃ zs : List (SX AK), [⟨.slice A1 x.length c1, x⟩, ⟨.slice A2 y.length c2, y⟩] = zs := ⟨_, rfl⟩
  rw [hzs] at hz0 hzl ⊢
  clear hzs
  repeat' (first | refine go ?_ | intro _ | (apply cG; first | refine cT ?_ | refine cF ?_ | refine cS (fun _ => ?_) fun _ => ?_) | (apply gW; refine sW ?_) | (apply gI; refine sI ?_) | (apply gE; refine sE ?_) | (apply gP; refine sP ?_) | (apply gC; refine sC ?_) | (apply gD; refine sD ?_) | fail)
  refine C_loopS (κ := Nat) [false, false, false, false, false, false, false, false, true, false, false, true, true, true, true, true, true, true, true, false, false, false, false, false, false, false, false, false, true, true, true, true, true, true, true, true, true, true, true, true, true, true, true, true, true, true, true, true, true, true, true, true, true, true, true, true, true, true, true, true, true, true, true, true, true, true, true, true, true, true, true, true, true, true, true, true, false] (fun k => [(11, .int .i64 (k : Int))]) (fun k => []) (fun k => k ≤ 2) (fun k => 2 - k) 0 (Nat.zero_le _) ⟨rfl, trivial⟩ ?_
  rintro i u hi
  ((try dsimp only); refine C_n ?_; (try simp only [Nat.reduceAdd, Nat.zero_add]))
  by_cases hi2 : i < 2
  rotate_left
  · repeat' (first | refine go ?_ | intro _ | (apply cG; first | refine cT ?_ | refine cF ?_ | refine cS (fun _ => ?_) fun _ => ?_) | (apply gW; refine sW ?_) | (apply gI; refine sI ?_) | (apply gE; refine sE ?_) | (apply gP; refine sP ?_) | (apply gC; refine sC ?_) | (apply gD; refine sD ?_) | fail)
    refine O_d (dy_call ArgsI.pf (by first | exact rfl | trivial | (intro a b; rfl)) (lives_ct)) ?_; rintro _ _ ⟨_, ⟨rfl, hLL⟩, rfl⟩; replace hLL := hLL.symm; subst hLL; refine O_n ?_
    repeat' (first | refine go ?_ | intro _ | (apply cG; first | refine cT ?_ | refine cF ?_ | refine cS (fun _ => ?_) fun _ => ?_) | (apply gW; refine sW ?_) | (apply gI; refine sI ?_) | (apply gE; refine sE ?_) | (apply gP; refine sP ?_) | (apply gC; refine sC ?_) | (apply gD; refine sD ?_) | fail)
    refine E_res1 (by rfl) (by rfl) ⟨rfl, rfl⟩ Sb
  obtain ⟨z, hz⟩ : ∃ z, zs[i]? = some z := ⟨_, List.getElem?_eq_getElem (by omega)⟩
  have haz : At zs i z := ⟨hz⟩
  obtain ⟨hz4, Az, cz, hzv⟩ := hz0 z (List.mem_of_getElem? hz)
  have hec : EncC (eSX eAK) z [.slice Az z.b.length cz] := ⟨fun m cs h => by rw [h.1, hzv]⟩
  refine C_sub (sub_peekX (R := eAK) (.head _) hz) ?_
  rw [hzv]
  repeat' (first | refine go ?_ | intro _ | (apply cG; first | refine cT ?_ | refine cF ?_ | refine cS (fun _ => ?_) fun _ => ?_) | (apply gW; refine sW ?_) | (apply gI; refine sI ?_) | (apply gE; refine sE ?_) | (apply gP; refine sP ?_) | (apply gC; refine sC ?_) | (apply gD; refine sD ?_) | fail)
  refine O_d (dy_call ArgsI.pf (by first | exact rfl | trivial | (intro a b; rfl)) (own_ct (l := z.b) (by repeat (first | exact .head _ | refine .tail _ ?_)) (by omega))) ?_; rintro _ _ ⟨_, ⟨A3, c3, rfl, rfl⟩, rfl⟩; refine O_n ?_
  repeat' (first | refine go ?_ | intro _ | (apply cG; first | refine cT ?_ | refine cF ?_ | refine cS (fun _ => ?_) fun _ => ?_) | (apply gW; refine sW ?_) | (apply gI; refine sI ?_) | (apply gE; refine sE ?_) | (apply gP; refine sP ?_) | (apply gC; refine sC ?_) | (apply gD; refine sD ?_) | fail)
  refine C_loopS (κ := Nat) [false, false, false, false, false, false, false, false, true, false, false, false, false, true, true, true, true, true, true, false, false, false, false, false, false, false, false, false, false, false, false, false, false, false, false, false, false, true, true, true, true, true, true, true, true, true, true, true, true, true, true, true, true, true, true, true, true, true, true, true, true, true, true, true, true, true, true, true, true, true, true, true, true, true, true, true, false] (fun k => [(13, .int .i64 (k : Int))]) (fun k => []) (fun k => k ≤ z.b.length) (fun k => z.b.length - k) 0 (Nat.zero_le _) ⟨rfl, trivial⟩ ?_
  rintro k u2 hk
  ((try dsimp only); refine C_n ?_; (try simp only [Nat.reduceAdd, Nat.zero_add]))
  by_cases hkl : k < z.b.length
  rotate_left
  · repeat' (first | refine go ?_ | intro _ | (apply cG; first | refine cT ?_ | refine cF ?_ | refine cS (fun _ => ?_) fun _ => ?_) | (apply gW; refine sW ?_) | (apply gI; refine sI ?_) | (apply gE; refine sE ?_) | (apply gP; refine sP ?_) | (apply gC; refine sC ?_) | (apply gD; refine sD ?_) | fail)
    exact E_round (i + 1) hi2 (by omega) ⟨rfl, trivial⟩ Sb
  obtain ⟨a, hka⟩ : ∃ a, z.b[k]? = some a := ⟨_, List.getElem?_eq_getElem hkl⟩
  have hak : At z.b k a := ⟨hka⟩
  repeat' (first | refine go ?_ | intro _ | (apply cG; first | refine cT ?_ | refine cF ?_ | refine cS (fun _ => ?_) fun _ => ?_) | (apply gW; refine sW ?_) | (apply gI; refine sI ?_) | (apply gE; refine sE ?_) | (apply gP; refine sP ?_) | (apply gC; refine sC ?_) | (apply gD; refine sD ?_) | fail)
  refine C_loopS (κ := Nat) [false, false, false, false, false, false, false, false, true, false, false, false, false, false, true, true, true, true, true, false, false, false, false, false, false, false, false, false, false, false, false, false, false, false, false, false, false, false, false, false, false, false, false, true, true, true, true, true, true, true, true, true, true, true, true, true, true, true, true, true, true, true, true, true, true, true, true, true, true, true, true, true, true, true, true, true, false] (fun k => [(14, .int .i64 ((k : Int) - 1))]) (fun k => []) (fun k => k ≤ 6) (fun k => 6 - k) 0 (Nat.zero_le _) ⟨rfl, trivial⟩ ?_
  rintro q u3 hq
  ((try dsimp only); refine C_n ?_; (try simp only [Nat.reduceAdd, Nat.zero_add]))
  obtain ⟨pz, hpz⟩ : ∃ pz : Int, (q : Int) - 1 = pz := ⟨_, rfl⟩
  rw [hpz]
  by_cases hq6 : q < 6
  rotate_left
  · repeat' (first | refine go ?_ | intro _ | (apply cG; first | refine cT ?_ | refine cF ?_ | refine cS (fun _ => ?_) fun _ => ?_) | (apply gW; refine sW ?_) | (apply gI; refine sI ?_) | (apply gE; refine sE ?_) | (apply gP; refine sP ?_) | (apply gC; refine sC ?_) | (apply gD; refine sD ?_) | fail)
    exact E_round (k + 1) hkl (by omega) ⟨rfl, trivial⟩ Sb
  obtain ⟨⟨b, e⟩, hbe⟩ : ∃ be, boxF a pz = be := ⟨_, rfl⟩
  repeat' (first | refine go ?_ | intro _ | (apply cG; first | refine cT ?_ | refine cF ?_ | refine cS (fun _ => ?_) fun _ => ?_) | (apply gW; refine sW ?_) | (apply gI; refine sI ?_) | (apply gE; refine sE ?_) | (apply gP; refine sP ?_) | (apply gC; refine sC ?_) | (apply gD; refine sD ?_) | fail)
  refine O_d (dy_call ArgsI.pf (by first | exact rfl | trivial | (intro a b; rfl)) (Box_ct (a := a) (p := pz))) ?_; rintro _ _ ⟨_, ⟨rfl, hLL⟩, rfl⟩; replace hLL := hLL.symm; subst hLL; refine O_n ?_
  rw [hbe]
  dsimp only
  repeat' (first | refine go ?_ | intro _ | (apply cG; first | refine cT ?_ | refine cF ?_ | refine cS (fun _ => ?_) fun _ => ?_) | (apply gW; refine sW ?_) | (apply gI; refine sI ?_) | (apply gE; refine sE ?_) | (apply gP; refine sP ?_) | (apply gC; refine sC ?_) | (apply gD; refine sD ?_) | fail)
  refine O_d (dy_call ArgsI.pf (by first | exact rfl | trivial | (intro a b; rfl)) (rBox_ct (a := a) (p := pz))) ?_; rintro _ _ ⟨_, ⟨rfl, hLL⟩, rfl⟩; replace hLL := hLL.symm; subst hLL; refine O_n ?_
  rw [hbe]
  dsimp only
  repeat' (first | refine go ?_ | intro _ | (apply cG; first | refine cT ?_ | refine cF ?_ | refine cS (fun _ => ?_) fun _ => ?_) | (apply gW; refine sW ?_) | (apply gI; refine sI ?_) | (apply gE; refine sE ?_) | (apply gP; refine sP ?_) | (apply gC; refine sC ?_) | (apply gD; refine sD ?_) | fail)
  refine O_s (sv_neA (h := eq_bx b)) ?_
  repeat' (first | refine go ?_ | intro _ | (apply cG; first | refine cT ?_ | refine cF ?_ | refine cS (fun _ => ?_) fun _ => ?_) | (apply gW; refine sW ?_) | (apply gI; refine sI ?_) | (apply gE; refine sE ?_) | (apply gP; refine sP ?_) | (apply gC; refine sC ?_) | (apply gD; refine sD ?_) | fail)
  exact E_round (q + 1) hq6 (by omega) ⟨by rw [← hpz]; show Value.int .i64 _ = Value.int .i64 _; congr 1; omega, trivial⟩ Sb
end
theorem LabelBoxes_any {v : Value} {li : List Int} {at_ how by_ : Int} {w : World} (s : St w w [rd eI v li]) (hl : li.length ≤ 9223372036854775807) (hr : ∀ n ∈ li, I64 n) (ha : I64 at_) (hh : I64 how) (hb : I64 by_) :
    Calls Try.prog 3 #[v, .int .i64 at_, .int .i64 how, .int .i64 by_] w fun e w' => e = .returned (.bool true) ∧ Below w.heap.size w w' :=
  ((LabelBoxes_ct (W0 := w) (.head _) hl hr ha hh hb).run w s).mono fun e w' h => by
    obtain ⟨v, L', rfl, ⟨rfl, rfl⟩, s⟩ := h
    exact ⟨rfl, s.below⟩
end Go.Proofs.Yteeapkfakehocaa
namespace Go.Proofs.Yteeapkfakehocaa
open Go Go.RowKit
set_option linter.unusedVariables false
set_option linter.unusedSimpArgs false
theorem flat_rep {α : Type} {l : List α} (hl : 0 < l.length) : ∀ (n i : Nat), (List.replicate n l).flatten[i]? = if i < n * l.length then l[i % l.length]? else none
  | 0, i => by simp
  | n + 1, i => by
    rw [List.replicate_succ, List.flatten_cons, List.getElem?_append]
    by_cases h : i < l.length
    · rw [if_pos h, if_pos (by rw [Nat.succ_mul]; omega), Nat.mod_eq_of_lt h]
    · rw [if_neg h, flat_rep hl n (i - l.length), Nat.succ_mul]
      have e : (i - l.length) % l.length = i % l.length := (Nat.mod_eq_sub_mod (by omega)).symm
      rw [e]
      by_cases h2 : i - l.length < n * l.length
      · rw [if_pos h2, if_pos (by omega)]
      · rw [if_neg h2, if_neg (by omega)]
theorem made_flat (z : Array Value) (n : Nat) (hz : 0 < z.size) : (madeCells z (n * z.size)).toList = (List.replicate n z.toList).flatten := by
  apply List.ext_getElem?
  intro i
  rw [flat_rep (by simpa using hz)]
  simp only [madeCells, Array.toList_map, Array.toList_range, List.getElem?_map, Array.length_toList]
  by_cases h : i < n * z.size
  · rw [if_pos h, List.getElem?_range h]
    have hm : i % z.size < z.size := Nat.mod_lt _ hz
    simp [hm]
  · rw [if_neg h, List.getElem?_eq_none (by simpa using h)]
    rfl
section
variable {P : Program} {W0 w : World} {L L' S : List HP} {a : Act} {Q : Exit → Act → World → Prop}
theorem dy_makeN {t e ty : TypeId} {zv : Value} {sz by_ n : Nat} {x y : Operand} {d : Option Tmp} {pos : String} {aft : Array Edge} {gd : Option (Nat × Bool)} {k1 k2 : IntKind} {α : Type} {R : Enc α} {g : α → List Value} (el : α) (hg : ∀ m x cs, R.r m x cs ↔ cs = g x := by exact EncF.pf) [ut : UL P t (.slice e)] [ti : TI P e zv sz by_] (hz : zv.cells.toList = g el := by rfl) (hx : a.eval x = .int k1 (n : Int) := by exact Ev.pf) (hy : a.eval y = .int k2 (n : Int) := by exact Ev.pf) (hb : by_ * n ≤ 281474976710656 := by omega) (hn : n ≤ 1000000000 := by omega) (hR : R.sz = sz := by rfl) (h0 : 0 < sz := by decide) :
    DY P W0 L ⟨d, .makeSlice t x y, ty, pos, aft, gd⟩ a fun a' L' => ∃ b, a.put d (.slice (some ⟨b, 0, none⟩) n n) = a' ∧ L' = own e R (.slice (some ⟨b, 0, none⟩) n n) (List.replicate n el) :: L :=
  dy_val fun w s => by
    obtain ⟨i, hi, hzz, hsz, hby⟩ := ti.pf
    have hlen : zv.cells.size = sz := by
      have := R.len ((hg (Hp.none) el (g el)).2 rfl)
      rw [← hR, ← this, ← hz]; simp
    have hb' : (i.bytes : Int) * (n : Int) ≤ 281474976710656 := by
      have h : ((i.bytes * n : Nat) : Int) ≤ 281474976710656 := by rw [hby]; omega
      rwa [Int.natCast_mul] at h
    have hr := run_make (P := P) w t e i zv ut.pf hi hzz k1 k2 n n (by omega) (Int.le_refl _) hb' (by omega)
    rw [Int.toNat_natCast, hsz] at hr
    refine ⟨_, w.alloc (.cells (madeCells zv.cells (n * sz)) e), _, by unfold execOp; simp only [hx, hy, Sem.run_bind, hr, Result.andThen_ok, Sem.run_pure], ⟨w.heap.size, rfl, rfl⟩, ?_⟩
    refine (s.alloc (.cells (madeCells zv.cells (n * sz)) e)).imp fun m h hh => ⟨(List.replicate n el).map g, (all2_f hg).2 rfl, .inr ⟨w.heap.size, n, madeCells zv.cells (n * sz), by rw [List.length_replicate], hh, by rw [List.length_replicate]; exact Nat.le_refl _, by unfold maxLen; omega, ?_, ?_⟩⟩
    · rw [size_madeCells, hR]
    · rw [List.length_replicate, hR, List.map_replicate, ← hlen, made_flat _ _ (by omega), hz]
      refine List.take_of_length_le ?_
      have := flat_len (sz := sz) (css := List.replicate n (g el)) (fun c hc => by rw [List.eq_of_mem_replicate hc, ← hz]; simp [hlen])
      rw [this, List.length_replicate, hlen]
      exact Nat.le_refl _
theorem D_frz (i : Nat) {n : Nat} {l : List Oper} {br : Bool} {r : List (Nat × Nat)} {α : Type} {E : TypeId} {R : Enc α} {v : Value} {ls : List α} (k : DL P W0 S n l Q br r L' a) (h : L[i]? = some (own E R v ls) := by rfl) (hL : L.set i (rd R v ls) = L' := by exact SAt.pf) : DL P W0 S n l Q br r L a := by
  subst hL
  exact ⟨fun w s => k.run w (s.frz h)⟩
end
end Go.Proofs.Yteeapkfakehocaa
