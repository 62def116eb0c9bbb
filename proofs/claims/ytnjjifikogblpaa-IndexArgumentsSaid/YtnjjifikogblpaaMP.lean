/-
  Four pointers compared with no pointers; how many entries a map has. No program.
-/
import Derived.Test.YtnjjifikogblpaaMK
import Derived.Test.YtnjjifikogblpaaMO
namespace Go.Proofs.Ytnjjifikogblpaa
open Go Go.RowKit Go.Instr
set_option linter.unusedVariables false
set_option linter.unusedSimpArgs false
section
variable {P : Program} {W0 w : World} {L S : List HP} {a : Act} {d : Option Tmp} {ty : TypeId} {pos : String} {aft : Array Edge} {gd : Option (Nat × Bool)} {kt et el : TypeId} {zv : Value} {by_ : Nat}
theorem part_ptr (hu : P.underlying et = some (.pointer el)) {cs : Array Value} {o : Nat} {v : Value} (h : cs[o]? = some v) : (part et cs o).run P w = .ok v w := by
  unfold part
  simp [isAgg_run hu, aggD, h]
theorem eq_ptr1 (hu : P.underlying et = some (.pointer el)) (o : Option Addr) (n : Nat) (w : World) : (Op.equalIn (n + 1) et (.pointer o) (.pointer none)).run P w = .ok o.isNone w := by
  unfold Op.equalIn
  simp only [Sem.run_bind, run_underlying hu, Result.andThen_ok]
  cases o <;> rfl
theorem eq_ptr4 (hk : P.underlying kt = some (.array 4 et)) (hu : P.underlying et = some (.pointer el)) [ti : TI P et zv 1 by_] (o0 o1 o2 o3 : Option Addr) (w : World) :
    (Op.equalIn 10000 kt (.agg #[.pointer o0, .pointer o1, .pointer o2, .pointer o3]) (.agg #[.pointer none, .pointer none, .pointer none, .pointer none])).run P w = .ok (o0.isNone && o1.isNone && o2.isNone && o3.isNone) w := by
  have he : ∀ (o : Option Addr) (w : World), (Op.equalIn 9999 et (.pointer o) (.pointer none)).run P w = .ok o.isNone w := fun o w => eq_ptr1 hu o 9998 w
  have p0 : ∀ (a b c d : Value) (w : World), (part et #[a, b, c, d] 0).run P w = .ok a w := fun _ _ _ _ w => part_ptr hu rfl
  have p1 : ∀ (a b c d : Value) (w : World), (part et #[a, b, c, d] 1).run P w = .ok b w := fun _ _ _ _ w => part_ptr hu rfl
  have p2 : ∀ (a b c d : Value) (w : World), (part et #[a, b, c, d] 2).run P w = .ok c w := fun _ _ _ _ w => part_ptr hu rfl
  have p3 : ∀ (a b c d : Value) (w : World), (part et #[a, b, c, d] 3).run P w = .ok d w := fun _ _ _ _ w => part_ptr hu rfl
  unfold Op.equalIn
  simp only [Sem.run_bind, run_underlying hk, Result.andThen_ok, sizeOf_run (P := P) (t := et)]
  simp only [Std.Legacy.Range.forIn_eq_forIn_range', Std.Legacy.Range.size, Nat.sub_zero, Nat.add_one_sub_one, Nat.div_one, List.range', List.forIn_cons, List.forIn_nil, Sem.run_bind, Nat.zero_mul, Nat.mul_one, Nat.zero_add, p0, p1, p2, p3, Result.andThen_ok, he]
  cases o0 with
  | some => simp
  | none => cases o1 with
    | some => simp [he, p1, p2, p3]
    | none => cases o2 with
      | some => simp [he, p1, p2, p3]
      | none => cases o3 <;> simp [he, p1, p2, p3]
theorem sv_eqR {t u : TypeId} {x y : Operand} {xs ys : Array Value} {r : Bool} (hx : a.eval x = .agg xs := by exact Ev.pf) (hy : a.eval y = .agg ys := by exact Ev.pf) (hg : P.eqGuardType P.depth t = false := by kernel_rfl) (h : ∀ w, (Op.equalIn 10000 t (.agg xs) (.agg ys)).run P w = .ok r w) : SV P W0 S ⟨d, .binOp .eql t x y u, ty, pos, aft, gd⟩ a (.bool r) := ⟨fun w _ => by
  unfold execOp
  simp [hx, hy, run_eqGuard_agg (P := P) w .eql t x y xs ys hg, run_eql_struct, h]⟩
theorem sv_neR {t u : TypeId} {x y : Operand} {xs ys : Array Value} {r : Bool} (hx : a.eval x = .agg xs := by exact Ev.pf) (hy : a.eval y = .agg ys := by exact Ev.pf) (hg : P.eqGuardType P.depth t = false := by kernel_rfl) (h : ∀ w, (Op.equalIn 10000 t (.agg xs) (.agg ys)).run P w = .ok r w) : SV P W0 S ⟨d, .binOp .neq t x y u, ty, pos, aft, gd⟩ a (.bool (!r)) := ⟨fun w _ => by
  unfold execOp
  simp [hx, hy, run_eqGuard_agg (P := P) w .neq t x y xs ys hg, run_neq_struct, h]⟩
theorem sv_lenM {α : Type} {R : MEnc α} {b : Nat} {l : List (Int × α)} {t kt et : TypeId} {x : Operand} [ut : UL P t (.map kt et)] (hm : mapo R b l ∈ S) (hx : a.eval x = .map (some b) := by exact Ev.pf) : SV P W0 S ⟨d, .call { callee := .builtin .len, args := #[x], argTypes := #[t] }, ty, pos, aft, gd⟩ a (.int .i64 (l.length : Int)) := ⟨fun w s => by
  obtain ⟨L0, hp⟩ := s.mem hm
  obtain ⟨es, clock, m, hb, h⟩ := (s.perm hp).map_
  have hl : es.size = l.length := by have := h.length; simpa using this.symm
  unfold execOp
  simp [resolve, invoke, builtin, Builtin.len_, hx, run_underlying ut.pf, MapKept.run_getObj_map hb, hl, goInt]⟩
end
end Go.Proofs.Ytnjjifikogblpaa
namespace Go.Proofs.Ytnjjifikogblpaa
open Go Go.RowKit
set_option linter.unusedVariables false
set_option linter.unusedSimpArgs false
set_option maxRecDepth 20000
set_option synthInstance.maxSize 100000
set_option synthInstance.maxHeartbeats 400000
/-- what dropping needs -/
structure DropH (n : Nat) (E : List Ent) (e : Ent) : Prop where
  u : KeysU E
  m : e ∈ E
  l : ∀ a ∈ E, a.2.b.good ∧ lvB a.2.b ≤ n
  n : n ≤ 32
theorem DropH.kid {n q : Nat} {E : List Ent} {e : Ent} (h : DropH (n + 1) E e) (hl : lvB e.2.b < n + 1) (hq : qB e.2.b (n + 1) = q) : DropH n (E.filter (inQ (n + 1) q)) e where
  u := h.u.filter _
  m := List.mem_filter.2 ⟨h.m, decide_eq_true ⟨hl, hq⟩⟩
  l := fun a ha => by
    obtain ⟨h1, h2⟩ := List.mem_filter.1 ha
    have h3 := (of_decide_eq_true h2).1
    exact ⟨(h.l a h1).1, by omega⟩
  n := by have := h.n; omega
def isN : QT → Bool
  | .nil => true
  | .nd .. => false
theorem isN_iff {t : QT} : isN t = true ↔ t = .nil := by cases t <;> simp [isN]
def QT.adr : QT → Option Addr
  | .nil => none
  | .nd p _ _ _ _ _ _ => some ⟨p, 0, none⟩
theorem val_adr (t : QT) : t.val = .pointer t.adr := by cases t <;> rfl
theorem isN_adr (t : QT) : isN t = t.adr.isNone := by cases t <;> rfl
theorem eq_kids {k0 k1 k2 k3 : QT} (w : World) : (Op.equalIn 10000 76 (.agg #[k0.val, k1.val, k2.val, k3.val]) (.agg #[.pointer none, .pointer none, .pointer none, .pointer none])).run Try.prog w = .ok (isN k0 && isN k1 && isN k2 && isN k3) w := by
  rw [val_adr, val_adr, val_adr, val_adr, isN_adr, isN_adr, isN_adr, isN_adr]
  exact eq_ptr4 Try.underlying76 Try.underlying65 _ _ _ _ w
section
variable {W0 : World} {L : List HP}
def DropT (W0 : World) (d : Nat) : Prop := ∀ (n : Nat) (t : QT) (E : List Ent) (e : Ent) (L : List HP), QOk t n E → DropH n E e → lvB e.2.b + d = n →
    CT Try.prog 45 #[t.val, .int .i64 (n : Int), bkV (lvB e.2.b) (X0 e.2.b / 2 ^ lvB e.2.b) (Y0 e.2.b / 2 ^ lvB e.2.b), .int .i64 e.1] W0 (qta t :: L) fun r L' => ∃ t', QOk t' n (delE e.1 E) ∧ r = t'.val ∧ L' = qta t' :: L
set_option maxHeartbeats 4000000 in
theorem drop_step {d : Nat} (ih : ∀ d', d' + 1 = d → DropT W0 d') {n : Nat} {t : QT} {E : List Ent} {e : Ent} {L : List HP} (ht : QOk t n E) (hp : DropH n E e) (hd : lvB e.2.b + d = n) :
    CT Try.prog 45 #[t.val, .int .i64 (n : Int), bkV (lvB e.2.b) (X0 e.2.b / 2 ^ lvB e.2.b) (Y0 e.2.b / 2 ^ lvB e.2.b), .int .i64 e.1] W0 (qta t :: L) fun r L' => ∃ t', QOk t' n (delE e.1 E) ∧ r = t'.val ∧ L' = qta t' :: L := by
  obtain ⟨hu, hm, hal, hn⟩ := id hp
  obtain ⟨hg, hl⟩ := hal e hm
  cases t with
  | nil =>
    obtain rfl : E = [] := ht
    exact absurd hm List.not_mem_nil
  | nd p m mm k0 k1 k2 k3 =>
  have hpre := ht.pre
  refine CT.sub ?_ qta_open
  show CT _ _ #[.pointer (some ⟨p, 0, none⟩), _, _, _] _ _ _
  refine CT_enter Try.func45 rfl ?_; (simp only [Try.ntmps45, List.size_toArray, List.length_cons, List.length_nil, Nat.reduceAdd, Nat.reduceSub, Array.replicate_succ, Array.replicate_zero, List.push_toArray, List.append_toArray, List.nil_append, List.cons_append])
  repeat' (first | ((fail_if_success apply AtE); refine go ?_) | intro _ | (apply cG; first | refine cT ?_ | refine cF ?_ | refine cS (fun _ => ?_) fun _ => ?_) | (apply gW; refine sW ?_) | (apply gI; refine sI ?_) | (apply gE; refine sE ?_) | (apply gP; refine sP ?_) | (apply gC; refine sC ?_) | (apply gD; refine sD ?_) | fail)
  rename_i pb
  refine go ?_
  refine go ?_
  refine C_joinL (κ := List Ent × QT × QT × QT × QT) (fun k => ndC p m k.2.1 k.2.2.1 k.2.2.2.1 k.2.2.2.2 :: mapo mIT m k.1 :: qta k.2.1 :: qta k.2.2.1 :: qta k.2.2.2.1 :: qta k.2.2.2.2 :: L) [false, false, false, false, false, false, false, false, false, true, true, true, true, true, true, true, true, true, true, true, true, true, true, true, true, true, true, true, true, true, true, true, true, true, true, true, true, true, false, false, false, false, false, false, false, false, false, false, false, false, false, false, false] (fun k => []) (fun k => QPre k.1 k.2.1 k.2.2.1 k.2.2.2.1 k.2.2.2.2 n (delE e.1 E)) ?_ ?_
  · by_cases hd0 : d = 0
    · subst hd0
      repeat' (first | refine go ?_ | intro _ | (apply cG; first | refine cT ?_ | refine cF ?_ | refine cS (fun _ => ?_) fun _ => ?_) | (apply gW; refine sW ?_) | (apply gI; refine sI ?_) | (apply gE; refine sE ?_) | (apply gP; refine sP ?_) | (apply gC; refine sC ?_) | (apply gD; refine sD ?_) | fail)
      refine O_d (dy_del (R := mIT) (i := 2) (k := e.1) rfl Ev.pf Ev.pf) ?_; rintro _ _ ⟨rfl, hLL⟩; replace hLL := hLL.trans SAt.pf; subst hLL; refine O_n ?_
      repeat' (first | refine go ?_ | intro _ | (apply cG; first | refine cT ?_ | refine cF ?_ | refine cS (fun _ => ?_) fun _ => ?_) | (apply gW; refine sW ?_) | (apply gI; refine sI ?_) | (apply gE; refine sE ?_) | (apply gP; refine sP ?_) | (apply gC; refine sC ?_) | (apply gD; refine sD ?_) | fail)
      exact E_join (delM e.1 mm, k0, k1, k2, k3) (ht.del_here hu hm hd (delM_eq ((hu.filter _).perm hpre.mm.symm))) trivial Sb
    obtain ⟨d', rfl⟩ : ∃ d', d = d' + 1 := ⟨d - 1, by omega⟩
    have IH := ih d' rfl
    obtain ⟨n', rfl⟩ : ∃ n', n = n' + 1 := ⟨n - 1, by omega⟩
    have hq4 := qB_lt e.2.b (n' + 1)
    have hn1 : ((n' + 1 : Nat) : Int) - 1 = (n' : Int) := by omega
    have hlt : lvB e.2.b < n' + 1 := by omega
    repeat' (first | refine go ?_ | intro _ | (apply cG; first | refine cT ?_ | refine cF ?_ | refine cS (fun _ => ?_) fun _ => ?_) | (apply gW; refine sW ?_) | (apply gI; refine sI ?_) | (apply gE; refine sE ?_) | (apply gP; refine sP ?_) | (apply gC; refine sC ?_) | (apply gD; refine sD ?_) | fail)
    refine O_d (dy_call ArgsI.pf (by first | exact rfl | trivial | (intro a b; rfl)) (quarter_ct (n := n' + 1) hg hlt hn)) ?_; rintro _ _ ⟨_, ⟨rfl, hLL⟩, rfl⟩; replace hLL := hLL.symm; subst hLL; refine O_n ?_
    obtain ⟨q, hq⟩ : ∃ q, qB e.2.b (n' + 1) = q := ⟨_, rfl⟩
    rw [hq] at hq4 ⊢
    rcases (show q = 0 ∨ q = 1 ∨ q = 2 ∨ q = 3 by omega) with rfl | rfl | rfl | rfl
    · repeat' (first | refine go ?_ | intro _ | (apply cG; first | refine cT ?_ | refine cF ?_ | refine cS (fun _ => ?_) fun _ => ?_) | (apply gW; refine sW ?_) | (apply gI; refine sI ?_) | (apply gE; refine sE ?_) | (apply gP; refine sP ?_) | (apply gC; refine sC ?_) | (apply gD; refine sD ?_) | fail)
      refine C_draw (n := 16) [cel p [k0.val, k1.val, k2.val, k3.val, .map (some m)] 78, cel pb [.int .i64 (lvB e.2.b : Int), .int .i64 ((X0 e.2.b / 2 ^ lvB e.2.b : Nat) : Int), .int .i64 ((Y0 e.2.b / 2 ^ lvB e.2.b : Nat) : Int)] 74] [(0, 1), (1, 1), (2, 1), (3, 1), (4, 1), (5, 1), (6, 1), (7, 1), (8, 1), (9, 1), (10, 1), (11, 1), (13, 1), (14, 1), (12, 0), (15, 1), (16, 0)] (by kernel_rfl) (by kernel_rfl) Sb ?_
      repeat' (first | refine go ?_ | intro _ | (apply cG; first | refine cT ?_ | refine cF ?_ | refine cS (fun _ => ?_) fun _ => ?_) | (apply gW; refine sW ?_) | (apply gI; refine sI ?_) | (apply gE; refine sE ?_) | (apply gP; refine sP ?_) | (apply gC; refine sC ?_) | (apply gD; refine sD ?_) | fail)
      refine D_op rfl ?_; refine X_s (sv_idxA (e := 65) (len := 4) (size := 1) (k := .i64) (i := ((0 : Nat) : Int)) (off := 0) (o2 := 0) (by kernel_rfl) (fun w => by kernel_rfl) Ev.pf Ev.pf (by decide) (by decide) (by decide)) ?_
      repeat' (first | refine go ?_ | intro _ | (apply cG; first | refine cT ?_ | refine cF ?_ | refine cS (fun _ => ?_) fun _ => ?_) | (apply gW; refine sW ?_) | (apply gI; refine sI ?_) | (apply gE; refine sE ?_) | (apply gP; refine sP ?_) | (apply gC; refine sC ?_) | (apply gD; refine sD ?_) | fail)
      rw [hn1]
      refine D_op rfl ?_; refine X_d (dy_call ArgsI.pf (by first | exact rfl | trivial | (intro a b; rfl)) (CT.pull (i := 3) (by rfl) (IH n' k0 (E.filter (inQ (n' + 1) 0)) e _ hpre.a (hp.kid hlt hq) (by omega)))) ?_; rintro _ _ ⟨_, ⟨t', ht', rfl, rfl⟩, rfl⟩; refine ⟨(by first | exact .inl rfl | exact .inr Sb), D_n ?_⟩
      repeat' (first | refine go ?_ | intro _ | (apply cG; first | refine cT ?_ | refine cF ?_ | refine cS (fun _ => ?_) fun _ => ?_) | (apply gW; refine sW ?_) | (apply gI; refine sI ?_) | (apply gE; refine sE ?_) | (apply gP; refine sP ?_) | (apply gC; refine sC ?_) | (apply gD; refine sD ?_) | fail)
      refine D_op rfl ?_; refine X_s (sv_idxA (e := 65) (len := 4) (size := 1) (k := .i64) (i := ((0 : Nat) : Int)) (off := 0) (o2 := 0) (by kernel_rfl) (fun w => by kernel_rfl) Ev.pf Ev.pf (by decide) (by decide) (by decide)) ?_
      repeat' (first | refine go ?_ | intro _ | (apply cG; first | refine cT ?_ | refine cF ?_ | refine cS (fun _ => ?_) fun _ => ?_) | (apply gW; refine sW ?_) | (apply gI; refine sI ?_) | (apply gE; refine sE ?_) | (apply gP; refine sP ?_) | (apply gC; refine sC ?_) | (apply gD; refine sD ?_) | fail)
      exact E_join (mm, t', k1, k2, k3) (ht.del_kid (q := 0) hu hm hlt hq ht' rfl rfl rfl) trivial Sb
    · repeat' (first | refine go ?_ | intro _ | (apply cG; first | refine cT ?_ | refine cF ?_ | refine cS (fun _ => ?_) fun _ => ?_) | (apply gW; refine sW ?_) | (apply gI; refine sI ?_) | (apply gE; refine sE ?_) | (apply gP; refine sP ?_) | (apply gC; refine sC ?_) | (apply gD; refine sD ?_) | fail)
      refine C_draw (n := 16) [cel p [k0.val, k1.val, k2.val, k3.val, .map (some m)] 78, cel pb [.int .i64 (lvB e.2.b : Int), .int .i64 ((X0 e.2.b / 2 ^ lvB e.2.b : Nat) : Int), .int .i64 ((Y0 e.2.b / 2 ^ lvB e.2.b : Nat) : Int)] 74] [(0, 1), (1, 1), (2, 1), (3, 1), (4, 1), (5, 1), (6, 1), (7, 1), (8, 1), (9, 1), (10, 1), (11, 1), (13, 1), (14, 1), (12, 0), (15, 1), (16, 0)] (by kernel_rfl) (by kernel_rfl) Sb ?_
      repeat' (first | refine go ?_ | intro _ | (apply cG; first | refine cT ?_ | refine cF ?_ | refine cS (fun _ => ?_) fun _ => ?_) | (apply gW; refine sW ?_) | (apply gI; refine sI ?_) | (apply gE; refine sE ?_) | (apply gP; refine sP ?_) | (apply gC; refine sC ?_) | (apply gD; refine sD ?_) | fail)
      refine D_op rfl ?_; refine X_s (sv_idxA (e := 65) (len := 4) (size := 1) (k := .i64) (i := ((1 : Nat) : Int)) (off := 0) (o2 := 1) (by kernel_rfl) (fun w => by kernel_rfl) Ev.pf Ev.pf (by decide) (by decide) (by decide)) ?_
      repeat' (first | refine go ?_ | intro _ | (apply cG; first | refine cT ?_ | refine cF ?_ | refine cS (fun _ => ?_) fun _ => ?_) | (apply gW; refine sW ?_) | (apply gI; refine sI ?_) | (apply gE; refine sE ?_) | (apply gP; refine sP ?_) | (apply gC; refine sC ?_) | (apply gD; refine sD ?_) | fail)
      rw [hn1]
      refine D_op rfl ?_; refine X_d (dy_call ArgsI.pf (by first | exact rfl | trivial | (intro a b; rfl)) (CT.pull (i := 4) (by rfl) (IH n' k1 (E.filter (inQ (n' + 1) 1)) e _ hpre.b (hp.kid hlt hq) (by omega)))) ?_; rintro _ _ ⟨_, ⟨t', ht', rfl, rfl⟩, rfl⟩; refine ⟨(by first | exact .inl rfl | exact .inr Sb), D_n ?_⟩
      repeat' (first | refine go ?_ | intro _ | (apply cG; first | refine cT ?_ | refine cF ?_ | refine cS (fun _ => ?_) fun _ => ?_) | (apply gW; refine sW ?_) | (apply gI; refine sI ?_) | (apply gE; refine sE ?_) | (apply gP; refine sP ?_) | (apply gC; refine sC ?_) | (apply gD; refine sD ?_) | fail)
      refine D_op rfl ?_; refine X_s (sv_idxA (e := 65) (len := 4) (size := 1) (k := .i64) (i := ((1 : Nat) : Int)) (off := 0) (o2 := 1) (by kernel_rfl) (fun w => by kernel_rfl) Ev.pf Ev.pf (by decide) (by decide) (by decide)) ?_
      repeat' (first | refine go ?_ | intro _ | (apply cG; first | refine cT ?_ | refine cF ?_ | refine cS (fun _ => ?_) fun _ => ?_) | (apply gW; refine sW ?_) | (apply gI; refine sI ?_) | (apply gE; refine sE ?_) | (apply gP; refine sP ?_) | (apply gC; refine sC ?_) | (apply gD; refine sD ?_) | fail)
      exact E_join (mm, k0, t', k2, k3) (ht.del_kid (q := 1) hu hm hlt hq rfl ht' rfl rfl) trivial Sb
    · repeat' (first | refine go ?_ | intro _ | (apply cG; first | refine cT ?_ | refine cF ?_ | refine cS (fun _ => ?_) fun _ => ?_) | (apply gW; refine sW ?_) | (apply gI; refine sI ?_) | (apply gE; refine sE ?_) | (apply gP; refine sP ?_) | (apply gC; refine sC ?_) | (apply gD; refine sD ?_) | fail)
      refine C_draw (n := 16) [cel p [k0.val, k1.val, k2.val, k3.val, .map (some m)] 78, cel pb [.int .i64 (lvB e.2.b : Int), .int .i64 ((X0 e.2.b / 2 ^ lvB e.2.b : Nat) : Int), .int .i64 ((Y0 e.2.b / 2 ^ lvB e.2.b : Nat) : Int)] 74] [(0, 1), (1, 1), (2, 1), (3, 1), (4, 1), (5, 1), (6, 1), (7, 1), (8, 1), (9, 1), (10, 1), (11, 1), (13, 1), (14, 1), (12, 0), (15, 1), (16, 0)] (by kernel_rfl) (by kernel_rfl) Sb ?_
      repeat' (first | refine go ?_ | intro _ | (apply cG; first | refine cT ?_ | refine cF ?_ | refine cS (fun _ => ?_) fun _ => ?_) | (apply gW; refine sW ?_) | (apply gI; refine sI ?_) | (apply gE; refine sE ?_) | (apply gP; refine sP ?_) | (apply gC; refine sC ?_) | (apply gD; refine sD ?_) | fail)
      refine D_op rfl ?_; refine X_s (sv_idxA (e := 65) (len := 4) (size := 1) (k := .i64) (i := ((2 : Nat) : Int)) (off := 0) (o2 := 2) (by kernel_rfl) (fun w => by kernel_rfl) Ev.pf Ev.pf (by decide) (by decide) (by decide)) ?_
      repeat' (first | refine go ?_ | intro _ | (apply cG; first | refine cT ?_ | refine cF ?_ | refine cS (fun _ => ?_) fun _ => ?_) | (apply gW; refine sW ?_) | (apply gI; refine sI ?_) | (apply gE; refine sE ?_) | (apply gP; refine sP ?_) | (apply gC; refine sC ?_) | (apply gD; refine sD ?_) | fail)
      rw [hn1]
      refine D_op rfl ?_; refine X_d (dy_call ArgsI.pf (by first | exact rfl | trivial | (intro a b; rfl)) (CT.pull (i := 5) (by rfl) (IH n' k2 (E.filter (inQ (n' + 1) 2)) e _ hpre.c (hp.kid hlt hq) (by omega)))) ?_; rintro _ _ ⟨_, ⟨t', ht', rfl, rfl⟩, rfl⟩; refine ⟨(by first | exact .inl rfl | exact .inr Sb), D_n ?_⟩
      repeat' (first | refine go ?_ | intro _ | (apply cG; first | refine cT ?_ | refine cF ?_ | refine cS (fun _ => ?_) fun _ => ?_) | (apply gW; refine sW ?_) | (apply gI; refine sI ?_) | (apply gE; refine sE ?_) | (apply gP; refine sP ?_) | (apply gC; refine sC ?_) | (apply gD; refine sD ?_) | fail)
      refine D_op rfl ?_; refine X_s (sv_idxA (e := 65) (len := 4) (size := 1) (k := .i64) (i := ((2 : Nat) : Int)) (off := 0) (o2 := 2) (by kernel_rfl) (fun w => by kernel_rfl) Ev.pf Ev.pf (by decide) (by decide) (by decide)) ?_
      repeat' (first | refine go ?_ | intro _ | (apply cG; first | refine cT ?_ | refine cF ?_ | refine cS (fun _ => ?_) fun _ => ?_) | (apply gW; refine sW ?_) | (apply gI; refine sI ?_) | (apply gE; refine sE ?_) | (apply gP; refine sP ?_) | (apply gC; refine sC ?_) | (apply gD; refine sD ?_) | fail)
      exact E_join (mm, k0, k1, t', k3) (ht.del_kid (q := 2) hu hm hlt hq rfl rfl ht' rfl) trivial Sb
    · repeat' (first | refine go ?_ | intro _ | (apply cG; first | refine cT ?_ | refine cF ?_ | refine cS (fun _ => ?_) fun _ => ?_) | (apply gW; refine sW ?_) | (apply gI; refine sI ?_) | (apply gE; refine sE ?_) | (apply gP; refine sP ?_) | (apply gC; refine sC ?_) | (apply gD; refine sD ?_) | fail)
      refine C_draw (n := 16) [cel p [k0.val, k1.val, k2.val, k3.val, .map (some m)] 78, cel pb [.int .i64 (lvB e.2.b : Int), .int .i64 ((X0 e.2.b / 2 ^ lvB e.2.b : Nat) : Int), .int .i64 ((Y0 e.2.b / 2 ^ lvB e.2.b : Nat) : Int)] 74] [(0, 1), (1, 1), (2, 1), (3, 1), (4, 1), (5, 1), (6, 1), (7, 1), (8, 1), (9, 1), (10, 1), (11, 1), (13, 1), (14, 1), (12, 0), (15, 1), (16, 0)] (by kernel_rfl) (by kernel_rfl) Sb ?_
      repeat' (first | refine go ?_ | intro _ | (apply cG; first | refine cT ?_ | refine cF ?_ | refine cS (fun _ => ?_) fun _ => ?_) | (apply gW; refine sW ?_) | (apply gI; refine sI ?_) | (apply gE; refine sE ?_) | (apply gP; refine sP ?_) | (apply gC; refine sC ?_) | (apply gD; refine sD ?_) | fail)
      refine D_op rfl ?_; refine X_s (sv_idxA (e := 65) (len := 4) (size := 1) (k := .i64) (i := ((3 : Nat) : Int)) (off := 0) (o2 := 3) (by kernel_rfl) (fun w => by kernel_rfl) Ev.pf Ev.pf (by decide) (by decide) (by decide)) ?_
      repeat' (first | refine go ?_ | intro _ | (apply cG; first | refine cT ?_ | refine cF ?_ | refine cS (fun _ => ?_) fun _ => ?_) | (apply gW; refine sW ?_) | (apply gI; refine sI ?_) | (apply gE; refine sE ?_) | (apply gP; refine sP ?_) | (apply gC; refine sC ?_) | (apply gD; refine sD ?_) | fail)
      rw [hn1]
      refine D_op rfl ?_; refine X_d (dy_call ArgsI.pf (by first | exact rfl | trivial | (intro a b; rfl)) (CT.pull (i := 6) (by rfl) (IH n' k3 (E.filter (inQ (n' + 1) 3)) e _ hpre.d (hp.kid hlt hq) (by omega)))) ?_; rintro _ _ ⟨_, ⟨t', ht', rfl, rfl⟩, rfl⟩; refine ⟨(by first | exact .inl rfl | exact .inr Sb), D_n ?_⟩
      repeat' (first | refine go ?_ | intro _ | (apply cG; first | refine cT ?_ | refine cF ?_ | refine cS (fun _ => ?_) fun _ => ?_) | (apply gW; refine sW ?_) | (apply gI; refine sI ?_) | (apply gE; refine sE ?_) | (apply gP; refine sP ?_) | (apply gC; refine sC ?_) | (apply gD; refine sD ?_) | fail)
      refine D_op rfl ?_; refine X_s (sv_idxA (e := 65) (len := 4) (size := 1) (k := .i64) (i := ((3 : Nat) : Int)) (off := 0) (o2 := 3) (by kernel_rfl) (fun w => by kernel_rfl) Ev.pf Ev.pf (by decide) (by decide) (by decide)) ?_
      repeat' (first | refine go ?_ | intro _ | (apply cG; first | refine cT ?_ | refine cF ?_ | refine cS (fun _ => ?_) fun _ => ?_) | (apply gW; refine sW ?_) | (apply gI; refine sI ?_) | (apply gE; refine sE ?_) | (apply gP; refine sP ?_) | (apply gC; refine sC ?_) | (apply gD; refine sD ?_) | fail)
      exact E_join (mm, k0, k1, k2, t') (ht.del_kid (q := 3) hu hm hlt hq rfl rfl rfl ht') trivial Sb
  rintro ⟨mm', k0', k1', k2', k3'⟩ u1 hpre'
  dsimp only at hpre'
  dsimp only
  ((try dsimp only); refine C_n ?_; (try simp only [Nat.reduceAdd, Nat.zero_add]))
  have hl' : ∀ a ∈ delE e.1 E, lvB a.2.b ≤ n := fun a ha => (hal a (List.mem_filter.1 ha).1).2
  repeat' (first | refine go ?_ | intro _ | (apply cG; first | refine cT ?_ | refine cF ?_ | refine cS (fun _ => ?_) fun _ => ?_) | (apply gW; refine sW ?_) | (apply gI; refine sI ?_) | (apply gE; refine sE ?_) | (apply gP; refine sP ?_) | (apply gC; refine sC ?_) | (apply gD; refine sD ?_) | fail)
  refine O_s (sv_lenM (R := mIT) (by repeat (first | exact .head _ | refine .tail _ ?_))) ?_
  have hnode : mm' ≠ [] ∨ ¬ (isN k0' && isN k1' && isN k2' && isN k3') = true → QOk (.nd p m mm' k0' k1' k2' k3') n (delE e.1 E) := fun h => hpre'.ok (hpre'.some fun ⟨h1, h2, h3, h4, h5⟩ => by
    subst h2 h3 h4 h5
    rcases h with h | h
    · exact h h1
    · exact h rfl)
  by_cases hm0 : mm'.length = 0
  rotate_left
  · repeat' (first | refine go ?_ | intro _ | (apply cG; first | refine cT ?_ | refine cF ?_ | refine cS (fun _ => ?_) fun _ => ?_) | (apply gW; refine sW ?_) | (apply gI; refine sI ?_) | (apply gE; refine sE ?_) | (apply gP; refine sP ?_) | (apply gC; refine sC ?_) | (apply gD; refine sD ?_) | fail)
    refine E_res1 (by rfl) (by rfl) ⟨.nd p m mm' k0' k1' k2' k3', hnode (.inl fun h => hm0 (by rw [h]; rfl)), rfl, rfl⟩ ?_
    exact qta_close
  repeat' (first | refine go ?_ | intro _ | (apply cG; first | refine cT ?_ | refine cF ?_ | refine cS (fun _ => ?_) fun _ => ?_) | (apply gW; refine sW ?_) | (apply gI; refine sI ?_) | (apply gE; refine sE ?_) | (apply gP; refine sP ?_) | (apply gC; refine sC ?_) | (apply gD; refine sD ?_) | fail)
  refine O_s (sv_buildA (len := 4) (e := 65) (zs := #[.pointer none, .pointer none, .pointer none, .pointer none]) (cs := #[.pointer none, .pointer none, .pointer none, .pointer none]) (size := 1) (by kernel_rfl) (fun w => by kernel_rfl) (fun w => by kernel_rfl) (by first | kernel_rfl | (simp [Instr.fill, Value.cells, Act.eval]; done))) ?_
  repeat' (first | refine go ?_ | intro _ | (apply cG; first | refine cT ?_ | refine cF ?_ | refine cS (fun _ => ?_) fun _ => ?_) | (apply gW; refine sW ?_) | (apply gI; refine sI ?_) | (apply gE; refine sE ?_) | (apply gP; refine sP ?_) | (apply gC; refine sC ?_) | (apply gD; refine sD ?_) | fail)
  refine O_s (sv_eqR (h := eq_kids)) ?_
  cases hk : isN k0' && isN k1' && isN k2' && isN k3' with
  | false =>
    repeat' (first | refine go ?_ | intro _ | (apply cG; first | refine cT ?_ | refine cF ?_ | refine cS (fun _ => ?_) fun _ => ?_) | (apply gW; refine sW ?_) | (apply gI; refine sI ?_) | (apply gE; refine sE ?_) | (apply gP; refine sP ?_) | (apply gC; refine sC ?_) | (apply gD; refine sD ?_) | fail)
    refine E_res1 (by rfl) (by rfl) ⟨.nd p m mm' k0' k1' k2' k3', hnode (.inr (by rw [hk]; decide)), rfl, rfl⟩ ?_
    exact qta_close
  | true =>
    simp only [Bool.and_eq_true, isN_iff] at hk
    obtain ⟨⟨⟨h0, h1⟩, h2⟩, h3⟩ := hk
    have hE := hpre'.empty (List.length_eq_zero_iff.1 hm0) h0 h1 h2 h3 hl'
    rw [hE]
    repeat' (first | refine go ?_ | intro _ | (apply cG; first | refine cT ?_ | refine cF ?_ | refine cS (fun _ => ?_) fun _ => ?_) | (apply gW; refine sW ?_) | (apply gI; refine sI ?_) | (apply gE; refine sE ?_) | (apply gP; refine sP ?_) | (apply gC; refine sC ?_) | (apply gD; refine sD ?_) | fail)
    refine E_res1 (by rfl) (by rfl) ⟨.nil, rfl, rfl, rfl⟩ ?_
    exact Sub.trans qta_nil (sub_skip (sub_drop (sub_drop (sub_drop (sub_drop (sub_drop (sub_drop (Sub.refl _))))))))
theorem drop_ct : ∀ d, DropT W0 d := by
  intro d
  induction d with
  | zero => exact fun n t E e L ht hp hd => drop_step (fun d' h => absurd h (by omega)) ht hp hd
  | succ d ih => exact fun n t E e L ht hp hd => drop_step (fun d' h => (Nat.succ.inj h) ▸ ih) ht hp hd
end
end Go.Proofs.Ytnjjifikogblpaa
