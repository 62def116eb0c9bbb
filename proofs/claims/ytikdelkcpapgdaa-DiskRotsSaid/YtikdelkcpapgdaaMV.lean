/-
  An operation on a disk: what the reference's disk does, and the walk of the reference's Do.
-/
import Derived.Shelf.SlMaps.Clone
import Derived.Test.YtikdelkcpapgdaaMU
import Derived.Test.YtikdelkcpapgdaaMP
namespace Go.Proofs.Ytikdelkcpapgdaa
open Go Go.RowKit
set_option linter.unusedVariables false
set_option linter.unusedSimpArgs false
set_option maxRecDepth 20000
set_option synthInstance.maxSize 100000
set_option synthInstance.maxHeartbeats 400000
structure OV where
  k : Int
  file : Int
  n : Int
  v : Value
  b : List UInt8
  kv : Value
  kp : List Int
def eOV : Enc OV :=
  ⟨5, fun m x cs => cs = [.int .i64 x.k, .int .i64 x.file, .int .i64 x.n, x.v, x.kv] ∧ Sl m eB x.v x.b ∧ Sl m eI x.kv x.kp, fun hm ⟨e, h1, h2⟩ => ⟨e, h1.mono hm, h2.mono hm⟩, fun ⟨e, _⟩ => by subst e; rfl,
    fun {_ x _} ⟨e, h1, h2⟩ u hu => by
      subst e
      simp only [List.mem_cons, List.not_mem_nil, or_false] at hu
      rcases hu with rfl | rfl | rfl | rfl | rfl
      · rfl
      · rfl
      · rfl
      · exact h1.one2
      · exact h2.one2⟩
instance : Sz eOV 5 := ⟨rfl⟩
instance {x : OV} : EncC eOV x [.int .i64 x.k, .int .i64 x.file, .int .i64 x.n, x.v, x.kv] := ⟨fun _ _ h => h.1⟩
structure OvOk (x : OV) : Prop where
  f0 : -10 ≤ x.file
  f1 : x.file ≤ 100
  n0 : -10 ≤ x.n
  n1 : x.n ≤ 100
  bl : x.b.length ≤ 10
  kl : x.kp.length ≤ 3
  kr : ∀ y ∈ x.kp, -9223372036854775808 ≤ y ∧ y ≤ 9223372036854775807
def doR (K : RK) (x : OV) : RK × Int :=
  if x.k = 0 then appR K x.file x.b else if x.k = 1 then syncR K else if x.k = 2 then truncR K x.file x.n else if x.k = 3 then (armR K x.n, 0) else (crashR K x.kp x.n, 0)
section
variable {W0 : World} {L : List HP}
theorem sub_peekO {T : TypeId} {v : Value} {l : List OV} {j : Nat} {x : OV} (hm : own T eOV v l ∈ L) (hx : l[j]? = some x) : Sub L (rd eB x.v x.b :: rd eI x.kv x.kp :: L) := fun m h s => by
  obtain ⟨a, _, css, ha, _⟩ := s.mem hm
  obtain ⟨cs, _, hc⟩ := ha.get hx
  exact ⟨Hp.none, h, Hp.none_dj _, Hp.none_le _, Hp.le_refl _, hc.2.1, Hp.none, h, Hp.none_dj _, Hp.none_le _, Hp.le_refl _, hc.2.2, s⟩
theorem rDo_ct {r : Nat} {K : RK} {x : OV} (hk : KOk K) (ho : OvOk x) (hb : rd eB x.v x.b ∈ L) (hkp : rd eI x.kv x.kp ∈ L) :
    CT Try.prog 25 #[.pointer (some ⟨r, 0, none⟩), .agg #[.int .i64 x.k, .int .i64 x.file, .int .i64 x.n, x.v, x.kv]] W0 (rdk r K :: L) fun q L' => q = .int .i64 (doR K x).2 ∧ L' = rdk r (doR K x).1 :: L := by
  have hf0 := ho.f0
  have hf1 := ho.f1
  have hn0 := ho.n0
  have hn1 := ho.n1
  have hbl := ho.bl
  have hkl := ho.kl
  unfold doR
  by_cases h0 : x.k = 0
  · rw [if_pos h0]
    refine CT_enter Try.func25 rfl ?_; (simp only [Try.ntmps25, List.size_toArray, List.length_cons, List.length_nil, Nat.reduceAdd, Nat.reduceSub, Array.replicate_succ, Array.replicate_zero, List.push_toArray, List.append_toArray, List.nil_append, List.cons_append])
    repeat' (first | refine go ?_ | intro _ | (apply cG; first | refine cT ?_ | refine cF ?_ | refine cS (fun _ => ?_) fun _ => ?_) | (apply gW; refine sW ?_) | (apply gI; refine sI ?_) | (apply gE; refine sE ?_) | (apply gP; refine sP ?_) | (apply gC; refine sC ?_) | (apply gD; refine sD ?_) | fail)
    refine O_d (dy_call ArgsI.pf (by first | exact rfl | trivial | (intro a b; rfl)) (CT.pull (i := 1) (by rfl) (rAppend_ct (n := x.file) (b := x.b) hk (.inl (.tail _ hb)) (by omega)))) ?_; rintro _ _ ⟨_, ⟨rfl, rfl⟩, rfl⟩; refine O_n ?_
    repeat' (first | refine go ?_ | intro _ | (apply cG; first | refine cT ?_ | refine cF ?_ | refine cS (fun _ => ?_) fun _ => ?_) | (apply gW; refine sW ?_) | (apply gI; refine sI ?_) | (apply gE; refine sE ?_) | (apply gP; refine sP ?_) | (apply gC; refine sC ?_) | (apply gD; refine sD ?_) | fail)
    refine E_res1 (by rfl) (by rfl) ⟨rfl, rfl⟩ Sb
  rw [if_neg h0]
  by_cases h1 : x.k = 1
  · rw [if_pos h1]
    refine CT_enter Try.func25 rfl ?_; (simp only [Try.ntmps25, List.size_toArray, List.length_cons, List.length_nil, Nat.reduceAdd, Nat.reduceSub, Array.replicate_succ, Array.replicate_zero, List.push_toArray, List.append_toArray, List.nil_append, List.cons_append])
    repeat' (first | refine go ?_ | intro _ | (apply cG; first | refine cT ?_ | refine cF ?_ | refine cS (fun _ => ?_) fun _ => ?_) | (apply gW; refine sW ?_) | (apply gI; refine sI ?_) | (apply gE; refine sE ?_) | (apply gP; refine sP ?_) | (apply gC; refine sC ?_) | (apply gD; refine sD ?_) | fail)
    refine O_d (dy_call ArgsI.pf (by first | exact rfl | trivial | (intro a b; rfl)) (CT.pull (i := 1) (by rfl) (rSync_ct hk))) ?_; rintro _ _ ⟨_, ⟨rfl, rfl⟩, rfl⟩; refine O_n ?_
    repeat' (first | refine go ?_ | intro _ | (apply cG; first | refine cT ?_ | refine cF ?_ | refine cS (fun _ => ?_) fun _ => ?_) | (apply gW; refine sW ?_) | (apply gI; refine sI ?_) | (apply gE; refine sE ?_) | (apply gP; refine sP ?_) | (apply gC; refine sC ?_) | (apply gD; refine sD ?_) | fail)
    refine E_res1 (by rfl) (by rfl) ⟨rfl, rfl⟩ Sb
  rw [if_neg h1]
  by_cases h2 : x.k = 2
  · rw [if_pos h2]
    refine CT_enter Try.func25 rfl ?_; (simp only [Try.ntmps25, List.size_toArray, List.length_cons, List.length_nil, Nat.reduceAdd, Nat.reduceSub, Array.replicate_succ, Array.replicate_zero, List.push_toArray, List.append_toArray, List.nil_append, List.cons_append])
    repeat' (first | refine go ?_ | intro _ | (apply cG; first | refine cT ?_ | refine cF ?_ | refine cS (fun _ => ?_) fun _ => ?_) | (apply gW; refine sW ?_) | (apply gI; refine sI ?_) | (apply gE; refine sE ?_) | (apply gP; refine sP ?_) | (apply gC; refine sC ?_) | (apply gD; refine sD ?_) | fail)
    refine O_d (dy_call ArgsI.pf (by first | exact rfl | trivial | (intro a b; rfl)) (CT.pull (i := 1) (by rfl) (rTrunc_ct (n := x.file) (N := x.n) hk (by omega) (by omega) (by omega) (by omega)))) ?_; rintro _ _ ⟨_, ⟨rfl, rfl⟩, rfl⟩; refine O_n ?_
    repeat' (first | refine go ?_ | intro _ | (apply cG; first | refine cT ?_ | refine cF ?_ | refine cS (fun _ => ?_) fun _ => ?_) | (apply gW; refine sW ?_) | (apply gI; refine sI ?_) | (apply gE; refine sE ?_) | (apply gP; refine sP ?_) | (apply gC; refine sC ?_) | (apply gD; refine sD ?_) | fail)
    refine E_res1 (by rfl) (by rfl) ⟨rfl, rfl⟩ Sb
  rw [if_neg h2]
  by_cases h3 : x.k = 3
  · rw [if_pos h3]
    refine CT_enter Try.func25 rfl ?_; (simp only [Try.ntmps25, List.size_toArray, List.length_cons, List.length_nil, Nat.reduceAdd, Nat.reduceSub, Array.replicate_succ, Array.replicate_zero, List.push_toArray, List.append_toArray, List.nil_append, List.cons_append])
    repeat' (first | refine go ?_ | intro _ | (apply cG; first | refine cT ?_ | refine cF ?_ | refine cS (fun _ => ?_) fun _ => ?_) | (apply gW; refine sW ?_) | (apply gI; refine sI ?_) | (apply gE; refine sE ?_) | (apply gP; refine sP ?_) | (apply gC; refine sC ?_) | (apply gD; refine sD ?_) | fail)
    refine O_d (dy_call ArgsI.pf (by first | exact rfl | trivial | (intro a b; rfl)) (CT.pull (i := 1) (by rfl) (rArm_ct (K := K) (n := x.n)))) ?_; rintro _ _ ⟨_, ⟨rfl, rfl⟩, rfl⟩; refine O_n ?_
    repeat' (first | refine go ?_ | intro _ | (apply cG; first | refine cT ?_ | refine cF ?_ | refine cS (fun _ => ?_) fun _ => ?_) | (apply gW; refine sW ?_) | (apply gI; refine sI ?_) | (apply gE; refine sE ?_) | (apply gP; refine sP ?_) | (apply gC; refine sC ?_) | (apply gD; refine sD ?_) | fail)
    refine E_res1 (by rfl) (by rfl) ⟨rfl, rfl⟩ Sb
  rw [if_neg h3]
  refine CT_enter Try.func25 rfl ?_; (simp only [Try.ntmps25, List.size_toArray, List.length_cons, List.length_nil, Nat.reduceAdd, Nat.reduceSub, Array.replicate_succ, Array.replicate_zero, List.push_toArray, List.append_toArray, List.nil_append, List.cons_append])
  repeat' (first | refine go ?_ | intro _ | (apply cG; first | refine cT ?_ | refine cF ?_ | refine cS (fun _ => ?_) fun _ => ?_) | (apply gW; refine sW ?_) | (apply gI; refine sI ?_) | (apply gE; refine sE ?_) | (apply gP; refine sP ?_) | (apply gC; refine sC ?_) | (apply gD; refine sD ?_) | fail)
  refine O_d (dy_call ArgsI.pf (by first | exact rfl | trivial | (intro a b; rfl)) (CT.pull (i := 1) (by rfl) (rCrash_ct (K := K) (z := x.n) hk (.tail _ hkp) (by omega) ho.kr (by omega) (by omega)))) ?_; rintro _ _ ⟨_, ⟨rfl, rfl⟩, rfl⟩; refine O_n ?_
  repeat' (first | refine go ?_ | intro _ | (apply cG; first | refine cT ?_ | refine cF ?_ | refine cS (fun _ => ?_) fun _ => ?_) | (apply gW; refine sW ?_) | (apply gI; refine sI ?_) | (apply gE; refine sE ?_) | (apply gP; refine sP ?_) | (apply gC; refine sC ?_) | (apply gD; refine sD ?_) | fail)
  refine E_res1 (by rfl) (by rfl) ⟨rfl, rfl⟩ Sb
end
end Go.Proofs.Ytikdelkcpapgdaa
namespace Go.Proofs.Ytikdelkcpapgdaa
open Go Go.RowKit
set_option linter.unusedVariables false
set_option linter.unusedSimpArgs false
set_option maxRecDepth 20000
set_option synthInstance.maxSize 100000
set_option synthInstance.maxHeartbeats 400000
section
variable {P : Program} {W0 w : World} {L S : List HP} {a : Act} {d : Option Tmp} {ty : TypeId} {pos : String} {aft : Array Edge} {gd : Option (Nat × Bool)} {t u : TypeId} {x y : Operand} {b : Nat}
theorem sv_mapnil {k e : TypeId} {p : Option Nat} {q : Bool} [ut : UL P t (.map k e)] (hx : a.eval x = .map p) (hy : a.eval y = .map none) (hq : p.isNone = q) : SV P W0 S ⟨d, .binOp .eql t x y u, ty, pos, aft, gd⟩ a (.bool q) :=
  sv_cmp hx hy (fun _ => rfl) fun w => by subst hq; exact run_eql_map_nil_sl w t k e p ut.pf
theorem sv_mkif {k e : TypeId} {v : Value} [ut : UL P t (.map k e)] (hx : a.eval x = v) : SV P W0 S ⟨d, .makeInterface t x, ty, pos, aft, gd⟩ a (.iface t v) := ⟨fun w _ => by
  unfold execOp
  simp [hx, Instr.makeInterface, run_underlying ut.pf]⟩
theorem sv_assertM {k e xT : TypeId} {v : Value} [ut : UL P t (.map k e)] (hx : a.eval x = .iface t v) : SV P W0 S ⟨d, .typeAssert x xT t false, ty, pos, aft, gd⟩ a v := ⟨fun w _ => by
  unfold execOp
  simp [hx, run_typeAssert_map_sl w t xT k e v ut.pf]⟩
theorem St.newI {A : HP} {w' : World} (s : St W0 w L) (g : w.grownBy w' none) {a : Hp} (ha : a.le (Hp.of w')) (hn : ∀ k, k < w.heap.size → a k = none) (hA : ∀ m h, SepL m L h → h.le (Hp.of w) → A.p m a) : St W0 w' (A :: L) := by
  obtain ⟨h1, h2, h3, h4, m, h, hm, hw, hh, d, hL⟩ := s
  have up : (Hp.of w).le (Hp.of w') := fun k o e => by
    rw [← e]; exact g.block k (Hp.of_lt e) (by simp)
  have far : ∀ {x : Hp}, x.le (Hp.of w) → x.dj a := fun {x} hx k => by
    cases e : x k with
    | none => left; rfl
    | some o => right; exact hn k (Hp.of_lt (hx k o e))
  exact ⟨g.os.trans h1, g.tape.trans h2, g.output.trans h3, Nat.le_trans h4 g.size, m, a.or h, hm, hw.trans up, Hp.or_le ha (hh.trans up),
    Hp.dj_or (far hw) d, a, h, (far hh).symm, Hp.le_or_left a h, Hp.le_or_right (far hh).symm, hA m h hL hh, hL⟩
theorem St.mclone {α : Type} {R : MEnc α} {l : List (Int × α)} (s : St W0 w (mapo R b l :: L)) : ∃ es clock, w.heap[b]? = some (.map es clock) ∧ St W0 (w.alloc (.map es clock)) (mapo R w.heap.size l :: mapo R b l :: L) := by
  have s0 := s
  obtain ⟨_, _, _, _, m, h, hm, hw, hh, dj, hL⟩ := s
  obtain ⟨a, c, _, ha, _, ⟨es, clock, h1, _⟩, _⟩ := hL
  have hb : Hp.of w b = some (.map es clock) := hh b _ (ha b _ h1)
  refine ⟨es, clock, hb, ?_⟩
  refine s0.newI (World.grownBy_alloc w _ _) (a := Hp.one w.heap.size (.map es clock)) ?_ ?_ ?_
  · intro k x e
    unfold Hp.one at e
    split at e
    · rename_i hk; subst hk; cases e; exact heap_alloc_new w _
    · cases e
  · intro k hk; unfold Hp.one; rw [if_neg (by omega)]
  · rintro m2 h2 ⟨a2, c2, _, ha2, _, ⟨es2, clock2, k1, k2, k3, k4⟩, _⟩ hle
    have hb2 : Hp.of w b = some (.map es2 clock2) := hle b _ (ha2 b _ k1)
    rw [hb] at hb2
    injection hb2 with hb2
    injection hb2 with e1 e2
    subst e1 e2
    exact ⟨es, clock, by simp [Hp.one], k2, k3, k4⟩
theorem dy_mclone {α : Type} {R : MEnc α} {l : List (Int × α)} {f : FuncId} {fn : Func} {ats : Array TypeId} (hf : P.funcs[f]? = some fn) (hname : (fn.name == "runtime.NumGoroutine") = false) (hb : fn.body.isNone = true) (hn : Extern.findNext fn = none) (he : Extern.find fn = some Extern.MapsClone.clone) (hx : a.eval x = .iface t (.map (some b))) :
    DY P W0 (mapo R b l :: L) ⟨d, .call ⟨.value (.func f), #[x], ats⟩, ty, pos, aft, gd⟩ a fun a' L' => ∃ b2, a.put d (.iface t (.map (some b2))) = a' ∧ L' = mapo R b2 l :: mapo R b l :: L :=
  dy_val fun w s => by
    obtain ⟨es, clock, hb1, s2⟩ := s.mclone
    refine ⟨_, w.alloc (.map es clock), _, ?_, ⟨w.heap.size, rfl, rfl⟩, s2⟩
    have h1 : (callFunc f #[.iface t (.map (some b))]).run P w = .ok (.value (.iface t (.map (some w.heap.size)))) (w.alloc (.map es clock)) := by
      rw [run_callFunc_extern hf hname hb hn he, run_maps_clone_sl w t hb1]
      rfl
    have h2 : a.eval (.func f) = .func (.func f) #[] #[] := rfl
    unfold execOp
    simp [resolve, invoke, hx, Deferred.ofValue, h2, h1]
end
section
variable {W0 : World} {L : List HP}
theorem MClone_ct {R : MEnc DF} {b : Nat} {l : List (Int × DF)} : CT Try.prog 50 #[.map (some b)] W0 (mapo R b l :: L) fun r L' => ∃ b2, r = .map (some b2) ∧ L' = mapo R b2 l :: mapo R b l :: L := by
  refine CT_enter Try.func50 rfl ?_; (simp only [Try.ntmps50, List.size_toArray, List.length_cons, List.length_nil, Nat.reduceAdd, Nat.reduceSub, Array.replicate_succ, Array.replicate_zero, List.push_toArray, List.append_toArray, List.nil_append, List.cons_append])
  repeat' (first | refine go ?_ | intro _ | (apply cG; first | refine cT ?_ | refine cF ?_ | refine cS (fun _ => ?_) fun _ => ?_) | (apply gW; refine sW ?_) | (apply gI; refine sI ?_) | (apply gE; refine sE ?_) | (apply gP; refine sP ?_) | (apply gC; refine sC ?_) | (apply gD; refine sD ?_) | fail)
  refine O_s (sv_mapnil (q := false) Ev.pf Ev.pf rfl) ?_
  repeat' (first | refine go ?_ | intro _ | (apply cG; first | refine cT ?_ | refine cF ?_ | refine cS (fun _ => ?_) fun _ => ?_) | (apply gW; refine sW ?_) | (apply gI; refine sI ?_) | (apply gE; refine sE ?_) | (apply gP; refine sP ?_) | (apply gC; refine sC ?_) | (apply gD; refine sD ?_) | fail)
  refine O_s (sv_mkif Ev.pf) ?_
  repeat' (first | refine go ?_ | intro _ | (apply cG; first | refine cT ?_ | refine cF ?_ | refine cS (fun _ => ?_) fun _ => ?_) | (apply gW; refine sW ?_) | (apply gI; refine sI ?_) | (apply gE; refine sE ?_) | (apply gP; refine sP ?_) | (apply gC; refine sC ?_) | (apply gD; refine sD ?_) | fail)
  refine O_d (dy_mclone (R := R) (l := l) Try.func56 (by kernel_rfl) (by kernel_rfl) (by kernel_rfl) (by kernel_rfl) Ev.pf) ?_; rintro _ _ ⟨b2, rfl, rfl⟩; refine O_n ?_
  repeat' (first | refine go ?_ | intro _ | (apply cG; first | refine cT ?_ | refine cF ?_ | refine cS (fun _ => ?_) fun _ => ?_) | (apply gW; refine sW ?_) | (apply gI; refine sI ?_) | (apply gE; refine sE ?_) | (apply gP; refine sP ?_) | (apply gC; refine sC ?_) | (apply gD; refine sD ?_) | fail)
  refine O_s (sv_assertM Ev.pf) ?_
  repeat' (first | refine go ?_ | intro _ | (apply cG; first | refine cT ?_ | refine cF ?_ | refine cS (fun _ => ?_) fun _ => ?_) | (apply gW; refine sW ?_) | (apply gI; refine sI ?_) | (apply gE; refine sE ?_) | (apply gP; refine sP ?_) | (apply gC; refine sC ?_) | (apply gD; refine sD ?_) | fail)
  refine E_res1 (by rfl) (by rfl) ⟨b2, rfl, rfl⟩ Sb
theorem Copy_ct {p : Nat} {d : DK} : CT Try.prog 30 #[.pointer (some ⟨p, 0, none⟩)] W0 (dsk p d :: L) fun r L' => ∃ q, r = .pointer (some ⟨q, 0, none⟩) ∧ L' = dsk q d :: dsk p d :: L := by
  refine dsk_ct fun b => ?_
  refine CT_enter Try.func30 rfl ?_; (simp only [Try.ntmps30, List.size_toArray, List.length_cons, List.length_nil, Nat.reduceAdd, Nat.reduceSub, Array.replicate_succ, Array.replicate_zero, List.push_toArray, List.append_toArray, List.nil_append, List.cons_append])
  repeat' (first | refine go ?_ | intro _ | (apply cG; first | refine cT ?_ | refine cF ?_ | refine cS (fun _ => ?_) fun _ => ?_) | (apply gW; refine sW ?_) | (apply gI; refine sI ?_) | (apply gE; refine sE ?_) | (apply gP; refine sP ?_) | (apply gC; refine sC ?_) | (apply gD; refine sD ?_) | fail)
  rename_i q
  refine O_d (dy_call ArgsI.pf (by first | exact rfl | trivial | (intro a b; rfl)) (CT.pull (i := 2) (by rfl) (MClone_ct (R := mDF)))) ?_; rintro _ _ ⟨_, ⟨b2, rfl, rfl⟩, rfl⟩; refine O_n ?_
  repeat' (first | refine go ?_ | intro _ | (apply cG; first | refine cT ?_ | refine cF ?_ | refine cS (fun _ => ?_) fun _ => ?_) | (apply gW; refine sW ?_) | (apply gI; refine sI ?_) | (apply gE; refine sE ?_) | (apply gP; refine sP ?_) | (apply gC; refine sC ?_) | (apply gD; refine sD ?_) | fail)
  refine E_res1 (by rfl) (by rfl) ⟨q, rfl, rfl⟩ (Sub.trans (B := cel p [.map (some b), .int .i64 d.room, .bool d.off, .bool d.armed, .int .i64 d.left] 68 :: mapo mDF b d.files :: cel q [.map (some b2), .int .i64 d.room, .bool d.off, .bool d.armed, .int .i64 d.left] 68 :: mapo mDF b2 d.files :: L) Sb (Sub.trans dsk_sub (Sub.trans (B := cel q [.map (some b2), .int .i64 d.room, .bool d.off, .bool d.armed, .int .i64 d.left] 68 :: mapo mDF b2 d.files :: dsk p d :: L) Sb dsk_sub)))
end
end Go.Proofs.Ytikdelkcpapgdaa
namespace Go.Proofs.Ytikdelkcpapgdaa
open Go Go.RowKit
set_option linter.unusedVariables false
set_option linter.unusedSimpArgs false
theorem stepF_na {d : DK} (h : d.armed = false) : stepF d = (d, true) := by unfold stepF; rw [if_neg (by simp [h])]
/-- no file, or this one alone -/
def OneF (file : Int) (l : List (Int × DF)) : Prop := l = [] ∨ ∃ f, l = [(file, f)]
theorem OneF.set {file : Int} {l : List (Int × DF)} (h : OneF file l) (x : DF) : OneF file (setF file x l) := by
  rcases h with rfl | ⟨f, rfl⟩
  · have e : setF file x [] = if x.b.length = 0 then [] else [(file, x)] := by
      unfold setF
      have e1 : putM file x [] = [(file, x)] := rfl
      rw [e1, delM_cons, if_pos rfl]
    rw [e]
    split
    · exact .inl rfl
    · exact .inr ⟨x, rfl⟩
  · rw [set_one]
    split
    · exact .inl rfl
    · exact .inr ⟨x, rfl⟩
theorem OneF.hard {file : Int} {l : List (Int × DF)} (h : OneF file l) : OneF file (hardL l) := by
  rcases h with rfl | ⟨f, rfl⟩
  · exact .inl rfl
  · exact .inr ⟨_, rfl⟩
theorem OneF.used {file : Int} {l : List (Int × DF)} (h : OneF file l) : usedL l = (fileF file l).b.length := by
  rcases h with rfl | ⟨f, rfl⟩
  · rfl
  · rw [fileF_cons, if_pos rfl]
    rfl
/-- file alone holds B, of which D bytes are durable -/
structure J1 (d : DK) (file : Int) (k : Int) (B : List UInt8) (D : Nat) : Prop where
  ok : DOk d
  one : OneF file d.files
  room : d.room = k
  b : (fileF file d.files).b = B
  dd : (fileF file d.files).d = D
theorem J1.u {d : DK} {file k : Int} {B : List UInt8} {D : Nat} (h : J1 d file k B D) : usedL d.files = B.length := by rw [h.one.used, h.b]
theorem J1.dl {d : DK} {file k : Int} {B : List UInt8} {D : Nat} (h : J1 d file k B D) : D ≤ B.length := by
  have := h.ok.d0 file
  rw [h.b, h.dd] at this
  omega
theorem J1.any {files : List (Int × DF)} {room left left' : Int} {off armed off' armed' : Bool} {file k : Int} {B : List UInt8} {D : Nat} (h : J1 ⟨files, room, off, armed, left⟩ file k B D) : J1 ⟨files, room, off', armed', left'⟩ file k B D :=
  ⟨⟨h.ok.k, h.ok.r0, h.ok.r1, h.ok.u, h.ok.d0⟩, h.one, h.room, h.b, h.dd⟩
theorem J1.begun {k : Int} (h1 : 0 ≤ k) (h2 : k ≤ 16777216) (file : Int) : J1 ⟨[], k, false, false, 0⟩ file k [] 0 := ⟨⟨List.nodup_nil, h1, h2, h1, fun n => ⟨Int.le_refl _, Int.le_refl _⟩⟩, .inl rfl, rfl, rfl, rfl⟩
theorem J1.hard {d : DK} {file k : Int} {B : List UInt8} {D : Nat} (h : J1 d file k B D) : J1 { d with files := hardL d.files } file k B B.length :=
  ⟨h.ok.hard, h.one.hard, h.room, (fileF_hard d.files).1.trans h.b, by rw [(fileF_hard d.files).2, h.b]⟩
theorem J1.put {d : DK} {file k : Int} {B b : List UInt8} {D : Nat} (h : J1 d file k B D) (hb : ((b.length : Nat) : Int) ≤ k - (B.length : Int)) (h0 : 0 < b.length) (y : Value) : J1 { d with files := setF file ⟨y, (fileF file d.files).b ++ b, (fileF file d.files).d⟩ d.files } file k (B ++ b) D := by
  have hu := h.u
  have hr := h.room
  have hd := h.ok.d0 file
  have hbl : (fileF file d.files).b.length = B.length := by rw [h.b]
  refine ⟨h.ok.set ?_ ?_, h.one.set _, h.room, (fileF_set h.ok.k).1.trans (by dsimp only; rw [h.b]), ?_⟩
  · dsimp only
    rw [List.length_append]
    push_cast
    omega
  · dsimp only
    rw [List.length_append]
    push_cast
    omega
  · rw [(fileF_set h.ok.k).2, if_neg (by dsimp only; rw [List.length_append]; omega)]
    exact h.dd
/-- a step with a plan -/
theorem stepF_go {d : DK} (h1 : d.off = false) (h2 : d.armed = true) (h3 : 1 ≤ d.left) : stepF d = ({ d with left := d.left - 1 }, true) := by
  unfold stepF
  rw [if_pos h2, if_neg (by omega), h1]
  rfl
theorem stepF_stop {d : DK} (h2 : d.armed = true) (h3 : d.left < 1) : stepF d = ({ d with left := d.left - 1, off := true, armed := false }, false) := by
  unfold stepF
  rw [if_pos h2, if_pos (by omega)]
theorem crB_nil (kp : List Int) (z : Int) : crB kp z 0 [] = [] := by
  have : ∀ m, turnB z 0 m [] = [] := fun m => List.length_eq_zero_iff.1 (by rw [turnB_len]; rfl)
  unfold crB
  rw [List.take_nil]
  exact this _
theorem crB_len (kp : List Int) (z : Int) (D : Nat) (B : List UInt8) (h : D ≤ B.length) : (crB kp z D B).length = D + keepN kp 0 B.length D ∧ D + keepN kp 0 B.length D ≤ B.length := by
  have := keepN_le kp 0 B.length D h
  unfold crB
  rw [turnB_len, List.length_take]
  exact ⟨by omega, this⟩
/-- the durable bytes stay -/
theorem crB_firm (kp : List Int) (z : Int) (D : Nat) (B : List UInt8) (h : D ≤ B.length) : (crB kp z D B).take D = B.take D := by
  have hk := keepN_le kp 0 B.length D h
  unfold crB turnB
  split
  · rw [List.take_set_of_le (by omega), List.take_take]
    congr 1
    omega
  · rw [List.take_take]
    congr 1
    omega
section
variable {W0 : World} {L : List HP}
theorem Crash_j1 {p : Nat} {d : DK} {file k z : Int} {B : List UInt8} {D : Nat} {kv : Value} {kp : List Int} (h : J1 d file k B D) (hkv : rd eI kv kp ∈ L) (hkl : kp.length ≤ 1000000000) (hkr : ∀ x ∈ kp, -9223372036854775808 ≤ x ∧ x ≤ 9223372036854775807) (hz1 : -9223372036854775808 ≤ z) (hz2 : z ≤ 9223372036854775807) :
    CT Try.prog 16 #[.pointer (some ⟨p, 0, none⟩), kv, .int .i64 z] W0 (dsk p d :: L) fun r L' => ∃ d', J1 d' file k (crB kp z D B) (crB kp z D B).length ∧ d'.off = false ∧ d'.armed = false ∧ d'.left = d.left ∧ r = .tuple #[] ∧ L' = dsk p d' :: L := by
  obtain ⟨hok, hone, hroom, hb, hdd⟩ := h
  obtain ⟨files, room, off, armed, left⟩ := d
  dsimp only at hone hroom hb hdd
  rcases hone with rfl | ⟨f, rfl⟩
  · have hB : [] = B := hb
    have hD0 : (0 : Int) = (D : Int) := hdd
    have hD : D = 0 := by omega
    subst hB hD
    rw [crB_nil]
    refine (Crash_none hkv hkl hz1 hz2).mono fun r L' hh => ?_
    obtain ⟨rfl, rfl⟩ := hh
    exact ⟨⟨[], room, false, false, left⟩, ⟨⟨hok.k, hok.r0, hok.r1, hok.u, hok.d0⟩, .inl rfl, hroom, rfl, rfl⟩, rfl, rfl, rfl, rfl, rfl⟩
  · rw [fileF_cons, if_pos rfl] at hb hdd
    have h0 := hok.d0 file
    dsimp only at h0
    rw [fileF_cons, if_pos rfl] at h0
    refine (Crash_one hok hkv hkl hkr hz1 hz2).mono fun r L' hh => ?_
    obtain ⟨y, rfl, rfl⟩ := hh
    rw [hb, hdd]
    simp only [Int.toNat_natCast]
    have hcl := crB_len kp z D B (by rw [hdd, hb] at h0; omega)
    have hu : ((f.b.length + 0 : Nat) : Int) ≤ room := hok.u
    generalize crB kp z D B = C at hcl ⊢
    have hr0 : (0 : Int) ≤ room := hok.r0
    have hr1 : room ≤ 16777216 := hok.r1
    have hfl : f.b.length = B.length := by rw [hb]
    refine ⟨⟨if C.length = 0 then [] else [(file, ⟨y, C, (C.length : Int)⟩)], room, false, false, left⟩, ?_, rfl, rfl, rfl, trivial, rfl⟩
    by_cases hc0 : C.length = 0
    · rw [if_pos hc0]
      have hce := List.length_eq_zero_iff.1 hc0
      subst hce
      exact ⟨⟨List.nodup_nil, hr0, hr1, hr0, fun n => ⟨Int.le_refl _, Int.le_refl _⟩⟩, .inl rfl, hroom, rfl, rfl⟩
    · rw [if_neg hc0]
      refine ⟨⟨hok.k, hr0, hr1, ?_, fun n => ?_⟩, .inr ⟨_, rfl⟩, hroom, by dsimp only; rw [fileF_cons, if_pos rfl], by dsimp only; rw [fileF_cons, if_pos rfl]⟩
      · show ((C.length + 0 : Nat) : Int) ≤ room
        omega
      · dsimp only
        rw [fileF_cons]
        split
        · exact ⟨by dsimp only; omega, Int.le_refl _⟩
        · exact ⟨Int.le_refl _, Int.le_refl _⟩
end
end Go.Proofs.Ytikdelkcpapgdaa
