/-
  Sums: the reference's faces, Members.
-/
import Derived.Test.YtlmabajgnjiigaaMO
import Derived.Test.YtlmabajgnjiigaaMI
namespace Go.Proofs.Ytlmabajgnjiigaa
open Go Go.RowKit
set_option linter.unusedVariables false
set_option linter.unusedSimpArgs false
set_option maxRecDepth 20000
set_option synthInstance.maxSize 100000
set_option synthInstance.maxHeartbeats 400000
theorem facF_le {l : List Int} (h : ∀ x ∈ l, -1 ≤ x ∧ x ≤ 1099511627776) : ∀ i : Nat, 0 ≤ facF (l.take i) ∧ facF (l.take i) ≤ 1099511627777
  | 0 => by simp [facF]
  | i + 1 => by
    have ih := facF_le h i
    cases hx : l[i]? with
    | none =>
      have : l.take (i + 1) = l.take i := by
        rw [List.take_add_one, hx]
        simp
      rw [this]
      exact ih
    | some x =>
      have := h x (List.mem_of_getElem? hx)
      rw [facF_take hx]
      omega
/-- the members of a group of a scale -/
def mbrF (F : List Int) (G : List (List Int)) (s g : Int) : List Int := if 0 ≤ s ∧ s < (G.length : Int) then memN F (G.getD s.toNat []) g F.length else []
section
variable {W0 : World} {L : List HP}
theorem rFaces_ct {t : RT} (ht : RTin t L) (hf : ∀ x ∈ t.F, -1 ≤ x ∧ x ≤ 1099511627776) (hl : t.F.length ≤ 1000000) :
    CT Try.prog 35 #[.pointer (some ⟨t.p, 0, none⟩)] W0 L fun r L' => r = .int .i64 (facF t.F) ∧ L' = L := by
  obtain ⟨p, A1, B1, C1, ca, cb, cc, U, F, xs⟩ := t
  obtain ⟨h1, h2, h3, h4⟩ := ht
  dsimp only at h1 h2 h3 h4 hf hl ⊢
  have hip : InC p L _ _ := ⟨h1⟩
  have hsU : ScA B1 L F.length cb eI F := ⟨.inl h3⟩
  refine CT_enter Try.func35 rfl ?_; (simp only [Try.ntmps35, List.size_toArray, List.length_cons, List.length_nil, Nat.reduceAdd, Nat.reduceSub, Array.replicate_succ, Array.replicate_zero, List.push_toArray, List.append_toArray, List.nil_append, List.cons_append])
  repeat' (first | refine go ?_ | intro _ | (apply cG; first | refine cT ?_ | refine cF ?_ | refine cS (fun _ => ?_) fun _ => ?_) | (apply gW; refine sW ?_) | (apply gI; refine sI ?_) | (apply gE; refine sE ?_) | (apply gP; refine sP ?_) | (apply gC; refine sC ?_) | (apply gD; refine sD ?_) | fail)
  refine C_loopS (κ := Nat) [false, false, false, true, true, true, true, true, true, true, true, true, true, true, true, true, true, true, true, true, true, true, true, true, false] (fun k => [(3, .int .i64 (facF (F.take k))), (4, .int .i64 (k : Int))]) (fun k => []) (fun k => k ≤ F.length) (fun k => F.length - k) 0 (Nat.zero_le _) ⟨rfl, rfl, trivial⟩ ?_
  rintro i u hi
  ((try dsimp only); refine C_n ?_; (try simp only [Nat.reduceAdd, Nat.zero_add]))
  by_cases hil : i < F.length
  rotate_left
  · obtain rfl : i = F.length := by omega
    rw [List.take_length]
    repeat' (first | refine go ?_ | intro _ | (apply cG; first | refine cT ?_ | refine cF ?_ | refine cS (fun _ => ?_) fun _ => ?_) | (apply gW; refine sW ?_) | (apply gI; refine sI ?_) | (apply gE; refine sE ?_) | (apply gP; refine sP ?_) | (apply gC; refine sC ?_) | (apply gD; refine sD ?_) | fail)
    refine E_res1 (by rfl) (by rfl) ⟨rfl, rfl⟩ Sb
  obtain ⟨x, hx⟩ : ∃ x, F[i]? = some x := ⟨_, List.getElem?_eq_getElem (by omega)⟩
  have hax : At F i x := ⟨hx⟩
  have hs := facF_le hf i
  have hx2 := hf x (List.mem_of_getElem? hx)
  obtain ⟨n, hn⟩ : ∃ n, facF (F.take i) = n := ⟨_, rfl⟩
  have hnx := facF_take hx
  rw [hn] at hs hnx ⊢
  by_cases hc : x + 1 > n
  · repeat' (first | refine go ?_ | intro _ | (apply cG; first | refine cT ?_ | refine cF ?_ | refine cS (fun _ => ?_) fun _ => ?_) | (apply gW; refine sW ?_) | (apply gI; refine sI ?_) | (apply gE; refine sE ?_) | (apply gP; refine sP ?_) | (apply gC; refine sC ?_) | (apply gD; refine sD ?_) | fail)
    exact E_round (i + 1) hil (by omega) ⟨by rw [hnx, Int.max_eq_right (by omega)]; rfl, rfl, trivial⟩ Sb
  · repeat' (first | refine go ?_ | intro _ | (apply cG; first | refine cT ?_ | refine cF ?_ | refine cS (fun _ => ?_) fun _ => ?_) | (apply gW; refine sW ?_) | (apply gI; refine sI ?_) | (apply gE; refine sE ?_) | (apply gP; refine sP ?_) | (apply gC; refine sC ?_) | (apply gD; refine sD ?_) | fail)
    exact E_round (i + 1) hil (by omega) ⟨by rw [hnx, Int.max_eq_left (by omega)]; rfl, rfl, trivial⟩ Sb
theorem rMembers_ct {t : RT} {s g : Int} {G : List (List Int)} (ht : RTin t L) (hxs : t.xs.map SX.b = G) (hF : t.F.length ≤ 1000000) (hR : ∀ x ∈ G, ∀ f ∈ t.F, 0 ≤ f ∧ f < (x.length : Int)) (hs : -9223372036854775808 ≤ s ∧ s ≤ 9223372036854775807) :
    CT Try.prog 20 #[.pointer (some ⟨t.p, 0, none⟩), .int .i64 s, .int .i64 g] W0 L fun r L' => ∃ A c, r = .tuple #[.slice A (mbrF t.F G s g).length c, .bool (decide (0 < (mbrF t.F G s g).length))] ∧ L' = own 3 eI (.slice A (mbrF t.F G s g).length c) (mbrF t.F G s g) :: L := by
  obtain ⟨p, A1, B1, C1, ca, cb, cc, U, F, xs⟩ := t
  obtain ⟨h1, h2, h3, h4⟩ := ht
  dsimp only at h1 h2 h3 h4 hxs hF hR ⊢
  have hxl : xs.length = G.length := by rw [← hxs, List.length_map]
  have hip : InC p L _ _ := ⟨h1⟩
  have hsF : ScA B1 L F.length cb eI F := ⟨.inl h3⟩
  have hsX : ScA C1 L xs.length cc (eSX eI) xs := ⟨.inl h4⟩
  obtain ⟨hs1, hs2⟩ := hs
  refine CT_enter Try.func20 rfl ?_; (simp only [Try.ntmps20, List.size_toArray, List.length_cons, List.length_nil, Nat.reduceAdd, Nat.reduceSub, Array.replicate_succ, Array.replicate_zero, List.push_toArray, List.append_toArray, List.nil_append, List.cons_append])
  by_cases hb : 0 ≤ s ∧ s < (G.length : Int)
  rotate_left
  · have e : mbrF F G s g = [] := if_neg hb
    rw [e]
    by_cases h0 : s < 0
    · repeat' (first | refine go ?_ | intro _ | (apply cG; first | refine cT ?_ | refine cF ?_ | refine cS (fun _ => ?_) fun _ => ?_) | (apply gW; refine sW ?_) | (apply gI; refine sI ?_) | (apply gE; refine sE ?_) | (apply gP; refine sP ?_) | (apply gC; refine sC ?_) | (apply gD; refine sD ?_) | fail)
      refine E_ownnil 3 eI ?_
      refine E_res2 (by rfl) (by rfl) ⟨none, 0, rfl, rfl⟩ Sb
    · have : (G.length : Int) ≤ s := by omega
      repeat' (first | refine go ?_ | intro _ | (apply cG; first | refine cT ?_ | refine cF ?_ | refine cS (fun _ => ?_) fun _ => ?_) | (apply gW; refine sW ?_) | (apply gI; refine sI ?_) | (apply gE; refine sE ?_) | (apply gP; refine sP ?_) | (apply gC; refine sC ?_) | (apply gD; refine sD ?_) | fail)
      refine E_ownnil 3 eI ?_
      refine E_res2 (by rfl) (by rfl) ⟨none, 0, rfl, rfl⟩ Sb
  obtain ⟨n, rfl⟩ : ∃ n : Nat, s = (n : Int) := ⟨s.toNat, by omega⟩
  obtain ⟨x, hx⟩ : ∃ x, xs[n]? = some x := ⟨_, List.getElem?_eq_getElem (by omega)⟩
  have hax : At xs n x := ⟨hx⟩
  have hgx := getX hxs hx
  have hRx := hR _ (List.mem_of_getElem? hgx)
  have e : mbrF F G (n : Int) g = memN F x.b g F.length := by
    unfold mbrF
    rw [if_pos hb, Int.toNat_natCast, List.getD_eq_getElem?_getD, hgx, Option.getD_some]
  rw [e]
  refine C_sub (sub_peekX h4 hx) ?_
  refine C_form (.head _) fun Ax cx hxv => ?_
  have hec : EncC (eSX eI) x [.slice Ax x.b.length cx] := ⟨fun m cs h => by rw [h.1, hxv]⟩
  rw [hxv]
  have hS : Sub (rd eI (.slice Ax x.b.length cx) x.b :: L) [rd eI (.slice Ax x.b.length cx) x.b, rd eI (.slice B1 F.length cb) F, rd (eSX eI) (.slice C1 xs.length cc) xs, cel p [.slice A1 U.length ca, .slice B1 F.length cb, .slice C1 xs.length cc] 32] := sub_skip (Sub.trans (sub_dup h3) (sub_skip (Sub.trans (sub_dup h4) (sub_skip (sub_mem1 h1)))))
  repeat' (first | refine go ?_ | intro _ | (apply cG; first | refine cT ?_ | refine cF ?_ | refine cS (fun _ => ?_) fun _ => ?_) | (apply gW; refine sW ?_) | (apply gI; refine sI ?_) | (apply gE; refine sE ?_) | (apply gP; refine sP ?_) | (apply gC; refine sC ?_) | (apply gD; refine sD ?_) | fail)
  refine C_ownnil 3 eI ?_
  refine C_loopS (κ := Nat × Option Addr × Nat) [false, false, false, false, false, false, false, false, true, true, false, false, false, false, false, false, false, false, false, false, false, true, true, true, true, true, true, true, true, true, true, true, true, true, true, true, true, true, true, true, true, true, true, true, true, true, true, true, true, true, true, true, false, false, false, false] (fun k => [(8, .slice k.2.1 (memN F x.b g k.1).length k.2.2), (9, .int .i64 (k.1 : Int))]) (fun k => [(0, own 3 eI (.slice k.2.1 (memN F x.b g k.1).length k.2.2) (memN F x.b g k.1))]) (fun k => k.1 ≤ F.length) (fun k => F.length - k.1) (0, none, 0) (Nat.zero_le _) ⟨rfl, rfl, trivial⟩ ?_
  rintro ⟨i, A2, c2⟩ u hi
  dsimp only at hi
  dsimp only
  ((try dsimp only); refine C_n ?_; (try simp only [Nat.reduceAdd, Nat.zero_add]))
  by_cases hil : i < F.length
  rotate_left
  · obtain rfl : i = F.length := by omega
    by_cases h0 : 0 < (memN F x.b g F.length).length
    · rw [decide_eq_true h0]
      repeat' (first | refine go ?_ | intro _ | (apply cG; first | refine cT ?_ | refine cF ?_ | refine cS (fun _ => ?_) fun _ => ?_) | (apply gW; refine sW ?_) | (apply gI; refine sI ?_) | (apply gE; refine sE ?_) | (apply gP; refine sP ?_) | (apply gC; refine sC ?_) | (apply gD; refine sD ?_) | fail)
      refine E_res2 (by rfl) (by rfl) ⟨A2, c2, rfl, rfl⟩ Sb
    · rw [decide_eq_false h0]
      repeat' (first | refine go ?_ | intro _ | (apply cG; first | refine cT ?_ | refine cF ?_ | refine cS (fun _ => ?_) fun _ => ?_) | (apply gW; refine sW ?_) | (apply gI; refine sI ?_) | (apply gE; refine sE ?_) | (apply gP; refine sP ?_) | (apply gC; refine sC ?_) | (apply gD; refine sD ?_) | fail)
      refine E_res2 (by rfl) (by rfl) ⟨A2, c2, rfl, rfl⟩ Sb
  obtain ⟨f, hf⟩ : ∃ f, F[i]? = some f := ⟨_, List.getElem?_eq_getElem (by omega)⟩
  obtain ⟨hf0, hf1⟩ := hRx f (List.mem_of_getElem? hf)
  obtain ⟨k, rfl⟩ : ∃ k : Nat, f = (k : Int) := ⟨f.toNat, by omega⟩
  obtain ⟨r, hr⟩ : ∃ r, x.b[k]? = some r := ⟨_, List.getElem?_eq_getElem (by omega)⟩
  have haf : At F i (k : Int) := ⟨hf⟩
  have har : At x.b k r := ⟨hr⟩
  have hst := memN_succ (g := g) hf (by simpa using hr)
  have hlen : (memN F x.b g i).length ≤ 1000000 := Nat.le_trans (memN_len i) (by omega)
  obtain ⟨o, ho⟩ : ∃ o, memN F x.b g i = o := ⟨_, rfl⟩
  rw [ho] at hst hlen ⊢
  repeat' (first | refine go ?_ | intro _ | (apply cG; first | refine cT ?_ | refine cF ?_ | refine cS (fun _ => ?_) fun _ => ?_) | (apply gW; refine sW ?_) | (apply gI; refine sI ?_) | (apply gE; refine sE ?_) | (apply gP; refine sP ?_) | (apply gC; refine sC ?_) | (apply gD; refine sD ?_) | fail)
  refine C_draw (n := 99) [rd eI (.slice Ax x.b.length cx) x.b, rd eI (.slice B1 F.length cb) F, rd (eSX eI) (.slice C1 xs.length cc) xs, cel p [.slice A1 U.length ca, .slice B1 F.length cb, .slice C1 xs.length cc] 32] [(0, 1), (1, 1), (2, 1), (3, 1), (4, 1), (5, 1), (6, 1), (7, 1), (8, 1), (9, 1), (10, 1), (11, 1), (12, 1), (13, 1), (14, 1), (15, 1), (16, 1), (17, 1)] (by kernel_rfl) (by kernel_rfl) (sub_drop hS) ?_
  by_cases hg : r = g
  · rw [if_pos hg] at hst
    repeat' (first | refine go ?_ | intro _ | (apply cG; first | refine cT ?_ | refine cF ?_ | refine cS (fun _ => ?_) fun _ => ?_) | (apply gW; refine sW ?_) | (apply gI; refine sI ?_) | (apply gE; refine sE ?_) | (apply gP; refine sP ?_) | (apply gC; refine sC ?_) | (apply gD; refine sD ?_) | fail)
    refine O_d (dy_lit1 (R := eI) (i : Int) (hcs := by rfl) (hel := fun _ _ _ => by rfl)) ?_; rintro _ _ ⟨_, rfl, rfl⟩; refine O_n ?_
    repeat' (first | refine go ?_ | intro _ | (apply cG; first | refine cT ?_ | refine cF ?_ | refine cS (fun _ => ?_) fun _ => ?_) | (apply gW; refine sW ?_) | (apply gI; refine sI ?_) | (apply gE; refine sE ?_) | (apply gP; refine sP ?_) | (apply gC; refine sC ?_) | (apply gD; refine sD ?_) | fail)
    rename_i A3 c3
    exact E_round (i + 1, A3, c3) hil (by dsimp only; omega) ⟨by dsimp only; rw [hst, List.length_append]; rfl, rfl, trivial⟩ (by dsimp only; rw [hst, List.length_append]; exact Sb)
  · rw [if_neg hg, List.append_nil] at hst
    repeat' (first | refine go ?_ | intro _ | (apply cG; first | refine cT ?_ | refine cF ?_ | refine cS (fun _ => ?_) fun _ => ?_) | (apply gW; refine sW ?_) | (apply gI; refine sI ?_) | (apply gE; refine sE ?_) | (apply gP; refine sP ?_) | (apply gC; refine sC ?_) | (apply gD; refine sD ?_) | fail)
    exact E_round (i + 1, A2, c2) hil (by dsimp only; omega) ⟨by dsimp only; rw [hst]; rfl, rfl, trivial⟩ (by dsimp only; rw [hst]; exact Sb)
end
end Go.Proofs.Ytlmabajgnjiigaa
namespace Go.Proofs.Ytlmabajgnjiigaa
open Go Go.RowKit
set_option linter.unusedVariables false
set_option linter.unusedSimpArgs false
section
variable {P : Program} {W0 w : World} {L L' S : List HP} {ops : Array Oper} {rest : List Oper} {o : Oper} {a a' : Act} {Q : Exit → Act → World → Prop}
  {d : Option Tmp} {ty : TypeId} {pos : String} {aft : Array Edge} {gd : Option (Nat × Bool)} {x y z : Operand} {v : Value} {t u : TypeId} {k k' : IntKind} {m n r : Int} {b : Nat}
theorem sv_buildA {len size : Nat} {e : TypeId} {zs cs : Array Value} {ps : Array (Nat × Operand)} (hu : P.underlying t = some (.array len e)) (hs : ∀ w, (sizeOf e).run P w = .ok size w) (hz : ∀ w, (zeroValue t).run P w = .ok (.agg zs) w)
    (hf : Instr.fill (fun i => some (i * size, size)) zs (ps.map fun x => (x.1, a.eval x.2)).toList = some cs) : SV P W0 S ⟨d, .build t ps, ty, pos, aft, gd⟩ a (.agg cs) := ⟨fun w _ => by
  unfold execOp
  simp only [Instr.build, Sem.run_bind, hz, Result.andThen_ok, run_underlying hu, hs, Value.cells]
  have hf2 : Instr.fill (fun i => some (i * size, size)) zs (List.map (fun x => (x.1, a.eval x.2)) ps.toList) = some cs := by simpa using hf
  simp [hf2]⟩
theorem sv_index {len size : Nat} {e : TypeId} {cs : Array Value} {i : Int} (hu : P.underlying t = some (.array len e)) (hs : ∀ w, (sizeOf e).run P w = .ok size w) (hx : a.eval x = .agg cs) (hy : a.eval y = .int k i) (h0 : 0 ≤ i) (h1 : i < len)
    (hv : ∀ w, (part e cs (i.toNat * size)).run P w = .ok v w) : SV P W0 S ⟨d, .index t x y, ty, pos, aft, gd⟩ a v := ⟨fun w _ => by
  unfold execOp
  simp [Instr.index, hx, hy, asIntOf, Sem.run_bind, run_underlying hu, hs, h0, h1, hv]⟩
theorem addr_add (b off n : Nat) : (⟨b, off, none⟩ : Addr).add n = ⟨b, off + n, none⟩ := by
  unfold Addr.add
  split
  · rename_i h
    rw [h]
    rfl
  · rfl
theorem sv_idxA {len size off o2 : Nat} {e : TypeId} {i : Int} (hu : P.underlying t = some (.array len e)) (hs : ∀ w, (sizeOf e).run P w = .ok size w) (hx : a.eval x = .pointer (some ⟨b, off, none⟩)) (hy : a.eval y = .int k i) (h0 : 0 ≤ i) (h1 : i < len) (ho : off + i.toNat * size = o2) :
    SV P W0 S ⟨d, .indexAddr t x y, ty, pos, aft, gd⟩ a (.pointer (some ⟨b, o2, none⟩)) := ⟨fun w _ => by
  subst ho
  unfold execOp
  simp [Instr.indexAt, Instr.sureAddr, hx, hy, asIntOf, Sem.run_bind, run_underlying hu, hs, h0, h1, addr_add]⟩
instance ev_func {f : FuncId} : Ev a (.func f) (.func (.func f) #[] #[]) := ⟨rfl⟩
end
end Go.Proofs.Ytlmabajgnjiigaa
namespace Go.Proofs.Ytlmabajgnjiigaa
open Go Go.RowKit
set_option linter.unusedVariables false
set_option linter.unusedSimpArgs false
set_option maxRecDepth 20000
set_option synthInstance.maxSize 100000
set_option synthInstance.maxHeartbeats 400000
instance svc_pair {P : Program} {W0 : World} {S : List HP} {a : Act} {d : Option Tmp} {ty t et : TypeId} {pos : String} {aft : Array Edge} {gd : Option (Nat × Bool)} {by_ by2 : Nat} {x y : Operand} {i j : Int} [hk : UL P t (.array 2 et)] [hu : UL P et (.int .i64)] [ti : TI P et (.int .i64 0) 1 by_] [tk : TI P t (.agg #[.int .i64 0, .int .i64 0]) 2 by2] [h1 : Ev a x (.int .i64 i)] [h2 : Ev a y (.int .i64 j)] : SVc P W0 S ⟨d, .build t #[(0, x), (1, y)], ty, pos, aft, gd⟩ a (.agg #[.int .i64 i, .int .i64 j]) :=
  ⟨sv_buildA hk.pf (fun w => sizeOf_run w) (fun w => zero_run w) (by simp [h1.pf, h2.pf]; rfl)⟩
def ePr : Enc (Int × Int) :=
  ⟨2, fun m b cs => cs = [.int .i64 b.1, .int .i64 b.2], fun hm e => e, fun e => by subst e; rfl,
    fun {_ x _} e u hu => by
      subst e
      simp only [List.mem_cons, List.not_mem_nil, or_false] at hu
      rcases hu with rfl | rfl <;> rfl⟩
instance : Sz ePr 2 := ⟨rfl⟩
instance {b : Int × Int} : EncC ePr b [.int .i64 b.1, .int .i64 b.2] := ⟨fun _ _ h => h⟩
/-- what is covered, and what is left -/
abbrev CS := List (Int × Int) × List Int
def covSt (F : List Int) (G : List (List Int)) (s g : Int) (c : CS) : CS :=
  if 0 < (mbrF F G s g).length ∧ (mbrF F G s g).all (memB c.2) = true then (c.1 ++ [(s, g)], wthF c.2 (mbrF F G s g)) else c
def covG (F : List Int) (G : List (List Int)) (s : Int) : Nat → CS → CS
  | 0, c => c
  | n + 1, c => covSt F G s (n : Int) (covG F G s n c)
/-- the last n scales are done in turn -/
def covS (F : List Int) (G : List (List Int)) : Nat → CS → CS
  | 0, c => c
  | n + 1, c => covS F G n (covG F G (n : Int) F.length c)
def covF (F : List Int) (G : List (List Int)) (l : List Int) : List (Int × Int) := (covS F G G.length ([], l)).1 ++ (covS F G G.length ([], l)).2.map fun a => (-1, a)
def incF : List Int → Bool
  | a :: b :: r => decide (a < b) && incF (b :: r)
  | _ => true
theorem incF_drop {l : List Int} {i : Nat} {a b : Int} (ha : l[i]? = some a) (hb : l[i + 1]? = some b) : incF (l.drop i) = (decide (a < b) && incF (l.drop (i + 1))) := by
  have h1 : l.drop i = a :: l.drop (i + 1) := (List.drop_eq_getElem_cons (List.getElem?_eq_some_iff.1 ha).1).trans (by rw [(List.getElem?_eq_some_iff.1 ha).2])
  have h2 : l.drop (i + 1) = b :: l.drop (i + 1 + 1) := (List.drop_eq_getElem_cons (List.getElem?_eq_some_iff.1 hb).1).trans (by rw [(List.getElem?_eq_some_iff.1 hb).2])
  rw [h1, h2]
  rfl
theorem incF_end {l : List Int} {i : Nat} (h : l.length ≤ i + 1) : incF (l.drop i) = true := by
  have : (l.drop i).length ≤ 1 := by rw [List.length_drop]; omega
  match hd : l.drop i, this with
  | [], _ => rfl
  | [_], _ => rfl
  | _ :: _ :: _, h => simp at h
def inB (n : Nat) (x : Int) : Bool := decide (0 ≤ x ∧ x < (n : Int))
/-- the error of Cover -/
def covE (n : Nat) (l : List Int) : Int := if l.all (inB n) = true then (if incF l = true then 0 else 16) else 7
def covO (F : List Int) (G : List (List Int)) (n : Nat) (l : List Int) : List (Int × Int) := if covE n l = 0 then covF F G l else []
theorem wth_lt {l s : List Int} (h0 : 0 < s.length) (h : s.all (memB l) = true) : (wthF l s).length + 1 ≤ l.length := by
  obtain ⟨x, hx⟩ : ∃ x, x ∈ s := ⟨s[0], List.getElem_mem _⟩
  have hl : x ∈ l := of_decide_eq_true (List.all_eq_true.1 h x hx)
  unfold wthF
  have : (l.filter fun x => !memB s x).length < l.length := by
    refine List.length_filter_lt_length_iff_exists.2 ⟨x, hl, ?_⟩
    have : memB s x = true := decide_eq_true hx
    simp [this]
  omega
theorem RTin.c {t : RT} {A : HP} {L : List HP} (h : RTin t L) : RTin t (A :: L) := ⟨.tail _ h.cell, .tail _ h.u, .tail _ h.f, .tail _ h.g⟩
theorem mbrF_len {F : List Int} {G : List (List Int)} {s g : Int} : (mbrF F G s g).length ≤ F.length := by
  unfold mbrF
  split
  · exact memN_len _
  · exact Nat.zero_le _
theorem covSt_len {F : List Int} {G : List (List Int)} {s g : Int} {c : CS} : (covSt F G s g c).1.length + (covSt F G s g c).2.length ≤ c.1.length + c.2.length := by
  unfold covSt
  split
  · rename_i h
    have := wth_lt h.1 h.2
    dsimp only
    rw [List.length_append, List.length_cons, List.length_nil]
    omega
  · exact Nat.le_refl _
section
variable {W0 : World} {L : List HP}
set_option maxHeartbeats 4000000 in
theorem rCover_ct {t : RT} {A : Option Addr} {c : Nat} {l : List Int} {G : List (List Int)} (ht : RTin t L) (hxs : t.xs.map SX.b = G) (hF : t.F.length ≤ 1000000) (hR : ∀ x ∈ G, ∀ f ∈ t.F, 0 ≤ f ∧ f < (x.length : Int)) (hv : rd eI (.slice A l.length c) l ∈ L) (hl : l.length ≤ 1000000) (hG : G.length ≤ 1000000) :
    CT Try.prog 27 #[.pointer (some ⟨t.p, 0, none⟩), .slice A l.length c] W0 L fun r L' => ∃ A2 c2, r = .tuple #[.slice A2 (covO t.F G t.U.length l).length c2, .int .i64 (covE t.U.length l)] ∧ L' = own 43 ePr (.slice A2 (covO t.F G t.U.length l).length c2) (covO t.F G t.U.length l) :: L := by
  obtain ⟨p, A1, B1, C1, ca, cb, cc, U, F, xs⟩ := t
  have ht0 := ht
  obtain ⟨h1, h2, h3, h4⟩ := ht
  dsimp only at h1 h2 h3 h4 hxs hF hR ⊢
  have hxl : xs.length = G.length := by rw [← hxs, List.length_map]
  have hip : InC p L _ _ := ⟨h1⟩
  have hsF : ScA B1 L F.length cb eI F := ⟨.inl h3⟩
  have hsl : ScA A L l.length c eI l := ⟨.inl hv⟩
  have hS : Sub L [rd eI (.slice A l.length c) l, cel p [.slice A1 U.length ca, .slice B1 F.length cb, .slice C1 xs.length cc] 32] := Sub.trans (sub_dup hv) (sub_skip (sub_mem1 h1))
  have hS2 : Sub L [rd eI (.slice A l.length c) l] := sub_mem1 hv
  obtain ⟨e, he⟩ : ∃ e, covE U.length l = e := ⟨_, rfl⟩
  obtain ⟨o, ho⟩ : ∃ o, covO F G U.length l = o := ⟨_, rfl⟩
  rw [he, ho]
  refine CT_enter Try.func27 rfl ?_; (simp only [Try.ntmps27, List.size_toArray, List.length_cons, List.length_nil, Nat.reduceAdd, Nat.reduceSub, Array.replicate_succ, Array.replicate_zero, List.push_toArray, List.append_toArray, List.nil_append, List.cons_append])
  repeat' (first | refine go ?_ | intro _ | (apply cG; first | refine cT ?_ | refine cF ?_ | refine cS (fun _ => ?_) fun _ => ?_) | (apply gW; refine sW ?_) | (apply gI; refine sI ?_) | (apply gE; refine sE ?_) | (apply gP; refine sP ?_) | (apply gC; refine sC ?_) | (apply gD; refine sD ?_) | fail)
  refine C_loopS (κ := Nat) [false, false, false, false, true, true, true, false, false, false, false, false, false, false, false, true, true, true, true, true, true, true, true, true, true, true, true, true, true, true, true, true, true, true, true, true, true, true, false, false, false, false, false, false, false, false, false, false, false, false, false, false, false, false, false, false, false, false, false, false, false, false, false, false, false, false, false, false, false, false, false, false, false, false, false, false, false, false, false, false, false, false, false, false, false, false, false, false, false, false, false, false, false, false, false, false, false, false, false, false, false, false, false, false, false, false, false, false, false, false, false] (fun k => [(6, .int .i64 (k : Int))]) (fun k => []) (fun k => k ≤ l.length ∧ (l.drop k).all (inB U.length) = l.all (inB U.length)) (fun k => l.length - k) 0 ⟨Nat.zero_le _, rfl⟩ ⟨rfl, trivial⟩ ?_
  rintro i u ⟨hi, hf⟩
  ((try dsimp only); refine C_n ?_; (try simp only [Nat.reduceAdd, Nat.zero_add]))
  by_cases hil : i < l.length
  · obtain ⟨x, hx⟩ : ∃ x, l[i]? = some x := ⟨_, List.getElem?_eq_getElem (by omega)⟩
    have hax : At l i x := ⟨hx⟩
    rw [all_drop hx] at hf
    repeat' (first | refine go ?_ | intro _ | (apply cG; first | refine cT ?_ | refine cF ?_ | refine cS (fun _ => ?_) fun _ => ?_) | (apply gW; refine sW ?_) | (apply gI; refine sI ?_) | (apply gE; refine sE ?_) | (apply gP; refine sP ?_) | (apply gC; refine sC ?_) | (apply gD; refine sD ?_) | fail)
    refine C_draw (n := 99) [rd eI (.slice A l.length c) l, cel p [.slice A1 U.length ca, .slice B1 F.length cb, .slice C1 xs.length cc] 32] [(0, 1), (1, 1), (2, 1), (3, 1), (4, 1), (5, 1), (6, 1), (7, 1), (8, 1), (9, 1), (10, 1), (11, 1), (12, 1), (13, 1), (14, 1), (15, 1), (16, 1)] (by kernel_rfl) (by kernel_rfl) hS ?_
    by_cases hb : 0 ≤ x ∧ x < (U.length : Int)
    · have hb2 : inB U.length x = true := decide_eq_true hb
      rw [hb2, Bool.true_and] at hf
      obtain ⟨hb3, hb4⟩ := hb
      repeat' (first | refine go ?_ | intro _ | (apply cG; first | refine cT ?_ | refine cF ?_ | refine cS (fun _ => ?_) fun _ => ?_) | (apply gW; refine sW ?_) | (apply gI; refine sI ?_) | (apply gE; refine sE ?_) | (apply gP; refine sP ?_) | (apply gC; refine sC ?_) | (apply gD; refine sD ?_) | fail)
      exact E_round (i + 1) ⟨hil, hf⟩ (by omega) ⟨rfl, trivial⟩ Sb
    · have hb2 : inB U.length x = false := decide_eq_false hb
      rw [hb2, Bool.false_and] at hf
      have he7 : e = 7 := by rw [← he]; unfold covE; rw [← hf]; rfl
      have ho0 : o = [] := by rw [← ho]; unfold covO; rw [he, he7]; rfl
      subst he7 ho0
      by_cases h0 : x < 0
      · repeat' (first | refine go ?_ | intro _ | (apply cG; first | refine cT ?_ | refine cF ?_ | refine cS (fun _ => ?_) fun _ => ?_) | (apply gW; refine sW ?_) | (apply gI; refine sI ?_) | (apply gE; refine sE ?_) | (apply gP; refine sP ?_) | (apply gC; refine sC ?_) | (apply gD; refine sD ?_) | fail)
        refine E_ownnil 43 ePr ?_
        refine E_res2 (by rfl) (by rfl) ⟨none, 0, rfl, rfl⟩ Sb
      · have : (U.length : Int) ≤ x := by omega
        repeat' (first | refine go ?_ | intro _ | (apply cG; first | refine cT ?_ | refine cF ?_ | refine cS (fun _ => ?_) fun _ => ?_) | (apply gW; refine sW ?_) | (apply gI; refine sI ?_) | (apply gE; refine sE ?_) | (apply gP; refine sP ?_) | (apply gC; refine sC ?_) | (apply gD; refine sD ?_) | fail)
        refine E_ownnil 43 ePr ?_
        refine E_res2 (by rfl) (by rfl) ⟨none, 0, rfl, rfl⟩ Sb
  obtain rfl : i = l.length := by omega
  rw [List.drop_length] at hf
  have hall : l.all (inB U.length) = true := hf.symm
  repeat' (first | refine go ?_ | intro _ | (apply cG; first | refine cT ?_ | refine cF ?_ | refine cS (fun _ => ?_) fun _ => ?_) | (apply gW; refine sW ?_) | (apply gI; refine sI ?_) | (apply gE; refine sE ?_) | (apply gP; refine sP ?_) | (apply gC; refine sC ?_) | (apply gD; refine sD ?_) | fail)
  refine C_loopS (κ := Nat) [false, false, false, false, true, true, false, true, false, false, false, false, false, false, false, false, false, false, false, false, false, false, false, false, false, false, false, false, false, false, false, false, false, false, false, false, false, false, true, true, true, true, true, true, true, true, true, true, true, true, true, true, true, true, false, false, false, false, false, false, false, false, false, false, false, false, false, false, false, false, false, false, false, false, false, false, false, false, false, false, false, false, false, false, false, false, false, false, false, false, false, false, false, false, false, false, false, false, false, false, false, false, false, false, false, false, false, false, false, false, false] (fun k => [(7, .int .i64 (k : Int))]) (fun k => []) (fun k => 1 ≤ k ∧ incF (l.drop (k - 1)) = incF l) (fun k => l.length - k) 1 ⟨Nat.le_refl _, rfl⟩ ⟨rfl, trivial⟩ ?_
  rintro i u1 ⟨hi1, hf1⟩
  ((try dsimp only); refine C_n ?_; (try simp only [Nat.reduceAdd, Nat.zero_add]))
  by_cases hil1 : i < l.length
  · obtain ⟨n, rfl⟩ : ∃ n, i = n + 1 := ⟨i - 1, by omega⟩
    obtain ⟨x, hx⟩ : ∃ x, l[n]? = some x := ⟨_, List.getElem?_eq_getElem (by omega)⟩
    obtain ⟨y, hy⟩ : ∃ x, l[n + 1]? = some x := ⟨_, List.getElem?_eq_getElem (by omega)⟩
    have hax : At l n x := ⟨hx⟩
    have hay : At l (n + 1) y := ⟨hy⟩
    rw [Nat.add_sub_cancel, incF_drop hx hy] at hf1
    have en : ((n + 1 : Nat) : Int) - 1 = (n : Int) := by omega
    repeat' (first | refine go ?_ | intro _ | (apply cG; first | refine cT ?_ | refine cF ?_ | refine cS (fun _ => ?_) fun _ => ?_) | (apply gW; refine sW ?_) | (apply gI; refine sI ?_) | (apply gE; refine sE ?_) | (apply gP; refine sP ?_) | (apply gC; refine sC ?_) | (apply gD; refine sD ?_) | fail)
    refine C_draw (n := 99) [rd eI (.slice A l.length c) l] [(0, 1), (1, 1), (2, 1), (3, 1), (4, 1), (5, 1), (6, 1), (7, 1), (8, 1), (9, 1)] (by kernel_rfl) (by kernel_rfl) hS2 ?_
    by_cases hb : x < y
    · rw [decide_eq_true hb, Bool.true_and] at hf1
      repeat' (first | refine go ?_ | intro _ | (apply cG; first | refine cT ?_ | refine cF ?_ | refine cS (fun _ => ?_) fun _ => ?_) | (apply gW; refine sW ?_) | (apply gI; refine sI ?_) | (apply gE; refine sE ?_) | (apply gP; refine sP ?_) | (apply gC; refine sC ?_) | (apply gD; refine sD ?_) | fail)
      refine sE (r := x) ?_ (by show l[(((n + 1 : Nat) : Int) - 1).toNat]? = some x; rw [en, Int.toNat_natCast]; exact hx)
      repeat' (first | refine go ?_ | intro _ | (apply cG; first | refine cT ?_ | refine cF ?_ | refine cS (fun _ => ?_) fun _ => ?_) | (apply gW; refine sW ?_) | (apply gI; refine sI ?_) | (apply gE; refine sE ?_) | (apply gP; refine sP ?_) | (apply gC; refine sC ?_) | (apply gD; refine sD ?_) | fail)
      exact E_round (n + 1 + 1) ⟨by omega, hf1⟩ (by omega) ⟨rfl, trivial⟩ Sb
    · rw [decide_eq_false hb, Bool.false_and] at hf1
      have he7 : e = 16 := by rw [← he]; unfold covE; rw [hall, ← hf1]; rfl
      have ho0 : o = [] := by rw [← ho]; unfold covO; rw [he, he7]; rfl
      subst he7 ho0
      repeat' (first | refine go ?_ | intro _ | (apply cG; first | refine cT ?_ | refine cF ?_ | refine cS (fun _ => ?_) fun _ => ?_) | (apply gW; refine sW ?_) | (apply gI; refine sI ?_) | (apply gE; refine sE ?_) | (apply gP; refine sP ?_) | (apply gC; refine sC ?_) | (apply gD; refine sD ?_) | fail)
      refine sE (r := x) ?_ (by show l[(((n + 1 : Nat) : Int) - 1).toNat]? = some x; rw [en, Int.toNat_natCast]; exact hx)
      repeat' (first | refine go ?_ | intro _ | (apply cG; first | refine cT ?_ | refine cF ?_ | refine cS (fun _ => ?_) fun _ => ?_) | (apply gW; refine sW ?_) | (apply gI; refine sI ?_) | (apply gE; refine sE ?_) | (apply gP; refine sP ?_) | (apply gC; refine sC ?_) | (apply gD; refine sD ?_) | fail)
      refine E_ownnil 43 ePr ?_
      refine E_res2 (by rfl) (by rfl) ⟨none, 0, rfl, rfl⟩ Sb
  rw [incF_end (by omega)] at hf1
  have he7 : e = 0 := by rw [← he]; unfold covE; rw [hall, ← hf1]; rfl
  have ho0 : o = covF F G l := by rw [← ho]; unfold covO; rw [he, he7]; rfl
  subst he7
  clear hi1 hf hf1
  rw [ho0]
  clear ho0 ho he
  have hpl : ∀ {n : Nat} {st : CS}, (covG F G n F.length st).1.length + (covG F G n F.length st).2.length ≤ st.1.length + st.2.length := by
    intro n st
    have : ∀ k, (covG F G n k st).1.length + (covG F G n k st).2.length ≤ st.1.length + st.2.length := by
      intro k
      induction k with
      | zero => exact Nat.le_refl _
      | succ k ih => exact Nat.le_trans covSt_len ih
    exact this _
  repeat' (first | refine go ?_ | intro _ | (apply cG; first | refine cT ?_ | refine cF ?_ | refine cS (fun _ => ?_) fun _ => ?_) | (apply gW; refine sW ?_) | (apply gI; refine sI ?_) | (apply gE; refine sE ?_) | (apply gP; refine sP ?_) | (apply gC; refine sC ?_) | (apply gD; refine sD ?_) | fail)
  rw [hxl]
  refine C_ownnil 43 ePr ?_
  refine C_sub (S := own 43 ePr (.slice none 0 0) [] :: rd eI (.slice A l.length c) l :: L) (sub_skip (sub_dup hv)) ?_
  refine C_loopS (κ := Nat × CS × (Option Addr × Nat) × Option Addr × Nat) [false, false, false, false, false, false, false, false, true, true, true, true, true, true, false, false, false, false, false, false, false, false, false, false, false, false, false, false, false, false, false, false, false, false, false, false, false, false, false, false, false, false, false, false, false, false, false, false, false, false, false, false, false, false, false, false, false, false, false, false, false, true, true, true, true, true, true, true, true, true, true, true, true, true, true, true, true, true, true, true, true, true, true, true, true, true, true, true, true, true, true, true, true, true, true, true, false, false, false, false, false, false, false, false, false, false, false, false, false, false, false] (fun k => [(8, .slice k.2.2.1.1 k.2.1.1.length k.2.2.1.2), (9, .slice k.2.2.2.1 k.2.1.2.length k.2.2.2.2), (10, .int .i64 ((k.1 : Int) - 1))]) (fun k => [(0, own 43 ePr (.slice k.2.2.1.1 k.2.1.1.length k.2.2.1.2) k.2.1.1), (1, rd eI (.slice k.2.2.2.1 k.2.1.2.length k.2.2.2.2) k.2.1.2)]) (fun k => k.1 ≤ G.length ∧ k.2.1.1.length + k.2.1.2.length ≤ l.length ∧ covS F G k.1 k.2.1 = covS F G G.length ([], l)) (fun k => k.1) (G.length, ([], l), (none, 0), A, c) ⟨Nat.le_refl _, by simp, rfl⟩ ⟨rfl, rfl, rfl, trivial⟩ ?_
  rintro ⟨n, ⟨out, rest⟩, ⟨A2, c2⟩, A3, c3⟩ u2 ⟨hn, hlen, hst⟩
  dsimp only at hn hlen hst
  dsimp only
  ((try dsimp only); refine C_n ?_; (try simp only [Nat.reduceAdd, Nat.zero_add]))
  have hpt : own 43 ePr (.slice A2 out.length c2) out :: rd eI (.slice A3 rest.length c3) rest :: L = own 43 ePr (.slice A2 out.length c2) out :: rd eI (.slice A3 rest.length c3) rest :: L := rfl
  match n, hn, hst with
  | 0, _, hst =>
    have hst' : (out, rest) = covS F G G.length ([], l) := hst
    repeat' (first | refine go ?_ | intro _ | (apply cG; first | refine cT ?_ | refine cF ?_ | refine cS (fun _ => ?_) fun _ => ?_) | (apply gW; refine sW ?_) | (apply gI; refine sI ?_) | (apply gE; refine sE ?_) | (apply gP; refine sP ?_) | (apply gC; refine sC ?_) | (apply gD; refine sD ?_) | fail)
    have hcf : covF F G l = out ++ rest.map fun a => (-1, a) := by
      unfold covF
      rw [← hst']
    rw [hcf]
    refine C_loopS (κ := Nat × Option Addr × Nat × List (Int × Int)) [false, false, false, false, false, false, false, false, true, false, false, false, false, false, true, false, false, false, false, false, false, false, false, false, false, false, false, false, false, false, false, false, false, false, false, false, false, false, false, false, false, false, false, false, false, false, false, false, false, false, false, false, false, false, false, false, false, false, false, false, false, false, false, false, false, false, false, false, false, false, false, false, false, false, false, false, false, false, false, false, false, false, false, false, false, false, false, false, false, false, false, false, false, false, false, false, true, true, true, true, true, true, true, true, true, true, true, true, true, true, false] (fun k => [(8, .slice k.2.1 k.2.2.2.length k.2.2.1), (14, .int .i64 (k.1 : Int))]) (fun k => [(0, own 43 ePr (.slice k.2.1 k.2.2.2.length k.2.2.1) k.2.2.2)]) (fun k => k.1 ≤ rest.length ∧ k.2.2.2 = out ++ (rest.take k.1).map fun a => (-1, a)) (fun k => rest.length - k.1) (0, A2, c2, out) ⟨Nat.zero_le _, by simp⟩ ⟨rfl, rfl, trivial⟩ ?_
    rintro ⟨i, A4, c4, q⟩ u3 ⟨hi, hq⟩
    dsimp only at hi hq
    dsimp only
    ((try dsimp only); refine C_n ?_; (try simp only [Nat.reduceAdd, Nat.zero_add]))
    by_cases hil2 : i < rest.length
    rotate_left
    · obtain rfl : i = rest.length := by omega
      rw [List.take_length] at hq
      rw [← hq]
      repeat' (first | refine go ?_ | intro _ | (apply cG; first | refine cT ?_ | refine cF ?_ | refine cS (fun _ => ?_) fun _ => ?_) | (apply gW; refine sW ?_) | (apply gI; refine sI ?_) | (apply gE; refine sE ?_) | (apply gP; refine sP ?_) | (apply gC; refine sC ?_) | (apply gD; refine sD ?_) | fail)
      refine E_res2 (by rfl) (by rfl) ⟨A4, c4, rfl, rfl⟩ Sb
    obtain ⟨x, hx⟩ : ∃ x, rest[i]? = some x := ⟨_, List.getElem?_eq_getElem (by omega)⟩
    have hax : At rest i x := ⟨hx⟩
    have hrt : (rest.take (i + 1)).map (fun a => ((-1 : Int), a)) = (rest.take i).map (fun a => ((-1 : Int), a)) ++ [(-1, x)] := by
      rw [List.take_add_one, hx, List.map_append]
      rfl
    have hlo : q.length = out.length + i := by
      rw [hq, List.length_append, List.length_map, List.length_take]
      omega
    repeat' (first | refine go ?_ | intro _ | (apply cG; first | refine cT ?_ | refine cF ?_ | refine cS (fun _ => ?_) fun _ => ?_) | (apply gW; refine sW ?_) | (apply gI; refine sI ?_) | (apply gE; refine sE ?_) | (apply gP; refine sP ?_) | (apply gC; refine sC ?_) | (apply gD; refine sD ?_) | fail)
    refine O_d (dy_lit1 (R := ePr) ((-1, x) : Int × Int) (hcs := by rfl) (hel := fun _ _ _ => by rfl)) ?_; rintro _ _ ⟨_, rfl, rfl⟩; refine O_n ?_
    repeat' (first | refine go ?_ | intro _ | (apply cG; first | refine cT ?_ | refine cF ?_ | refine cS (fun _ => ?_) fun _ => ?_) | (apply gW; refine sW ?_) | (apply gI; refine sI ?_) | (apply gE; refine sE ?_) | (apply gP; refine sP ?_) | (apply gC; refine sC ?_) | (apply gD; refine sD ?_) | fail)
    rename_i A5 c5
    exact E_round (i + 1, A5, c5, q ++ [(-1, x)]) ⟨hil2, by dsimp only; rw [hrt, ← List.append_assoc, ← hq]⟩ (by dsimp only; omega) ⟨by dsimp only; rw [List.length_append]; rfl, rfl, trivial⟩ (by dsimp only; rw [List.length_append]; exact Sb)
  | n + 1, hn, hst =>
  have en : ((n + 1 : Nat) : Int) - 1 = (n : Int) := by omega
  rw [en]
  clear hpt
  repeat' (first | refine go ?_ | intro _ | (apply cG; first | refine cT ?_ | refine cF ?_ | refine cS (fun _ => ?_) fun _ => ?_) | (apply gW; refine sW ?_) | (apply gI; refine sI ?_) | (apply gE; refine sE ?_) | (apply gP; refine sP ?_) | (apply gC; refine sC ?_) | (apply gD; refine sD ?_) | fail)
  refine C_loopS (κ := Nat × CS × (Option Addr × Nat) × Option Addr × Nat) [false, false, false, false, false, false, false, false, true, true, false, true, true, true, false, false, false, false, false, false, false, false, false, false, false, false, false, false, false, false, false, false, false, false, false, false, false, false, false, false, false, false, false, false, false, false, false, false, false, false, false, false, false, false, false, false, false, false, false, false, false, false, false, false, false, true, true, true, true, true, true, true, true, true, true, true, true, true, true, true, true, true, true, true, true, true, true, true, true, true, true, true, true, true, true, true, false, false, false, false, false, false, false, false, false, false, false, false, false, false, false] (fun k => [(8, .slice k.2.2.1.1 k.2.1.1.length k.2.2.1.2), (9, .slice k.2.2.2.1 k.2.1.2.length k.2.2.2.2), (11, .int .i64 (k.1 : Int))]) (fun k => [(0, own 43 ePr (.slice k.2.2.1.1 k.2.1.1.length k.2.2.1.2) k.2.1.1), (1, rd eI (.slice k.2.2.2.1 k.2.1.2.length k.2.2.2.2) k.2.1.2)]) (fun k => k.1 ≤ F.length ∧ k.2.1.1.length + k.2.1.2.length ≤ l.length ∧ covG F G (n : Int) k.1 (out, rest) = k.2.1) (fun k => F.length - k.1) (0, (out, rest), (A2, c2), A3, c3) ⟨Nat.zero_le _, hlen, rfl⟩ ⟨rfl, rfl, rfl, trivial⟩ ?_
  rintro ⟨m, ⟨out1, rest1⟩, ⟨A4, c4⟩, A5, c5⟩ u3 ⟨hm, hlen1, hst1⟩
  dsimp only at hm hlen1 hst1
  dsimp only
  ((try dsimp only); refine C_n ?_; (try simp only [Nat.reduceAdd, Nat.zero_add]))
  by_cases hmF : m < F.length
  rotate_left
  · obtain rfl : m = F.length := by omega
    repeat' (first | refine go ?_ | intro _ | (apply cG; first | refine cT ?_ | refine cF ?_ | refine cS (fun _ => ?_) fun _ => ?_) | (apply gW; refine sW ?_) | (apply gI; refine sI ?_) | (apply gE; refine sE ?_) | (apply gP; refine sP ?_) | (apply gC; refine sC ?_) | (apply gD; refine sD ?_) | fail)
    exact E_round (n, (out1, rest1), (A4, c4), A5, c5) ⟨by dsimp only; omega, hlen1, by dsimp only; rw [← hst, ← hst1]; rfl⟩ (by dsimp only; omega) ⟨rfl, rfl, rfl, trivial⟩ Sb
  repeat' (first | refine go ?_ | intro _ | (apply cG; first | refine cT ?_ | refine cF ?_ | refine cS (fun _ => ?_) fun _ => ?_) | (apply gW; refine sW ?_) | (apply gI; refine sI ?_) | (apply gE; refine sE ?_) | (apply gP; refine sP ?_) | (apply gC; refine sC ?_) | (apply gD; refine sD ?_) | fail)
  refine O_d (dy_call ArgsI.pf (by first | exact rfl | trivial | (intro a b; rfl)) (rMembers_ct (s := (n : Int)) (g := (m : Int)) ht0.c.c hxs hF hR ⟨by omega, by omega⟩)) ?_; rintro _ _ ⟨_, ⟨A6, c6, rfl, rfl⟩, rfl⟩; refine O_n ?_
  dsimp only
  have hsn : covG F G (n : Int) (m + 1) (out, rest) = covSt F G (n : Int) (m : Int) (out1, rest1) := by
    show covSt F G (n : Int) (m : Int) (covG F G (n : Int) m (out, rest)) = _
    rw [hst1]
  have hmb1 := mbrF_len (F := F) (G := G) (s := (n : Int)) (g := (m : Int))
  unfold covSt at hsn
  obtain ⟨mb, hmb⟩ : ∃ mb, mbrF F G (n : Int) (m : Int) = mb := ⟨_, rfl⟩
  rw [hmb] at hmb1 hsn ⊢
  dsimp only at hsn
  refine O_frz 0 ?_
  by_cases hb0 : 0 < mb.length
  rotate_left
  · rw [if_neg (fun h => hb0 h.1)] at hsn
    rw [decide_eq_false hb0]
    repeat' (first | refine go ?_ | intro _ | (apply cG; first | refine cT ?_ | refine cF ?_ | refine cS (fun _ => ?_) fun _ => ?_) | (apply gW; refine sW ?_) | (apply gI; refine sI ?_) | (apply gE; refine sE ?_) | (apply gP; refine sP ?_) | (apply gC; refine sC ?_) | (apply gD; refine sD ?_) | fail)
    exact E_round (m + 1, (out1, rest1), (A4, c4), A5, c5) ⟨hmF, hlen1, hsn⟩ (by dsimp only; omega) ⟨rfl, rfl, rfl, trivial⟩ Sb
  rw [decide_eq_true hb0]
  repeat' (first | refine go ?_ | intro _ | (apply cG; first | refine cT ?_ | refine cF ?_ | refine cS (fun _ => ?_) fun _ => ?_) | (apply gW; refine sW ?_) | (apply gI; refine sI ?_) | (apply gE; refine sE ?_) | (apply gP; refine sP ?_) | (apply gC; refine sC ?_) | (apply gD; refine sD ?_) | fail)
  refine O_d (dy_call ArgsI.pf (by first | exact rfl | trivial | (intro a b; rfl)) (rAll_ct (l := rest1) (s := mb) (.inl (.tail _ (.tail _ (.head _)))) (.inl (.head _)) (by omega) (by omega))) ?_; rintro _ _ ⟨_, ⟨rfl, hLL⟩, rfl⟩; replace hLL := hLL.symm; subst hLL; refine O_n ?_
  cases hal : mb.all (memB rest1)
  · rw [if_neg (fun h => by rw [hal] at h; exact absurd h.2 (by decide))] at hsn
    repeat' (first | refine go ?_ | intro _ | (apply cG; first | refine cT ?_ | refine cF ?_ | refine cS (fun _ => ?_) fun _ => ?_) | (apply gW; refine sW ?_) | (apply gI; refine sI ?_) | (apply gE; refine sE ?_) | (apply gP; refine sP ?_) | (apply gC; refine sC ?_) | (apply gD; refine sD ?_) | fail)
    exact E_round (m + 1, (out1, rest1), (A4, c4), A5, c5) ⟨hmF, hlen1, hsn⟩ (by dsimp only; omega) ⟨rfl, rfl, rfl, trivial⟩ Sb
  rw [if_pos ⟨hb0, hal⟩] at hsn
  have hwl := wth_lt hb0 hal
  repeat' (first | refine go ?_ | intro _ | (apply cG; first | refine cT ?_ | refine cF ?_ | refine cS (fun _ => ?_) fun _ => ?_) | (apply gW; refine sW ?_) | (apply gI; refine sI ?_) | (apply gE; refine sE ?_) | (apply gP; refine sP ?_) | (apply gC; refine sC ?_) | (apply gD; refine sD ?_) | fail)
  refine O_d (dy_lit1 (R := ePr) (((n : Int), (m : Int)) : Int × Int) (hcs := by rfl) (hel := fun _ _ _ => by rfl)) ?_; rintro _ _ ⟨_, rfl, rfl⟩; refine O_n ?_
  repeat' (first | refine go ?_ | intro _ | (apply cG; first | refine cT ?_ | refine cF ?_ | refine cS (fun _ => ?_) fun _ => ?_) | (apply gW; refine sW ?_) | (apply gI; refine sI ?_) | (apply gE; refine sE ?_) | (apply gP; refine sP ?_) | (apply gC; refine sC ?_) | (apply gD; refine sD ?_) | fail)
  rename_i A7 c7
  refine O_d (dy_call ArgsI.pf (by first | exact rfl | trivial | (intro a b; rfl)) (rWithout_ct (l := rest1) (s := mb) (by simp) (by simp) (by omega) (by omega))) ?_; rintro _ _ ⟨_, ⟨A8, c8, rfl, rfl⟩, rfl⟩; refine O_n ?_
  refine O_frz 0 ?_
  repeat' (first | refine go ?_ | intro _ | (apply cG; first | refine cT ?_ | refine cF ?_ | refine cS (fun _ => ?_) fun _ => ?_) | (apply gW; refine sW ?_) | (apply gI; refine sI ?_) | (apply gE; refine sE ?_) | (apply gP; refine sP ?_) | (apply gC; refine sC ?_) | (apply gD; refine sD ?_) | fail)
  exact E_round (m + 1, (out1 ++ [((n : Int), (m : Int))], wthF rest1 mb), (A7, c7), A8, c8) ⟨hmF, by dsimp only; rw [List.length_append, List.length_cons, List.length_nil]; omega, hsn⟩ (by dsimp only; omega) ⟨by dsimp only; rw [List.length_append]; rfl, rfl, rfl, trivial⟩ (by dsimp only; rw [List.length_append]; exact Sb)
end
end Go.Proofs.Ytlmabajgnjiigaa
