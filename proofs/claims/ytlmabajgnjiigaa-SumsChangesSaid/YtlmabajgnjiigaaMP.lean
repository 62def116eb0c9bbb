/-
  Sums: the reference's faces, Members.
-/
import Derived.Test.YtlmabajgnjiigaaMO
import Derived.Test.YtlmabajgnjiigaaMI
namespace Go.Proofs.Ytlmabajgnjiigaa
open Go Go.RowKit
set_option linter.unusedVariables false
set_option linter.unusedSimpArgs false
set_option maxRecDepth 20000
set_option synthInstance.maxSize 100000
set_option synthInstance.maxHeartbeats 400000
theorem facF_le {l : List Int} (h : ∀ x ∈ l, -1 ≤ x ∧ x ≤ 1099511627776) : ∀ i : Nat, 0 ≤ facF (l.take i) ∧ facF (l.take i) ≤ 1099511627777
  | 0 => by simp [facF]
  | i + 1 => by
    have ih := facF_le h i
    cases hx : l[i]? with
    | none =>
      have : l.take (i + 1) = l.take i := by
        rw [List.take_add_one, hx]
        simp
      rw [this]
      exact ih
    | some x =>
      have := h x (List.mem_of_getElem? hx)
      rw [facF_take hx]
      omega
/-- the members of a group of a scale -/
def mbrF (F : List Int) (G : List (List Int)) (s g : Int) : List Int := if 0 ≤ s ∧ s < (G.length : Int) then memN F (G.getD s.toNat []) g F.length else []
section
variable {W0 : World} {L : List HP}
theorem rFaces_ct {t : RT} (ht : RTin t L) (hf : ∀ x ∈ t.F, -1 ≤ x ∧ x ≤ 1099511627776) (hl : t.F.length ≤ 1000000) :
    CT Try.prog 35 #[.pointer (some ⟨t.p, 0, none⟩)] W0 L fun r L' => r = .int .i64 (facF t.F) ∧ L' = L := by
  obtain ⟨p, A1, B1, C1, ca, cb, cc, U, F, xs⟩ := t
  obtain ⟨h1, h2, h3, h4⟩ := ht
  dsimp only at h1 h2 h3 h4 hf hl ⊢
  have hip : InC p L _ _ := ⟨h1⟩
  have hsU : ScA B1 L F.length cb eI F := ⟨.inl h3⟩
  refine CT_enter Try.func35 rfl ?_; (simp only [Try.ntmps35, List.size_toArray, List.length_cons, List.length_nil, Nat.reduceAdd, Nat.reduceSub, Array.replicate_succ, Array.replicate_zero, List.push_toArray, List.append_toArray, List.nil_append, List.cons_append])
  repeat' (first | refine go ?_ | intro _ | (apply cG; first | refine cT ?_ | refine cF ?_ | refine cS (fun _ => ?_) fun _ => ?_) | (apply gW; refine sW ?_) | (apply gI; refine sI ?_) | (apply gE; refine sE ?_) | (apply gP; refine sP ?_) | (apply gC; refine sC ?_) | (apply gD; refine sD ?_) | fail)
  refine C_loopS (κ := Nat) [false, false, false, true, true, true, true, true, true, true, true, true, true, true, true, true, true, true, true, true, true, true, true, true, false] (fun k => [(3, .int .i64 (facF (F.take k))), (4, .int .i64 (k : Int))]) (fun k => []) (fun k => k ≤ F.length) (fun k => F.length - k) 0 (Nat.zero_le _) ⟨rfl, rfl, trivial⟩ ?_
  rintro i u hi
  ((try dsimp only); refine C_n ?_; (try simp only [Nat.reduceAdd, Nat.zero_add]))
  by_cases hil : i < F.length
  rotate_left
  · obtain rfl : i = F.length := by omega
    rw [List.take_length]
    repeat' (first | refine go ?_ | intro _ | (apply cG; first | refine cT ?_ | refine cF ?_ | refine cS (fun _ => ?_) fun _ => ?_) | (apply gW; refine sW ?_) | (apply gI; refine sI ?_) | (apply gE; refine sE ?_) | (apply gP; refine sP ?_) | (apply gC; refine sC ?_) | (apply gD; refine sD ?_) | fail)
    refine E_res1 (by rfl) (by rfl) ⟨rfl, rfl⟩ Sb
  obtain ⟨x, hx⟩ : ∃ x, F[i]? = some x := ⟨_, List.getElem?_eq_getElem (by omega)⟩
  have hax : At F i x := ⟨hx⟩
  have hs := facF_le hf i
  have hx2 := hf x (List.mem_of_getElem? hx)
  obtain ⟨n, hn⟩ : ∃ n, facF (F.take i) = n := ⟨_, rfl⟩
  have hnx := facF_take hx
  rw [hn] at hs hnx ⊢
  by_cases hc : x + 1 > n
  · repeat' (first | refine go ?_ | intro _ | (apply cG; first | refine cT ?_ | refine cF ?_ | refine cS (fun _ => ?_) fun _ => ?_) | (apply gW; refine sW ?_) | (apply gI; refine sI ?_) | (apply gE; refine sE ?_) | (apply gP; refine sP ?_) | (apply gC; refine sC ?_) | (apply gD; refine sD ?_) | fail)
    exact E_round (i + 1) hil (by omega) ⟨by rw [hnx, Int.max_eq_right (by omega)]; rfl, rfl, trivial⟩ Sb
  · repeat' (first | refine go ?_ | intro _ | (apply cG; first | refine cT ?_ | refine cF ?_ | refine cS (fun _ => ?_) fun _ => ?_) | (apply gW; refine sW ?_) | (apply gI; refine sI ?_) | (apply gE; refine sE ?_) | (apply gP; refine sP ?_) | (apply gC; refine sC ?_) | (apply gD; refine sD ?_) | fail)
    exact E_round (i + 1) hil (by omega) ⟨by rw [hnx, Int.max_eq_left (by omega)]; rfl, rfl, trivial⟩ Sb
theorem rMembers_ct {t : RT} {s g : Int} {G : List (List Int)} (ht : RTin t L) (hxs : t.xs.map SX.b = G) (hF : t.F.length ≤ 1000000) (hR : ∀ x ∈ G, ∀ f ∈ t.F, 0 ≤ f ∧ f < (x.length : Int)) (hs : -9223372036854775808 ≤ s ∧ s ≤ 9223372036854775807) :
    CT Try.prog 20 #[.pointer (some ⟨t.p, 0, none⟩), .int .i64 s, .int .i64 g] W0 L fun r L' => ∃ A c, r = .tuple #[.slice A (mbrF t.F G s g).length c, .bool (decide (0 < (mbrF t.F G s g).length))] ∧ L' = own 3 eI (.slice A (mbrF t.F G s g).length c) (mbrF t.F G s g) :: L := by
  obtain ⟨p, A1, B1, C1, ca, cb, cc, U, F, xs⟩ := t
  obtain ⟨h1, h2, h3, h4⟩ := ht
  dsimp only at h1 h2 h3 h4 hxs hF hR ⊢
  have hxl : xs.length = G.length := by rw [← hxs, List.length_map]
  have hip : InC p L _ _ := ⟨h1⟩
  have hsF : ScA B1 L F.length cb eI F := ⟨.inl h3⟩
  have hsX : ScA C1 L xs.length cc (eSX eI) xs := ⟨.inl h4⟩
  obtain ⟨hs1, hs2⟩ := hs
  refine CT_enter Try.func20 rfl ?_; (simp only [Try.ntmps20, List.size_toArray, List.length_cons, List.length_nil, Nat.reduceAdd, Nat.reduceSub, Array.replicate_succ, Array.replicate_zero, List.push_toArray, List.append_toArray, List.nil_append, List.cons_append])
  by_cases hb : 0 ≤ s ∧ s < (G.length : Int)
  rotate_left
  · have e : mbrF F G s g = [] := if_neg hb
    rw [e]
    by_cases h0 : s < 0
    · repeat' (first | refine go ?_ | intro _ | (apply cG; first | refine cT ?_ | refine cF ?_ | refine cS (fun _ => ?_) fun _ => ?_) | (apply gW; refine sW ?_) | (apply gI; refine sI ?_) | (apply gE; refine sE ?_) | (apply gP; refine sP ?_) | (apply gC; refine sC ?_) | (apply gD; refine sD ?_) | fail)
      refine E_ownnil 3 eI ?_
      refine E_res2 (by rfl) (by rfl) ⟨none, 0, rfl, rfl⟩ Sb
    · have : (G.length : Int) ≤ s := by omega
      repeat' (first | refine go ?_ | intro _ | (apply cG; first | refine cT ?_ | refine cF ?_ | refine cS (fun _ => ?_) fun _ => ?_) | (apply gW; refine sW ?_) | (apply gI; refine sI ?_) | (apply gE; refine sE ?_) | (apply gP; refine sP ?_) | (apply gC; refine sC ?_) | (apply gD; refine sD ?_) | fail)
      refine E_ownnil 3 eI ?_
      refine E_res2 (by rfl) (by rfl) ⟨none, 0, rfl, rfl⟩ Sb
  obtain ⟨n, rfl⟩ : ∃ n : Nat, s = (n : Int) := ⟨s.toNat, by omega⟩
  obtain ⟨x, hx⟩ : ∃ x, xs[n]? = some x := ⟨_, List.getElem?_eq_getElem (by omega)⟩
  have hax : At xs n x := ⟨hx⟩
  have hgx := getX hxs hx
  have hRx := hR _ (List.mem_of_getElem? hgx)
  have e : mbrF F G (n : Int) g = memN F x.b g F.length := by
    unfold mbrF
    rw [if_pos hb, Int.toNat_natCast, List.getD_eq_getElem?_getD, hgx, Option.getD_some]
  rw [e]
  refine C_sub (sub_peekX h4 hx) ?_
  refine C_form (.head _) fun Ax cx hxv => ?_
  have hec : EncC (eSX eI) x [.slice Ax x.b.length cx] := ⟨fun m cs h => by rw [h.1, hxv]⟩
  rw [hxv]
  have hS : Sub (rd eI (.slice Ax x.b.length cx) x.b :: L) [rd eI (.slice Ax x.b.length cx) x.b, rd eI (.slice B1 F.length cb) F, rd (eSX eI) (.slice C1 xs.length cc) xs, cel p [.slice A1 U.length ca, .slice B1 F.length cb, .slice C1 xs.length cc] 32] := sub_skip (Sub.trans (sub_dup h3) (sub_skip (Sub.trans (sub_dup h4) (sub_skip (sub_mem1 h1)))))
  repeat' (first | refine go ?_ | intro _ | (apply cG; first | refine cT ?_ | refine cF ?_ | refine cS (fun _ => ?_) fun _ => ?_) | (apply gW; refine sW ?_) | (apply gI; refine sI ?_) | (apply gE; refine sE ?_) | (apply gP; refine sP ?_) | (apply gC; refine sC ?_) | (apply gD; refine sD ?_) | fail)
  refine C_ownnil 3 eI ?_
  refine C_loopS (κ := Nat × Option Addr × Nat) [false, false, false, false, false, false, false, false, true, true, false, false, false, false, false, false, false, false, false, false, false, true, true, true, true, true, true, true, true, true, true, true, true, true, true, true, true, true, true, true, true, true, true, true, true, true, true, true, true, true, true, true, false, false, false, false] (fun k => [(8, .slice k.2.1 (memN F x.b g k.1).length k.2.2), (9, .int .i64 (k.1 : Int))]) (fun k => [(0, own 3 eI (.slice k.2.1 (memN F x.b g k.1).length k.2.2) (memN F x.b g k.1))]) (fun k => k.1 ≤ F.length) (fun k => F.length - k.1) (0, none, 0) (Nat.zero_le _) ⟨rfl, rfl, trivial⟩ ?_
  rintro ⟨i, A2, c2⟩ u hi
  dsimp only at hi
  dsimp only
  ((try dsimp only); refine C_n ?_; (try simp only [Nat.reduceAdd, Nat.zero_add]))
  by_cases hil : i < F.length
  rotate_left
  · obtain rfl : i = F.length := by omega
    by_cases h0 : 0 < (memN F x.b g F.length).length
    · rw [decide_eq_true h0]
      repeat' (first | refine go ?_ | intro _ | (apply cG; first | refine cT ?_ | refine cF ?_ | refine cS (fun _ => ?_) fun _ => ?_) | (apply gW; refine sW ?_) | (apply gI; refine sI ?_) | (apply gE; refine sE ?_) | (apply gP; refine sP ?_) | (apply gC; refine sC ?_) | (apply gD; refine sD ?_) | fail)
      refine E_res2 (by rfl) (by rfl) ⟨A2, c2, rfl, rfl⟩ Sb
    · rw [decide_eq_false h0]
      repeat' (first | refine go ?_ | intro _ | (apply cG; first | refine cT ?_ | refine cF ?_ | refine cS (fun _ => ?_) fun _ => ?_) | (apply gW; refine sW ?_) | (apply gI; refine sI ?_) | (apply gE; refine sE ?_) | (apply gP; refine sP ?_) | (apply gC; refine sC ?_) | (apply gD; refine sD ?_) | fail)
      refine E_res2 (by rfl) (by rfl) ⟨A2, c2, rfl, rfl⟩ Sb
  obtain ⟨f, hf⟩ : ∃ f, F[i]? = some f := ⟨_, List.getElem?_eq_getElem (by omega)⟩
  obtain ⟨hf0, hf1⟩ := hRx f (List.mem_of_getElem? hf)
  obtain ⟨k, rfl⟩ : ∃ k : Nat, f = (k : Int) := ⟨f.toNat, by omega⟩
  obtain ⟨r, hr⟩ : ∃ r, x.b[k]? = some r := ⟨_, List.getElem?_eq_getElem (by omega)⟩
  have haf : At F i (k : Int) := ⟨hf⟩
  have har : At x.b k r := ⟨hr⟩
  have hst := memN_succ (g := g) hf (by simpa using hr)
  have hlen : (memN F x.b g i).length ≤ 1000000 := Nat.le_trans (memN_len i) (by omega)
  obtain ⟨o, ho⟩ : ∃ o, memN F x.b g i = o := ⟨_, rfl⟩
  rw [ho] at hst hlen ⊢
  repeat' (first | refine go ?_ | intro _ | (apply cG; first | refine cT ?_ | refine cF ?_ | refine cS (fun _ => ?_) fun _ => ?_) | (apply gW; refine sW ?_) | (apply gI; refine sI ?_) | (apply gE; refine sE ?_) | (apply gP; refine sP ?_) | (apply gC; refine sC ?_) | (apply gD; refine sD ?_) | fail)
  refine C_draw (n := 99) [rd eI (.slice Ax x.b.length cx) x.b, rd eI (.slice B1 F.length cb) F, rd (eSX eI) (.slice C1 xs.length cc) xs, cel p [.slice A1 U.length ca, .slice B1 F.length cb, .slice C1 xs.length cc] 32] [(0, 1), (1, 1), (2, 1), (3, 1), (4, 1), (5, 1), (6, 1), (7, 1), (8, 1), (9, 1), (10, 1), (11, 1), (12, 1), (13, 1), (14, 1), (15, 1), (16, 1), (17, 1)] (by kernel_rfl) (by kernel_rfl) (sub_drop hS) ?_
  by_cases hg : r = g
  · rw [if_pos hg] at hst
    repeat' (first | refine go ?_ | intro _ | (apply cG; first | refine cT ?_ | refine cF ?_ | refine cS (fun _ => ?_) fun _ => ?_) | (apply gW; refine sW ?_) | (apply gI; refine sI ?_) | (apply gE; refine sE ?_) | (apply gP; refine sP ?_) | (apply gC; refine sC ?_) | (apply gD; refine sD ?_) | fail)
    refine O_d (dy_lit1 (R := eI) (i : Int) (hcs := by rfl) (hel := fun _ _ _ => by rfl)) ?_; rintro _ _ ⟨_, rfl, rfl⟩; refine O_n ?_
    repeat' (first | refine go ?_ | intro _ | (apply cG; first | refine cT ?_ | refine cF ?_ | refine cS (fun _ => ?_) fun _ => ?_) | (apply gW; refine sW ?_) | (apply gI; refine sI ?_) | (apply gE; refine sE ?_) | (apply gP; refine sP ?_) | (apply gC; refine sC ?_) | (apply gD; refine sD ?_) | fail)
    rename_i A3 c3
    exact E_round (i + 1, A3, c3) hil (by dsimp only; omega) ⟨by dsimp only; rw [hst, List.length_append]; rfl, rfl, trivial⟩ (by dsimp only; rw [hst, List.length_append]; exact Sb)
  · rw [if_neg hg, List.append_nil] at hst
    repeat' (first | refine go ?_ | intro _ | (apply cG; first | refine cT ?_ | refine cF ?_ | refine cS (fun _ => ?_) fun _ => ?_) | (apply gW; refine sW ?_) | (apply gI; refine sI ?_) | (apply gE; refine sE ?_) | (apply gP; refine sP ?_) | (apply gC; refine sC ?_) | (apply gD; refine sD ?_) | fail)
    exact E_round (i + 1, A2, c2) hil (by dsimp only; omega) ⟨by dsimp only; rw [hst]; rfl, rfl, trivial⟩ (by dsimp only; rw [hst]; exact Sb)
end
end Go.Proofs.Ytlmabajgnjiigaa
namespace Go.Proofs.Ytlmabajgnjiigaa
open Go Go.RowKit
set_option linter.unusedVariables false
set_option linter.unusedSimpArgs false
section
variable {P : Program} {W0 w : World} {L L' S : List HP} {ops : Array Oper} {rest : List Oper} {o : Oper} {a a' : Act} {Q : Exit → Act → World → Prop}
  {d : Option Tmp} {ty : TypeId} {pos : String} {aft : Array Edge} {gd : Option (Nat × Bool)} {x y z : Operand} {v : Value} {t u : TypeId} {k k' : IntKind} {m n r : Int} {b : Nat}
theorem sv_buildA {len size : Nat} {e : TypeId} {zs cs : Array Value} {ps : Array (Nat × Operand)} (hu : P.underlying t = some (.array len e)) (hs : ∀ w, (sizeOf e).run P w = .ok size w) (hz : ∀ w, (zeroValue t).run P w = .ok (.agg zs) w)
    (hf : Instr.fill (fun i => some (i * size, size)) zs (ps.map fun x => (x.1, a.eval x.2)).toList = some cs) : SV P W0 S ⟨d, .build t ps, ty, pos, aft, gd⟩ a (.agg cs) := ⟨fun w _ => by
  unfold execOp
  simp only [Instr.build, Sem.run_bind, hz, Result.andThen_ok, run_underlying hu, hs, Value.cells]
  have hf2 : Instr.fill (fun i => some (i * size, size)) zs (List.map (fun x => (x.1, a.eval x.2)) ps.toList) = some cs := by simpa using hf
  simp [hf2]⟩
theorem sv_index {len size : Nat} {e : TypeId} {cs : Array Value} {i : Int} (hu : P.underlying t = some (.array len e)) (hs : ∀ w, (sizeOf e).run P w = .ok size w) (hx : a.eval x = .agg cs) (hy : a.eval y = .int k i) (h0 : 0 ≤ i) (h1 : i < len)
    (hv : ∀ w, (part e cs (i.toNat * size)).run P w = .ok v w) : SV P W0 S ⟨d, .index t x y, ty, pos, aft, gd⟩ a v := ⟨fun w _ => by
  unfold execOp
  simp [Instr.index, hx, hy, asIntOf, Sem.run_bind, run_underlying hu, hs, h0, h1, hv]⟩
theorem addr_add (b off n : Nat) : (⟨b, off, none⟩ : Addr).add n = ⟨b, off + n, none⟩ := by
  unfold Addr.add
  split
  · rename_i h
    rw [h]
    rfl
  · rfl
theorem sv_idxA {len size off o2 : Nat} {e : TypeId} {i : Int} (hu : P.underlying t = some (.array len e)) (hs : ∀ w, (sizeOf e).run P w = .ok size w) (hx : a.eval x = .pointer (some ⟨b, off, none⟩)) (hy : a.eval y = .int k i) (h0 : 0 ≤ i) (h1 : i < len) (ho : off + i.toNat * size = o2) :
    SV P W0 S ⟨d, .indexAddr t x y, ty, pos, aft, gd⟩ a (.pointer (some ⟨b, o2, none⟩)) := ⟨fun w _ => by
  subst ho
  unfold execOp
  simp [Instr.indexAt, Instr.sureAddr, hx, hy, asIntOf, Sem.run_bind, run_underlying hu, hs, h0, h1, addr_add]⟩
instance ev_func {f : FuncId} : Ev a (.func f) (.func (.func f) #[] #[]) := ⟨rfl⟩
end
end Go.Proofs.Ytlmabajgnjiigaa
