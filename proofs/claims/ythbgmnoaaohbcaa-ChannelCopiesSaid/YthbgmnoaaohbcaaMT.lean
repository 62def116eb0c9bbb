/-
  A map without entries is ranged over: the operations. No program.
-/
import Derived.Maps.RangeRun
import Derived.Test.YthbgmnoaaohbcaaMN
import Derived.Test.YthbgmnoaaohbcaaMS
namespace Go.Proofs.Ythbgmnoaaohbcaa
open Go Go.RowKit Go.Instr
set_option linter.unusedVariables false
set_option linter.unusedSimpArgs false
/-- block r is an iterator over the map in block b -/
def ito (r b : Nat) : HP := ⟨fun _ h => ∃ since seen c0, h r = some (.mapIter (some b) since seen c0) ∧ since ≤ c0, fun _ h => h⟩
section
variable {P : Program} {W0 w : World} {L S : List HP} {a : Act} {d : Option Tmp} {ty : TypeId} {pos : String} {aft : Array Edge} {gd : Option (Nat × Bool)}
theorem dy_range {α : Type} {R : MEnc α} {b : Nat} {l : List (Int × α)} {t kt et : TypeId} {x : Operand} [ut : UL P t (.map kt et)] (hm : mapo R b l ∈ L) (hx : a.eval x = .map (some b)) :
    DY P W0 L ⟨d, .range t x, ty, pos, aft, gd⟩ a fun a' L' => ∃ r, a.put d (.pointer (some ⟨r, 0, none⟩)) = a' ∧ L' = ito r b :: L :=
  dy_val fun w s => by
    obtain ⟨L0, hp⟩ := s.mem hm
    obtain ⟨es, clock, m, hb, h⟩ := (s.perm hp).map_
    refine ⟨_, w.alloc (.mapIter (some b) clock #[] clock), _, ?_, ⟨w.heap.size, rfl, rfl⟩, (s.alloc (.mapIter (some b) clock #[] clock)).imp fun m h hb => ⟨clock, #[], clock, hb, Nat.le_refl _⟩⟩
    unfold execOp
    simp [hx, run_range_map w t kt et b es clock ut.pf hb]
theorem St.ito_ {r b : Nat} (s : St W0 w (ito r b :: L)) : ∃ since seen c0, w.heap[r]? = some (.mapIter (some b) since seen c0) ∧ since ≤ c0 := by
  obtain ⟨m, a, _, ⟨since, seen, c0, h1, h2⟩, _, _, ha, _⟩ := s.lay
  exact ⟨since, seen, c0, ha _ _ h1, h2⟩
theorem sv_next0 {α : Type} {R : MEnc α} {r b : Nat} {x : Operand} (hi : ito r b ∈ S) (hm : mapo R b ([] : List (Int × α)) ∈ S) (hx : a.eval x = .pointer (some ⟨r, 0, none⟩)) :
    SV P W0 S ⟨d, .next x false, ty, pos, aft, gd⟩ a (.tuple #[.bool false]) := ⟨fun w s => by
  obtain ⟨L0, hp⟩ := s.mem hm
  obtain ⟨es, clock, m, hb, h⟩ := (s.perm hp).map_
  obtain ⟨L1, hp1⟩ := s.mem hi
  obtain ⟨since, seen, c0, hr, hsc⟩ := (s.perm hp1).ito_
  have he : es = #[] := by
    obtain ⟨l⟩ := es
    cases l with
    | nil => rfl
    | cons _ _ => exact h.elim
  subst he
  rcases run_next_at (P := P) w ty r b since c0 seen #[] clock hr hb (fun x hx => by cases hx) hsc with ⟨_, hrun⟩ | ⟨e, he, _⟩
  · unfold execOp
    simp [hx, hrun]
  · simp [leftOf] at he⟩
theorem sub_spnil : Sub L (sp [] :: L) := sub_close (Ls := [])
theorem sub_spcons {A : HP} {l : List HP} : Sub (sp (A :: l) :: L) (A :: sp l :: L) := fun m h s => by
  obtain ⟨a, b, d, ha, hb, ⟨a1, a2, d2, h1, h2, hA, hl⟩, hL⟩ := s
  have s2 : SepL m (A :: sp l :: L) h := ⟨a1, a2.or b, Hp.dj_or d2 (d.sub h1 (Hp.le_refl b)), h1.trans ha, Hp.or_le (h2.trans ha) hb, hA, a2, b, d.sub h2 (Hp.le_refl b), Hp.le_or_left a2 b, Hp.le_or_right (d.sub h2 (Hp.le_refl b)), hl, hL⟩
  exact s2
theorem sub_spsnoc {A : HP} {l : List HP} : Sub (A :: sp l :: L) (sp (l ++ [A]) :: L) := fun m h s => by
  have s1 : SepL m (sp l :: A :: L) h := s.swap
  have s2 := sub_open m h s1
  refine sub_close (Ls := l ++ [A]) m h ?_
  rw [List.append_assoc]
  exact s2
end
end Go.Proofs.Ythbgmnoaaohbcaa
namespace Go.Proofs.Ythbgmnoaaohbcaa
open Go Go.RowKit
set_option linter.unusedVariables false
set_option linter.unusedSimpArgs false
set_option maxRecDepth 20000
set_option synthInstance.maxSize 100000
set_option synthInstance.maxHeartbeats 400000
/-- packets as bare values -/
def ePB : Enc PK :=
  ⟨3, fun m x cs => cs = [.int .i64 x.s, .int .i64 x.a, x.v] ∧ x.v.oneCell' = true, fun hm h => h, fun ⟨e, _⟩ => by subst e; rfl,
    fun {_ x _} ⟨e, h1⟩ u hu => by
      subst e
      simp only [List.mem_cons, List.not_mem_nil, or_false] at hu
      rcases hu with rfl | rfl | rfl
      · rfl
      · rfl
      · exact h1⟩
instance : Sz ePB 3 := ⟨rfl⟩
instance {x : PK} : EncC ePB x [.int .i64 x.s, .int .i64 x.a, x.v] := ⟨fun _ _ h => h.1⟩
/-- a packet's bytes, owned -/
def oB (x : PK) : HP := own 5 eB x.v x.b
section
variable {W0 : World} {L : List HP}
theorem CloneS_ct {v : Value} {l : List (List UInt8)} (hv : Src L (eSl eB) v l) (hl : l.length ≤ 1000000000) :
    CT Try.prog 47 #[v] W0 L fun r L' => ∃ A c, r = .slice A l.length c ∧ L' = own 31 (eSl eB) (.slice A l.length c) l :: L := by
  refine CT_fact (fun w s => (hv.sl s).form) ?_
  rintro ⟨A, cap, rfl, hcap⟩
  cases A with
  | none =>
    refine CT_fact (fun w s => (hv.sl s).nil_of) ?_
    rintro rfl
    refine CT_enter Try.func47 rfl ?_; (simp only [Try.ntmps47, List.size_toArray, List.length_cons, List.length_nil, Nat.reduceAdd, Nat.reduceSub, Array.replicate_succ, Array.replicate_zero, List.push_toArray, List.append_toArray, List.nil_append, List.cons_append])
    repeat' (first | refine go ?_ | intro _ | (apply cG; first | refine cT ?_ | refine cF ?_ | refine cS (fun _ => ?_) fun _ => ?_) | (apply gW; refine sW ?_) | (apply gI; refine sI ?_) | (apply gE; refine sE ?_) | (apply gP; refine sP ?_) | (apply gC; refine sC ?_) | (apply gD; refine sD ?_) | fail)
    refine E_ownnil 31 (eSl eB) ?_
    refine E_end1 (by rfl) (by rfl) Ev.pf ⟨none, 0, rfl, rfl⟩
  | some ad =>
    have hv : Sc L (.slice (some ad) l.length cap) (eSl eB) l := ⟨hv⟩
    refine CT_enter Try.func47 rfl ?_; (simp only [Try.ntmps47, List.size_toArray, List.length_cons, List.length_nil, Nat.reduceAdd, Nat.reduceSub, Array.replicate_succ, Array.replicate_zero, List.push_toArray, List.append_toArray, List.nil_append, List.cons_append])
    repeat' (first | refine go ?_ | intro _ | (apply cG; first | refine cT ?_ | refine cF ?_ | refine cS (fun _ => ?_) fun _ => ?_) | (apply gW; refine sW ?_) | (apply gI; refine sI ?_) | (apply gE; refine sE ?_) | (apply gP; refine sP ?_) | (apply gC; refine sC ?_) | (apply gD; refine sD ?_) | fail)
    refine O_d (dy_lit0 (eSl eB) rfl) ?_; rintro _ _ ⟨_, rfl, rfl⟩; refine O_n ?_
    repeat' (first | refine go ?_ | intro _ | (apply cG; first | refine cT ?_ | refine cF ?_ | refine cS (fun _ => ?_) fun _ => ?_) | (apply gW; refine sW ?_) | (apply gI; refine sI ?_) | (apply gE; refine sE ?_) | (apply gP; refine sP ?_) | (apply gC; refine sC ?_) | (apply gD; refine sD ?_) | fail)
    refine E_end1 (by rfl) (by rfl) Ev.pf ⟨_, _, rfl, rfl⟩
theorem Copy_ct {p : Nat} {w acked got : Int} {wait : List (List UInt8)} {ow : Bool} (hw : wait.length ≤ 1000) :
    CT Try.prog 26 #[.pointer (some ⟨p, 0, none⟩)] W0 (endo p w acked got wait [] ow :: L) fun r L' => ∃ q, r = .pointer (some ⟨q, 0, none⟩) ∧ L' = endo q w acked got wait [] ow :: endo p w acked got wait [] ow :: L := by
  refine endo_ct fun A c bm hc => ?_
  refine CT_enter Try.func26 rfl ?_; (simp only [Try.ntmps26, List.size_toArray, List.length_cons, List.length_nil, Nat.reduceAdd, Nat.reduceSub, Array.replicate_succ, Array.replicate_zero, List.push_toArray, List.append_toArray, List.nil_append, List.cons_append])
  repeat' (first | refine go ?_ | intro _ | (apply cG; first | refine cT ?_ | refine cF ?_ | refine cS (fun _ => ?_) fun _ => ?_) | (apply gW; refine sW ?_) | (apply gI; refine sI ?_) | (apply gE; refine sE ?_) | (apply gP; refine sP ?_) | (apply gC; refine sC ?_) | (apply gD; refine sD ?_) | fail)
  rename_i q
  refine O_d (dy_call ArgsI.pf (by first | exact rfl | trivial | (intro a b; rfl)) (CloneS_ct (l := wait) (.inr ⟨_, (by repeat (first | exact .head _ | refine .tail _ ?_))⟩) (by omega))) ?_; rintro _ _ ⟨_, ⟨A2, c2, rfl, rfl⟩, rfl⟩; refine O_n ?_
  repeat' (first | refine go ?_ | intro _ | (apply cG; first | refine cT ?_ | refine cF ?_ | refine cS (fun _ => ?_) fun _ => ?_) | (apply gW; refine sW ?_) | (apply gI; refine sI ?_) | (apply gE; refine sE ?_) | (apply gP; refine sP ?_) | (apply gC; refine sC ?_) | (apply gD; refine sD ?_) | fail)
  refine O_d (dy_mkmap mSB) ?_; rintro _ _ ⟨b2, rfl, rfl⟩; refine O_n ?_
  repeat' (first | refine go ?_ | intro _ | (apply cG; first | refine cT ?_ | refine cF ?_ | refine cS (fun _ => ?_) fun _ => ?_) | (apply gW; refine sW ?_) | (apply gI; refine sI ?_) | (apply gE; refine sE ?_) | (apply gP; refine sP ?_) | (apply gC; refine sC ?_) | (apply gD; refine sD ?_) | fail)
  refine O_d (dy_range (R := mSB) (l := []) (b := bm) (by repeat (first | exact .head _ | refine .tail _ ?_)) Ev.pf) ?_; rintro _ _ ⟨r, rfl, rfl⟩; refine O_n ?_
  repeat' (first | refine go ?_ | intro _ | (apply cG; first | refine cT ?_ | refine cF ?_ | refine cS (fun _ => ?_) fun _ => ?_) | (apply gW; refine sW ?_) | (apply gI; refine sI ?_) | (apply gE; refine sE ?_) | (apply gP; refine sP ?_) | (apply gC; refine sC ?_) | (apply gD; refine sD ?_) | fail)
  refine C_loopS (κ := Unit) [false, false, false, false, true, true, false, false, false, false, false, false, false, false, false, false, false, false, false, false, false, false, true, true, true, true, true, true, true, true, true] (fun k => []) (fun k => []) (fun k => True) (fun k => 0) () trivial trivial ?_
  rintro ⟨⟩ u _
  ((try dsimp only); refine C_n ?_; (try simp only [Nat.reduceAdd, Nat.zero_add]))
  repeat' (first | refine go ?_ | intro _ | (apply cG; first | refine cT ?_ | refine cF ?_ | refine cS (fun _ => ?_) fun _ => ?_) | (apply gW; refine sW ?_) | (apply gI; refine sI ?_) | (apply gE; refine sE ?_) | (apply gP; refine sP ?_) | (apply gC; refine sC ?_) | (apply gD; refine sD ?_) | fail)
  refine O_s (sv_next0 (R := mSB) (r := r) (b := bm) (by repeat (first | exact .head _ | refine .tail _ ?_)) (by repeat (first | exact .head _ | refine .tail _ ?_)) Ev.pf) ?_
  repeat' (first | refine go ?_ | intro _ | (apply cG; first | refine cT ?_ | refine cF ?_ | refine cS (fun _ => ?_) fun _ => ?_) | (apply gW; refine sW ?_) | (apply gI; refine sI ?_) | (apply gE; refine sE ?_) | (apply gP; refine sP ?_) | (apply gC; refine sC ?_) | (apply gD; refine sD ?_) | fail)
  refine E_sub (S := cel q [.int .i64 w, .slice A2 wait.length c2, .int .i64 acked, .int .i64 got, .map (some b2), .bool ow] 85 :: own 31 (eSl eB) (.slice A2 wait.length c2) wait :: mapo mSB b2 [] :: cel p [.int .i64 w, .slice A wait.length c, .int .i64 acked, .int .i64 got, .map (some bm), .bool ow] 85 :: own 31 (eSl eB) (.slice A wait.length c) wait :: mapo mSB bm [] :: L) Sb ?_
  refine E_sub endo_sub ?_
  refine E_sub (sub_skip endo_sub) ?_
  refine E_res1 (by rfl) (by rfl) ⟨q, rfl, rfl⟩ Sb
theorem Copy_e {p : Nat} {e : PE} (hh : e.held = []) (hw : e.wait.length ≤ 1000) :
    CT Try.prog 26 #[.pointer (some ⟨p, 0, none⟩)] W0 (ende p e :: L) fun r L' => ∃ q, r = .pointer (some ⟨q, 0, none⟩) ∧ L' = ende q e :: ende p e :: L := by
  obtain ⟨w, acked, got, wait, held, ow⟩ := e
  dsimp only at hh
  subst hh
  exact Copy_ct hw
end
set_option maxHeartbeats 2000000 in
theorem Out_o {W0 : World} {L : List HP} {p : Nat} {w acked got : Int} {wait : List (List UInt8)} {held : List (Int × SB)} {ow : Bool} (hne : wait ≠ [] ∨ ow = false) (h1 : 1 ≤ w) (h2 : w ≤ 16) (hw : wait.length ≤ 1000) (hb : ∀ x ∈ wait, x.length ≤ 65536) (ha1 : 0 ≤ acked) (ha2 : acked ≤ 1000000000000) (hg1 : 0 ≤ got) (hg2 : got ≤ 1000000000000) :
    CT Try.prog 15 #[.pointer (some ⟨p, 0, none⟩)] W0 (endo p w acked got wait held ow :: L) fun r L' => ∃ A c l, l.map PK.p = outP w acked got wait ow ∧ r = .slice A l.length c ∧ L' = own 44 ePB (.slice A l.length c) l :: sp (l.map oB) :: endo p w acked got wait held false :: L := by
  refine endo_ct fun A c bm hc => ?_
  obtain ⟨N, hN⟩ : ∃ N, min wait.length w.toNat = N := ⟨_, rfl⟩
  have hNm : (if w < (wait.length : Int) then w else (wait.length : Int)) = (N : Int) := by split <;> omega
  refine CT_enter Try.func15 rfl ?_; (simp only [Try.ntmps15, List.size_toArray, List.length_cons, List.length_nil, Nat.reduceAdd, Nat.reduceSub, Array.replicate_succ, Array.replicate_zero, List.push_toArray, List.append_toArray, List.nil_append, List.cons_append])
  repeat' (first | refine go ?_ | intro _ | (apply cG; first | refine cT ?_ | refine cF ?_ | refine cS (fun _ => ?_) fun _ => ?_) | (apply gW; refine sW ?_) | (apply gI; refine sI ?_) | (apply gE; refine sE ?_) | (apply gP; refine sP ?_) | (apply gC; refine sC ?_) | (apply gD; refine sD ?_) | fail)
  refine C_draw (n := 99) [cel p [.int .i64 w, .slice A wait.length c, .int .i64 acked, .int .i64 got, .map (some bm), .bool ow] 85] [(0, 1), (1, 1), (2, 1), (3, 1), (4, 1), (5, 1), (6, 1), (7, 1), (8, 1), (9, 1), (10, 1), (11, 1), (12, 1), (13, 1), (14, 1), (15, 1), (16, 1)] (by kernel_rfl) (by kernel_rfl) Sb ?_
  repeat' (first | refine go ?_ | intro _ | (apply cG; first | refine cT ?_ | refine cF ?_ | refine cS (fun _ => ?_) fun _ => ?_) | fail)
  apply gW; refine sW (r := (N : Int)) ?_ hNm
  repeat' (first | refine go ?_ | intro _ | (apply cG; first | refine cT ?_ | refine cF ?_ | refine cS (fun _ => ?_) fun _ => ?_) | (apply gW; refine sW ?_) | (apply gI; refine sI ?_) | (apply gE; refine sE ?_) | (apply gP; refine sP ?_) | (apply gC; refine sC ?_) | (apply gD; refine sD ?_) | fail)
  refine D_op rfl ?_; refine X_s (sv_slice (l' := 0) (h' := N) (l := 0) (h := N)) ?_
  rw [cutA0, Nat.sub_zero]
  repeat' (first | refine go ?_ | intro _ | (apply cG; first | refine cT ?_ | refine cF ?_ | refine cS (fun _ => ?_) fun _ => ?_) | (apply gW; refine sW ?_) | (apply gI; refine sI ?_) | (apply gE; refine sE ?_) | (apply gP; refine sP ?_) | (apply gC; refine sC ?_) | (apply gD; refine sD ?_) | fail)
  refine C_sub sub_spnil ?_
  refine C_ownnil 44 ePB ?_
  refine C_loopS (κ := Nat × Value × List PK) [false, false, false, true, true, true, false, false, false, false, false, false, false, false, false, false, false, false, false, false, false, false, true, true, true, true, true, true, true, true, true, true, true, true, true, true, true, true, true, true, true, true, true, true, true, false, false, false, false, false, false, false, false, false, false, false, false, false, false, false, false, false, false, false, false, false] (fun k => [(3, k.2.1), (22, .int .i64 (k.1 : Int))]) (fun k => [(0, own 44 ePB k.2.1 k.2.2), (1, sp (k.2.2.map oB))]) (fun k => k.1 ≤ N ∧ k.2.2.length = k.1 ∧ k.2.2.map PK.p = pkL acked got 0 (wait.take k.1) ∧ ∃ A c, k.2.1 = .slice A k.1 c) (fun k => N - k.1) (0, .slice none 0 0, []) ⟨Nat.zero_le _, rfl, rfl, none, 0, rfl⟩ ⟨rfl, rfl, trivial⟩ ?_
  rintro ⟨i, va, out⟩ u ⟨hi, hol, hout, A6, c6, hva⟩
  dsimp only at hi hol hout hva
  subst hva
  ((try dsimp only); refine C_n ?_; (try simp only [Nat.reduceAdd, Nat.zero_add]))
  by_cases hlt : i < N
  · obtain ⟨y, hy⟩ : ∃ y, wait[i]? = some y := ⟨_, List.getElem?_eq_getElem (by omega)⟩
    have hay : At wait i y := ⟨hy⟩
    have hyl := hb y (List.mem_of_getElem? hy)
    repeat' (first | refine go ?_ | intro _ | (apply cG; first | refine cT ?_ | refine cF ?_ | refine cS (fun _ => ?_) fun _ => ?_) | (apply gW; refine sW ?_) | (apply gI; refine sI ?_) | (apply gE; refine sE ?_) | (apply gP; refine sP ?_) | (apply gC; refine sC ?_) | (apply gD; refine sD ?_) | fail)
    refine O_s (sv_idx (R := eSl eB) (l := wait.take N) (j := i) Ev.pf Ev.pf (fun w s => Sl.cut0 (Src.sl (.inr ⟨_, (by repeat (first | exact .head _ | refine .tail _ ?_))⟩) s) (by omega))) ?_
    repeat' (first | refine go ?_ | intro _ | (apply cG; first | refine cT ?_ | refine cF ?_ | refine cS (fun _ => ?_) fun _ => ?_) | (apply gW; refine sW ?_) | (apply gI; refine sI ?_) | (apply gE; refine sE ?_) | (apply gP; refine sP ?_) | (apply gC; refine sC ?_) | (apply gD; refine sD ?_) | fail)
    rename_i A7 c7
    refine C_draw (n := 99) [cel p [.int .i64 w, .slice A wait.length c, .int .i64 acked, .int .i64 got, .map (some bm), .bool ow] 85] [(0, 1), (1, 1), (2, 1), (3, 1), (4, 1), (5, 1), (6, 1), (7, 1), (8, 1), (9, 1), (10, 1), (11, 1), (12, 1), (13, 0), (14, 1), (15, 0), (16, 0), (17, 1)] (by kernel_rfl) (by kernel_rfl) Sb ?_
    repeat' (first | refine go ?_ | intro _ | (apply cG; first | refine cT ?_ | refine cF ?_ | refine cS (fun _ => ?_) fun _ => ?_) | (apply gW; refine sW ?_) | (apply gI; refine sI ?_) | (apply gE; refine sE ?_) | (apply gP; refine sP ?_) | (apply gC; refine sC ?_) | (apply gD; refine sD ?_) | fail)
    refine D_op rfl ?_; refine X_d (dy_call ArgsI.pf (by first | exact rfl | trivial | (intro a b; rfl)) (Clone_ct (l := y) Sc.pf (by omega))) ?_; rintro _ _ ⟨_, ⟨A8, c8, rfl, rfl⟩, rfl⟩; refine ⟨(by first | exact .inl rfl | exact .inr Sb), D_n ?_⟩
    repeat' (first | refine go ?_ | intro _ | (apply cG; first | refine cT ?_ | refine cF ?_ | refine cS (fun _ => ?_) fun _ => ?_) | (apply gW; refine sW ?_) | (apply gI; refine sI ?_) | (apply gE; refine sE ?_) | (apply gP; refine sP ?_) | (apply gC; refine sC ?_) | (apply gD; refine sD ?_) | fail)
    refine D_d rfl (dy_lit1 (R := ePB) ⟨acked + i + 1, got, .slice A8 y.length c8, y⟩ (hcs := by rfl) (hel := fun m h hs => ⟨rfl, rfl⟩)) ?_; rintro _ _ ⟨_, rfl, rfl⟩; refine ⟨(by first | exact .inl rfl | exact .inr Sb), D_n ?_⟩
    repeat' (first | refine go ?_ | intro _ | (apply cG; first | refine cT ?_ | refine cF ?_ | refine cS (fun _ => ?_) fun _ => ?_) | (apply gW; refine sW ?_) | (apply gI; refine sI ?_) | (apply gE; refine sE ?_) | (apply gP; refine sP ?_) | (apply gC; refine sC ?_) | (apply gD; refine sD ?_) | fail)
    rename_i A9 c9
    subst hol
    refine E_round (out.length + 1, .slice A9 (out.length + 1) c9, out ++ [⟨acked + out.length + 1, got, .slice A8 y.length c8, y⟩]) ⟨hlt, List.length_append, ?_, A9, c9, rfl⟩ (by show N - (out.length + 1) < N - out.length; omega) ⟨rfl, rfl, trivial⟩ (Sub.trans (B := own 5 eB (.slice A8 y.length c8) y :: sp (out.map oB) :: own 44 ePB (.slice A9 (out.length + 1) c9) (out ++ [⟨acked + out.length + 1, got, .slice A8 y.length c8, y⟩]) :: cel p [.int .i64 w, .slice A wait.length c, .int .i64 acked, .int .i64 got, .map (some bm), .bool ow] 85 :: own 31 (eSl eB) (.slice A wait.length c) wait :: mapo mSB bm held :: L) Sb (Sub.trans sub_spsnoc (by dsimp only; rw [List.map_append]; exact Sb)))
    show _ = pkL acked got 0 (wait.take (out.length + 1))
    have ht : wait.take (out.length + 1) = wait.take out.length ++ [y] := by rw [List.take_add_one, hy]; rfl
    rw [ht, pkL_snoc, List.map_append, hout, List.length_take, Nat.min_eq_left (by omega), Nat.zero_add]
    rfl
  obtain rfl : i = N := by omega
  subst hol
  have hNw : wait.take out.length = wait.take w.toNat := by
    rw [← hN]
    rcases Nat.le_total wait.length w.toNat with h | h
    · rw [Nat.min_eq_left h, List.take_length, List.take_of_length_le h]
    · rw [Nat.min_eq_right h]
  rw [hNw] at hout
  by_cases h0 : out.length = 0
  · cases ow
    · repeat' (first | refine go ?_ | intro _ | (apply cG; first | refine cT ?_ | refine cF ?_ | refine cS (fun _ => ?_) fun _ => ?_) | (apply gW; refine sW ?_) | (apply gI; refine sI ?_) | (apply gE; refine sE ?_) | (apply gP; refine sP ?_) | (apply gC; refine sC ?_) | (apply gD; refine sD ?_) | fail)
      refine E_sub (S := own 44 ePB (.slice A6 out.length c6) out :: sp (out.map oB) :: cel p [.int .i64 w, .slice A wait.length c, .int .i64 acked, .int .i64 got, .map (some bm), .bool false] 85 :: own 31 (eSl eB) (.slice A wait.length c) wait :: mapo mSB bm held :: L) Sb ?_
      refine E_sub (sub_skip (sub_skip endo_sub)) ?_
      refine E_res1 (by rfl) (by rfl) ⟨_, _, out, by unfold outP; rw [if_neg (fun h => by cases h.2), hout], rfl, rfl⟩ Sb
    · have he : out = [] := List.length_eq_zero_iff.1 h0
      subst he
      have hw0 : wait = [] := List.length_eq_zero_iff.1 (by simp only [List.length_nil] at hN; omega)
      rcases hne with h | h
      · exact absurd hw0 h
      · cases h
  · have hw0 : wait ≠ [] := fun h => by rw [h] at hN; simp at hN; exact h0 (by rw [← hN])
    repeat' (first | refine go ?_ | intro _ | (apply cG; first | refine cT ?_ | refine cF ?_ | refine cS (fun _ => ?_) fun _ => ?_) | (apply gW; refine sW ?_) | (apply gI; refine sI ?_) | (apply gE; refine sE ?_) | (apply gP; refine sP ?_) | (apply gC; refine sC ?_) | (apply gD; refine sD ?_) | fail)
    refine E_sub (S := own 44 ePB (.slice A6 out.length c6) out :: sp (out.map oB) :: cel p [.int .i64 w, .slice A wait.length c, .int .i64 acked, .int .i64 got, .map (some bm), .bool false] 85 :: own 31 (eSl eB) (.slice A wait.length c) wait :: mapo mSB bm held :: L) Sb ?_
    refine E_sub (sub_skip (sub_skip endo_sub)) ?_
    refine E_res1 (by rfl) (by rfl) ⟨_, _, out, by unfold outP; rw [if_neg (fun h => hw0 h.1), hout], rfl, rfl⟩ Sb
end Go.Proofs.Ythbgmnoaaohbcaa
namespace Go.Proofs.Ythbgmnoaaohbcaa
open Go Go.RowKit
set_option linter.unusedVariables false
set_option linter.unusedSimpArgs false
set_option maxRecDepth 20000
set_option synthInstance.maxSize 100000
set_option synthInstance.maxHeartbeats 400000
/-- pointers to ends -/
def pv (p : Nat) : Value := .pointer (some ⟨p, 0, none⟩)
def ePt : Enc Nat := e1 pv fun _ => rfl
instance : Sz ePt 1 := ⟨rfl⟩
instance {p : Nat} : EncC ePt p [.pointer (some ⟨p, 0, none⟩)] := ⟨fun _ _ h => h⟩
theorem tdiv_bd {n d : Int} (hd : 1 ≤ d) (h1 : -9223372036854775808 ≤ n) (h2 : n ≤ 9223372036854775807) : -9223372036854775808 ≤ n.tdiv d ∧ n.tdiv d ≤ 9223372036854775807 := by
  rcases Int.le_total 0 n with h | h
  · have h3 := Int.tdiv_nonneg (b := d) h (by omega)
    have h4 : n.tdiv d ≤ n := by rw [Int.tdiv_eq_ediv_of_nonneg h]; exact Int.ediv_le_self d h
    omega
  · have e : n.tdiv d = -((-n).tdiv d) := by rw [Int.neg_tdiv, Int.neg_neg]
    have h3 := Int.tdiv_nonneg (a := -n) (b := d) (by omega) (by omega)
    have h4 : (-n).tdiv d ≤ -n := by rw [Int.tdiv_eq_ediv_of_nonneg (by omega)]; exact Int.ediv_le_self d (by omega)
    omega
section
variable {W0 : World} {L : List HP}
theorem ends_ct {window : Int} (hw1 : -9223372036854775808 ≤ window) (hw2 : window ≤ 9223372036854775807) :
    CT Try.prog 10 #[.int .i64 window] W0 L fun r L' => ∃ g pa pb wa wb, (1 ≤ wa ∧ wa ≤ 16 ∧ 1 ≤ wb ∧ wb ≤ 16) ∧ wa = 1 + around window 16 ∧ wb = 1 + around (window.tdiv 16) 16 ∧ r = .slice (some ⟨g, 0, none⟩) 2 2 ∧ L' = rd ePt (.slice (some ⟨g, 0, none⟩) 2 2) [pa, pb] :: ende pa ⟨wa, 0, 0, [], [], false⟩ :: ende pb ⟨wb, 0, 0, [], [], false⟩ :: L := by
  have ha := around_in (n := window) (most := 16) (by decide)
  have hb := around_in (n := window.tdiv 16) (most := 16) (by decide)
  have hq1 : -9223372036854775808 ≤ window.tdiv 16 ∧ window.tdiv 16 ≤ 9223372036854775807 := by
    exact tdiv_bd (by decide) hw1 hw2
  have hq : IntKind.i64.wrap (window.tdiv 16) = window.tdiv 16 := wr_i64 (by omega) (by omega)
  obtain ⟨wa, hwa⟩ : ∃ wa, 1 + around window 16 = wa := ⟨_, rfl⟩
  obtain ⟨wb, hwb⟩ : ∃ wb, 1 + around (window.tdiv 16) 16 = wb := ⟨_, rfl⟩
  refine CT_enter Try.func10 rfl ?_; (simp only [Try.ntmps10, List.size_toArray, List.length_cons, List.length_nil, Nat.reduceAdd, Nat.reduceSub, Array.replicate_succ, Array.replicate_zero, List.push_toArray, List.append_toArray, List.nil_append, List.cons_append])
  repeat' (first | refine go ?_ | intro _ | (apply cG; first | refine cT ?_ | refine cF ?_ | refine cS (fun _ => ?_) fun _ => ?_) | (apply gW; refine sW ?_) | (apply gI; refine sI ?_) | (apply gE; refine sE ?_) | (apply gP; refine sP ?_) | (apply gC; refine sC ?_) | (apply gD; refine sD ?_) | fail)
  refine O_d (dy_call ArgsI.pf (by first | exact rfl | trivial | (intro a b; rfl)) (Around_ct (most := 16) hw1 hw2 (by decide) (by decide))) ?_; rintro _ _ ⟨_, ⟨rfl, hLL⟩, rfl⟩; replace hLL := hLL.symm; subst hLL; refine O_n ?_
  repeat' (first | refine go ?_ | intro _ | (apply cG; first | refine cT ?_ | refine cF ?_ | refine cS (fun _ => ?_) fun _ => ?_) | (apply gW; refine sW ?_) | (apply gI; refine sI ?_) | (apply gE; refine sE ?_) | (apply gP; refine sP ?_) | (apply gC; refine sC ?_) | (apply gD; refine sD ?_) | fail)
  rw [hwa]
  refine O_d (dy_call ArgsI.pf (by first | exact rfl | trivial | (intro a b; rfl)) (New_e (w := wa) (by omega) (by omega))) ?_; rintro _ _ ⟨_, ⟨pa, rfl, rfl⟩, rfl⟩; refine O_n ?_
  repeat' (first | refine go ?_ | intro _ | (apply cG; first | refine cT ?_ | refine cF ?_ | refine cS (fun _ => ?_) fun _ => ?_) | fail)
  apply gW; refine sW (r := window.tdiv 16) ?_ ⟨by decide, hq⟩
  repeat' (first | refine go ?_ | intro _ | (apply cG; first | refine cT ?_ | refine cF ?_ | refine cS (fun _ => ?_) fun _ => ?_) | (apply gW; refine sW ?_) | (apply gI; refine sI ?_) | (apply gE; refine sE ?_) | (apply gP; refine sP ?_) | (apply gC; refine sC ?_) | (apply gD; refine sD ?_) | fail)
  refine O_d (dy_call ArgsI.pf (by first | exact rfl | trivial | (intro a b; rfl)) (Around_ct (most := 16) hq1.1 hq1.2 (by decide) (by decide))) ?_; rintro _ _ ⟨_, ⟨rfl, hLL⟩, rfl⟩; replace hLL := hLL.symm; subst hLL; refine O_n ?_
  repeat' (first | refine go ?_ | intro _ | (apply cG; first | refine cT ?_ | refine cF ?_ | refine cS (fun _ => ?_) fun _ => ?_) | (apply gW; refine sW ?_) | (apply gI; refine sI ?_) | (apply gE; refine sE ?_) | (apply gP; refine sP ?_) | (apply gC; refine sC ?_) | (apply gD; refine sD ?_) | fail)
  rw [hwb]
  refine O_d (dy_call ArgsI.pf (by first | exact rfl | trivial | (intro a b; rfl)) (New_e (w := wb) (by omega) (by omega))) ?_; rintro _ _ ⟨_, ⟨pb, rfl, rfl⟩, rfl⟩; refine O_n ?_
  repeat' (first | refine go ?_ | intro _ | (apply cG; first | refine cT ?_ | refine cF ?_ | refine cS (fun _ => ?_) fun _ => ?_) | (apply gW; refine sW ?_) | (apply gI; refine sI ?_) | (apply gE; refine sE ?_) | (apply gP; refine sP ?_) | (apply gC; refine sC ?_) | (apply gD; refine sD ?_) | fail)
  refine O_d (dy_litP (f := pv) (hf := fun _ => rfl) [pa, pb] (by rfl)) ?_; rintro _ _ ⟨_, rfl, rfl⟩; refine O_n ?_
  refine O_frz 0 ?_
  repeat' (first | refine go ?_ | intro _ | (apply cG; first | refine cT ?_ | refine cF ?_ | refine cS (fun _ => ?_) fun _ => ?_) | (apply gW; refine sW ?_) | (apply gI; refine sI ?_) | (apply gE; refine sE ?_) | (apply gP; refine sP ?_) | (apply gC; refine sC ?_) | (apply gD; refine sD ?_) | fail)
  rename_i g
  exact E_res1 (by rfl) (by rfl) ⟨g, pa, pb, wa, wb, ⟨by omega, by omega, by omega, by omega⟩, by first | rfl | exact hwa.symm, by first | rfl | exact hwb.symm, rfl, rfl⟩ Sb
end
end Go.Proofs.Ythbgmnoaaohbcaa
namespace Go.Proofs.Ythbgmnoaaohbcaa
open Go Go.RowKit
set_option linter.unusedVariables false
set_option linter.unusedSimpArgs false
/-- the messages of ChannelProgress -/
def Mg (m : Nat) : List (List UInt8) := (List.range m).map fun i => [UInt8.ofNat i]
theorem Mg_len (m : Nat) : (Mg m).length = m := by simp [Mg]
theorem Mg_get {m i : Nat} (h : i < m) : (Mg m)[i]? = some [UInt8.ofNat i] := by
  simp [Mg, h]
theorem Mg_succ (m : Nat) : Mg (m + 1) = Mg m ++ [[UInt8.ofNat m]] := by
  simp [Mg, List.range_succ]
theorem Mg_one {m : Nat} {x : List UInt8} (h : x ∈ Mg m) : x.length = 1 := by
  simp only [Mg, List.mem_map] at h
  obtain ⟨i, _, rfl⟩ := h
  rfl
def mkE (w : Int) (a g m : Nat) (ow : Bool) : PE := ⟨w, a, g, (Mg m).drop a, [], ow⟩
theorem mkE_good {w : Int} {a g m : Nat} {ow : Bool} (ha : a ≤ m) (hg : g ≤ 1000) (hm : m ≤ 1000) : (mkE w a g m ow).good :=
  ⟨by show (0 : Int) ≤ a; omega, by show (a : Int) ≤ 1000000000000; omega, by show (0 : Int) ≤ g; omega, by show (g : Int) ≤ 1000000000000; omega, by show ((Mg m).drop a).length ≤ 1000; rw [List.length_drop, Mg_len]; omega, Nat.zero_le _⟩
theorem inP_next {w : Int} {a g m A : Nat} {ow : Bool} {x : SB} (ha : a ≤ m) (hA : A ≤ m) (hx : x.b.length = 1) :
    inP (mkE w a g m ow) ((g : Int) + 1) (A : Int) x = (mkE w (max a A) (g + 1) m true, [x.b]) := by
  have hwl : ((Mg m).drop a).length = m - a := by rw [List.length_drop, Mg_len]
  have hc : canP (mkE w a g m ow) ((g : Int) + 1) (A : Int) x.b := ⟨⟨by omega, by omega, by omega, .inl (by omega)⟩, by show (A : Int) ≤ (a : Int) + ((Mg m).drop a).length; omega, by show (g : Int) + 1 ≤ (g : Int) + 16; omega⟩
  have hs : ¬ ((g : Int) + 1 = 0) := by omega
  have hH : heldP (mkE w a g m ow) ((g : Int) + 1) x = [((g : Int) + 1, x)] := by
    unfold heldP
    rw [if_pos ⟨by show (g : Int) < (g : Int) + 1; omega, rfl⟩]
    rfl
  have hp : posM ((g : Int) + 1) [((g : Int) + 1, x)] 0 = some (0, x) := by simp [posM]
  have hd : drain 1 (g : Int) [((g : Int) + 1, x)] = ((g : Int) + 1, [], [x.b]) := by
    rw [drain_some hp]
    have : delM ((g : Int) + 1) [((g : Int) + 1, x)] = [] := by
      unfold delM
      rw [hp]
      rfl
    rw [this]
    rfl
  rw [inP, if_pos hc, if_neg hs, hH]
  have hl : [((g : Int) + 1, x)].length = 1 := rfl
  rw [hl]
  dsimp only [mkE]
  have e1 : max (a : Int) (A : Int) = ((max a A : Nat) : Int) := by omega
  have e2 : ((Mg m).drop a).drop ((A : Int) - (a : Int)).toNat = (Mg m).drop (max a A) := by
    rw [List.drop_drop]
    congr 1
    omega
  rw [e1, e2, hd]
  rfl
theorem inP_ack {w : Int} {a g m A : Nat} {ow : Bool} {x : SB} (ha : a ≤ m) (hA : A ≤ m) (hx : x.b = []) :
    inP (mkE w a g m ow) 0 (A : Int) x = (mkE w (max a A) g m ow, []) := by
  have hwl : ((Mg m).drop a).length = m - a := by rw [List.length_drop, Mg_len]
  have hc : canP (mkE w a g m ow) 0 (A : Int) x.b := ⟨⟨Int.le_refl _, by omega, by rw [hx]; exact Nat.zero_le _, .inr (by rw [hx]; rfl)⟩, by show (A : Int) ≤ (a : Int) + ((Mg m).drop a).length; omega, by show (0 : Int) ≤ (g : Int) + 16; omega⟩
  rw [inP, if_pos hc, if_pos rfl]
  dsimp only [mkE]
  have e1 : max (a : Int) (A : Int) = ((max a A : Nat) : Int) := by omega
  have e2 : ((Mg m).drop a).drop ((A : Int) - (a : Int)).toNat = (Mg m).drop (max a A) := by
    rw [List.drop_drop]
    congr 1
    omega
  rw [e1, e2]
/-- one end's packets, taken one by one -/
structure Half (l : List PK) (E : PE) (g : Nat) (R : Nat → PE) (G : Nat → Nat) (O : Nat → List (List UInt8)) : Prop where
  r0 : R 0 = E
  g0 : G 0 = g
  st : ∀ (i : Nat) (x : PK) (y : SB), l[i]? = some x → y.b = x.b → inP (R i) x.s x.a y = (R (i + 1), O i)
  o : ∀ (i : Nat) (x : PK), l[i]? = some x → (O i = [] ∧ G (i + 1) = G i) ∨ (O i = [[UInt8.ofNat (G i)]] ∧ G (i + 1) = G i + 1)
  good : ∀ i, i ≤ l.length → (R i).good
  gb : ∀ i, i ≤ l.length → G i ≤ 41
  bl : ∀ x ∈ l, x.b.length ≤ 1
theorem half {l : List PK} {ws wr : Int} {c gs ms ar mr : Nat} {ows owr : Bool} (h1 : 1 ≤ ws) (hl : l.map PK.p = outP ws c gs ((Mg ms).drop c) ows) (hc : c ≤ ms) (hgs : gs ≤ mr) (har : ar ≤ mr) (hms : ms ≤ 41) (hmr : mr ≤ 41) :
    ∃ R G O, Half l (mkE wr ar c mr owr) c R G O ∧ G l.length = c + min ws.toNat (ms - c) ∧ R l.length = mkE wr (if 0 < ms - c ∨ ows = true then max ar gs else ar) (c + min ws.toNat (ms - c)) mr (owr || decide (0 < ms - c)) := by
  have hwl : ((Mg ms).drop c).length = ms - c := by rw [List.length_drop, Mg_len]
  by_cases hd : 0 < ms - c
  · have hne : (Mg ms).drop c ≠ [] := fun h => by rw [h] at hwl; simp at hwl; omega
    have hll := outP_length hl (.inl hne)
    rw [hwl] at hll
    have hget := fun j x => outP_get (j := j) (x := x) hl (.inl hne)
    have hxi : ∀ (i : Nat) (x : PK), l[i]? = some x → x.s = ((c + i : Nat) : Int) + 1 ∧ x.a = (gs : Int) ∧ x.b = [UInt8.ofNat (c + i)] ∧ c + i < ms := by
      intro i x hx
      obtain ⟨e1, e2, e3⟩ := hget i x hx
      have hlt := (List.getElem?_eq_some_iff.1 hx).1
      rw [List.getElem?_drop, Mg_get (by omega)] at e3
      injection e3 with e3
      exact ⟨by omega, e2, e3.symm, by omega⟩
    refine ⟨fun i => if i = 0 then mkE wr ar c mr owr else mkE wr (max ar gs) (c + i) mr true, fun i => c + i, fun i => [[UInt8.ofNat (c + i)]], ⟨rfl, rfl, ?_, fun i x hx => .inr ⟨rfl, rfl⟩, ?_, fun i hi => by (try dsimp only); omega, fun x hx => ?_⟩, by rw [hll], ?_⟩
    · intro i x y hx hy
      obtain ⟨e1, e2, e3, e4⟩ := hxi i x hx
      have hy1 : y.b.length = 1 := by rw [hy, e3]; rfl
      (try dsimp only)
      rw [if_neg (by omega : ¬ i + 1 = 0), e1, e2]
      by_cases h0 : i = 0
      · subst h0
        rw [if_pos rfl, Nat.add_zero, inP_next har hgs hy1, hy, e3]
        rfl
      · rw [if_neg h0, inP_next (by omega) hgs hy1, hy, e3]
        have : max (max ar gs) gs = max ar gs := by omega
        rw [this]
        rfl
    · intro i hi
      (try dsimp only)
      split
      · exact mkE_good har (by omega) (by omega)
      · exact mkE_good (by omega) (by omega) (by omega)
    · obtain ⟨i, hi⟩ := List.getElem?_of_mem hx
      rw [(hxi i x hi).2.2.1]
      exact Nat.le_refl _
    · (try dsimp only)
      rw [if_neg (by omega), if_pos (.inl hd), hll, decide_eq_true hd, Bool.or_true]
  · have hz : ms - c = 0 := by omega
    have hw0 : (Mg ms).drop c = [] := List.length_eq_zero_iff.1 (by rw [hwl]; exact hz)
    rw [hw0] at hl
    rw [hz]
    have hmin : min ws.toNat 0 = 0 := by omega
    rw [hmin, Nat.add_zero]
    cases ows
    · have hl0 : l = [] := by
        have : l.map PK.p = [] := by
          rw [hl, outP, if_neg (fun h => by cases h.2)]
          simp [pkL]
        exact List.map_eq_nil_iff.1 this
      subst hl0
      refine ⟨fun _ => mkE wr ar c mr owr, fun _ => c, fun _ => [], ⟨rfl, rfl, fun i x y hx => by simp at hx, fun i x hx => by simp at hx, fun i _ => mkE_good har (by omega) (by omega), fun i _ => by (try dsimp only); omega, fun x hx => by cases hx⟩, rfl, ?_⟩
      simp
    · rw [outP, if_pos ⟨rfl, rfl⟩] at hl
      obtain ⟨x0, rfl⟩ : ∃ x0, l = [x0] := by
        have := congrArg List.length hl
        rw [List.length_map] at this
        match l, this with
        | [x0], _ => exact ⟨x0, rfl⟩
      simp only [List.map_cons, List.map_nil, PK.p, List.cons.injEq, Prod.mk.injEq, and_true] at hl
      obtain ⟨e1, e2, e3⟩ := hl
      refine ⟨fun i => if i = 0 then mkE wr ar c mr owr else mkE wr (max ar gs) c mr owr, fun _ => c, fun _ => [], ⟨rfl, rfl, fun i x y hx hy => ?_, fun i x _ => .inl ⟨rfl, rfl⟩, fun i _ => ?_, fun i _ => by (try dsimp only); omega, fun x hx => ?_⟩, rfl, ?_⟩
      · obtain rfl : i = 0 := by
          have := (List.getElem?_eq_some_iff.1 hx).1
          simp at this
          exact this
        simp at hx
        subst hx
        rw [e1, e2]
        (try dsimp only)
        rw [if_pos rfl, if_neg (by decide), inP_ack har hgs (by rw [hy, e3])]
      · (try dsimp only)
        split
        · exact mkE_good har (by omega) (by omega)
        · exact mkE_good (by omega) (by omega) (by omega)
      · simp only [List.mem_cons, List.not_mem_nil, or_false] at hx
        subst hx
        rw [e3]
        exact Nat.zero_le _
      · simp
/-- where the rounds stand -/
structure PS where
  a0 : Nat
  g0 : Nat
  a1 : Nat
  g1 : Nat
  q0 : Bool
  q1 : Bool
/-- at the beginning of round r -/
structure PI (m0 m1 r : Nat) (k : PS) : Prop where
  e : k.a0 = k.g1
  le0 : k.a0 ≤ m0
  le1 : k.a1 ≤ k.g0
  le2 : k.g0 ≤ m1
  ow : k.a1 < k.g0 → k.q0 = true
  p0 : min m0 r ≤ k.a0
  p1 : min m1 r ≤ k.g0
  p2 : min m1 (r - 1) ≤ k.a1
/-- in its middle -/
structure PJ (m0 m1 r : Nat) (k : PS) : Prop where
  e : k.a1 = k.g0
  le0 : k.a0 ≤ k.g1
  le1 : k.g1 ≤ m0
  le2 : k.g0 ≤ m1
  ow : k.a0 < k.g1 → k.q1 = true
  q : k.q0 = false
  p0 : min m0 (r + 1) ≤ k.g1
  p1 : min m1 r ≤ k.g0
theorem PI.mid {m0 m1 r : Nat} {w : Nat} {k : PS} (h : PI m0 m1 r k) (hw : 1 ≤ w) : PJ m0 m1 r ⟨k.a0, k.g0, (if 0 < m0 - k.a0 ∨ k.q0 = true then max k.a1 k.g0 else k.a1), k.a0 + min w (m0 - k.a0), false, k.q1 || decide (0 < m0 - k.a0)⟩ := by
  obtain ⟨e, le0, le1, le2, ow, p0, p1, p2⟩ := h
  refine ⟨?_, by dsimp only; omega, by dsimp only; omega, le2, ?_, rfl, by dsimp only; omega, p1⟩
  · dsimp only
    split
    · omega
    · rename_i hn
      have h2 : ¬ k.a1 < k.g0 := fun hh => hn (.inr (ow hh))
      omega
  · intro hlt
    dsimp only at hlt ⊢
    have : 0 < m0 - k.a0 := by omega
    rw [decide_eq_true this, Bool.or_true]
theorem PJ.next {m0 m1 r : Nat} {w : Nat} {k : PS} (h : PJ m0 m1 r k) (hw : 1 ≤ w) : PI m0 m1 (r + 1) ⟨(if 0 < m1 - k.a1 ∨ k.q1 = true then max k.a0 k.g1 else k.a0), k.a1 + min w (m1 - k.a1), k.a1, k.g1, k.q0 || decide (0 < m1 - k.a1), false⟩ := by
  obtain ⟨e, le0, le1, le2, ow, q, p0, p1⟩ := h
  have ha : (if 0 < m1 - k.a1 ∨ k.q1 = true then max k.a0 k.g1 else k.a0) = k.g1 := by
    split
    · omega
    · rename_i hn
      have h2 : ¬ k.a0 < k.g1 := fun hh => hn (.inr (ow hh))
      omega
  rw [ha]
  refine ⟨rfl, le1, by dsimp only; omega, by dsimp only; omega, ?_, p0, by dsimp only; omega, by dsimp only; omega⟩
  intro hlt
  dsimp only at hlt ⊢
  have : 0 < m1 - k.a1 := by omega
  rw [decide_eq_true this, Bool.or_true]
end Go.Proofs.Ythbgmnoaaohbcaa
