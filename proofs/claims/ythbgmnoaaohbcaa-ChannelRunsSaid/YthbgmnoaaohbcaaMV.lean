/-
  Walks of the reference 36: In.
-/
import Derived.Test.YthbgmnoaaohbcaaMU
namespace Go.Proofs.Ythbgmnoaaohbcaa
open Go Go.RowKit
set_option linter.unusedVariables false
set_option linter.unusedSimpArgs false
set_option maxRecDepth 20000
set_option synthInstance.maxSize 100000
set_option synthInstance.maxHeartbeats 400000
def fInP (f : PE) (s a : Int) (x : SB) : PE × List (List UInt8) :=
  if (0 ≤ s ∧ 0 ≤ a ∧ x.b.length ≤ 65536 ∧ (0 < s ∨ x.b.length = 0)) ∧ a ≤ f.wait.length ∧ s ≤ f.got + 16 then
    if s = 0 then ({ f with acked := max f.acked a }, [])
    else if s ≤ f.got ∨ 0 ≤ findP s f.held then ({ f with acked := max f.acked a, ow := true }, [])
    else let r := drain (f.held.length + 1) f.got (f.held ++ [(s, x)])
      ({ f with acked := max f.acked a, got := r.1, held := r.2.1, ow := true }, r.2.2)
  else (f, [])
theorem sub_peekH {L : List HP} {T : TypeId} {v : Value} {l : List (Int × SB)} {j : Nat} {x : Int × SB} (hm : own T eHd v l ∈ L) (hx : l[j]? = some x) : Sub L (rd eB x.2.v x.2.b :: L) := fun m h s => by
  obtain ⟨a, _, css, ha, _⟩ := s.mem hm
  obtain ⟨cs, _, hc⟩ := ha.get hx
  exact ⟨Hp.none, h, Hp.none_dj _, Hp.none_le _, Hp.le_refl _, hc.2, s⟩
section
variable {W0 : World} {L : List HP}
set_option maxHeartbeats 1000000 in
theorem fIn_ct {p : Nat} {e : PE} {vb : Value} {b : List UInt8} {s a : Int} (hv : rd eB vb b ∈ L) (ha1 : 0 ≤ e.acked) (ha2 : e.acked ≤ 1000000000000) (hg1 : 0 ≤ e.got) (hg2 : e.got ≤ 1000000000000) (hw : e.wait.length ≤ 1000) (hh : e.held.length ≤ 100000) (hbl : b.length ≤ 1000000000) :
    CT Try.prog 21 #[.pointer (some ⟨p, 0, none⟩), .agg #[.int .i64 s, .int .i64 a, vb]] W0 (fende p e :: L) fun r L' => ∃ A c, r = .slice A (fInP e s a ⟨vb, b⟩).2.length c ∧ L' = own 31 (eSl eB) (.slice A (fInP e s a ⟨vb, b⟩).2.length c) (fInP e s a ⟨vb, b⟩).2 :: fende p (fInP e s a ⟨vb, b⟩).1 :: L := by
  obtain ⟨w, acked, got, wait, held, ow⟩ := e
  dsimp only at ha1 ha2 hg1 hg2 hw hh
  refine fende_ct fun A c B d hc => ?_
  dsimp only
  refine CT_fact (fun w s => ((Src.sl (.inl (.tail _ (.tail _ (.tail _ hv)))) s).form)) ?_
  rintro ⟨A0, c0, rfl, hc0⟩
  refine CT.sub (S := cel p [.int .i64 w, .slice A wait.length c, .int .i64 acked, .int .i64 got, .slice B held.length d, .bool ow] 50 :: own 91 eHd (.slice B held.length d) held :: own 31 (eSl eB) (.slice A wait.length c) wait :: rd eB (.slice A0 b.length c0) b :: L) ?_ ((sub_dup (.tail _ (.tail _ (.tail _ hv)))).trans Sb)
  obtain ⟨q, hq⟩ : ∃ q, decide (0 ≤ s ∧ 0 ≤ a ∧ b.length ≤ 65536 ∧ (0 < s ∨ b.length = 0)) = q := ⟨_, rfl⟩
  refine CT_enter Try.func21 rfl ?_; (simp only [Try.ntmps21, List.size_toArray, List.length_cons, List.length_nil, Nat.reduceAdd, Nat.reduceSub, Array.replicate_succ, Array.replicate_zero, List.push_toArray, List.append_toArray, List.nil_append, List.cons_append])
  repeat' (first | refine go ?_ | intro _ | (apply cG; first | refine cT ?_ | refine cF ?_ | refine cS (fun _ => ?_) fun _ => ?_) | (apply gW; refine sW ?_) | (apply gI; refine sI ?_) | (apply gE; refine sE ?_) | (apply gP; refine sP ?_) | (apply gC; refine sC ?_) | (apply gD; refine sD ?_) | fail)
  rename_i bx
  refine O_d (dy_call ArgsI.pf (by first | exact rfl | trivial | (intro a b; rfl)) (fValid_ct (b := b) Sc.pf hq)) ?_; rintro _ _ ⟨_, ⟨rfl, hLL⟩, rfl⟩; replace hLL := hLL.symm; subst hLL; refine O_n ?_
  repeat' (first | refine go ?_ | intro _ | (apply cG; first | refine cT ?_ | refine cF ?_ | refine cS (fun _ => ?_) fun _ => ?_) | (apply gW; refine sW ?_) | (apply gI; refine sI ?_) | (apply gE; refine sE ?_) | (apply gP; refine sP ?_) | (apply gC; refine sC ?_) | (apply gD; refine sD ?_) | fail)
  refine C_draw (n := 99) [cel bx [.int .i64 s, .int .i64 a, .slice A0 b.length c0] 40, cel p [.int .i64 w, .slice A wait.length c, .int .i64 acked, .int .i64 got, .slice B held.length d, .bool ow] 50] [(0, 1), (1, 1), (2, 1), (3, 1), (4, 1), (5, 1), (6, 1), (7, 1), (8, 1), (9, 1), (10, 1), (11, 1), (12, 1), (13, 1), (14, 1), (15, 1), (16, 1), (17, 1), (18, 1), (19, 1), (20, 1), (21, 1)] (by kernel_rfl) (by kernel_rfl) Sb ?_
  by_cases hcan : (0 ≤ s ∧ 0 ≤ a ∧ b.length ≤ 65536 ∧ (0 < s ∨ b.length = 0)) ∧ a ≤ wait.length ∧ s ≤ got + 16
  rotate_left
  · have hin : fInP ⟨w, acked, got, wait, held, ow⟩ s a ⟨.slice A0 b.length c0, b⟩ = (⟨w, acked, got, wait, held, ow⟩, []) := by rw [fInP, if_neg hcan]
    cases q
    · repeat' (first | refine go ?_ | intro _ | (apply cG; first | refine cT ?_ | refine cF ?_ | refine cS (fun _ => ?_) fun _ => ?_) | (apply gW; refine sW ?_) | (apply gI; refine sI ?_) | (apply gE; refine sE ?_) | (apply gP; refine sP ?_) | (apply gC; refine sC ?_) | (apply gD; refine sD ?_) | fail)
      refine E_ownnil 31 (eSl eB) ?_
      refine E_sub (S := own 31 (eSl eB) (.slice none 0 0) [] :: cel p [.int .i64 w, .slice A wait.length c, .int .i64 acked, .int .i64 got, .slice B held.length d, .bool ow] 50 :: own 31 (eSl eB) (.slice A wait.length c) wait :: own 91 eHd (.slice B held.length d) held :: L) Sb ?_
      refine E_sub (sub_skip (fende_sub (f := ⟨w, acked, got, wait, held, ow⟩))) ?_
      refine E_res1 (by rfl) (by rfl) ⟨none, 0, by rw [hin], by rw [hin]⟩ Sb
    · have hq := of_decide_eq_true hq
      by_cases h1 : (wait.length : Int) < a
      · repeat' (first | refine go ?_ | intro _ | (apply cG; first | refine cT ?_ | refine cF ?_ | refine cS (fun _ => ?_) fun _ => ?_) | (apply gW; refine sW ?_) | (apply gI; refine sI ?_) | (apply gE; refine sE ?_) | (apply gP; refine sP ?_) | (apply gC; refine sC ?_) | (apply gD; refine sD ?_) | fail)
        refine E_ownnil 31 (eSl eB) ?_
        refine E_sub (S := own 31 (eSl eB) (.slice none 0 0) [] :: cel p [.int .i64 w, .slice A wait.length c, .int .i64 acked, .int .i64 got, .slice B held.length d, .bool ow] 50 :: own 31 (eSl eB) (.slice A wait.length c) wait :: own 91 eHd (.slice B held.length d) held :: L) Sb ?_
        refine E_sub (sub_skip (fende_sub (f := ⟨w, acked, got, wait, held, ow⟩))) ?_
        refine E_res1 (by rfl) (by rfl) ⟨none, 0, by rw [hin], by rw [hin]⟩ Sb
      · have h2 : got + 16 < s := by omega
        repeat' (first | refine go ?_ | intro _ | (apply cG; first | refine cT ?_ | refine cF ?_ | refine cS (fun _ => ?_) fun _ => ?_) | (apply gW; refine sW ?_) | (apply gI; refine sI ?_) | (apply gE; refine sE ?_) | (apply gP; refine sP ?_) | (apply gC; refine sC ?_) | (apply gD; refine sD ?_) | fail)
        refine E_ownnil 31 (eSl eB) ?_
        refine E_sub (S := own 31 (eSl eB) (.slice none 0 0) [] :: cel p [.int .i64 w, .slice A wait.length c, .int .i64 acked, .int .i64 got, .slice B held.length d, .bool ow] 50 :: own 31 (eSl eB) (.slice A wait.length c) wait :: own 91 eHd (.slice B held.length d) held :: L) Sb ?_
        refine E_sub (sub_skip (fende_sub (f := ⟨w, acked, got, wait, held, ow⟩))) ?_
        refine E_res1 (by rfl) (by rfl) ⟨none, 0, by rw [hin], by rw [hin]⟩ Sb
  obtain rfl : q = true := by rw [← hq]; exact decide_eq_true hcan.1
  have hcc := hcan
  obtain ⟨⟨g1, g2, g3, g4⟩, g5, g6⟩ := hcc
  repeat' (first | refine go ?_ | intro _ | (apply cG; first | refine cT ?_ | refine cF ?_ | refine cS (fun _ => ?_) fun _ => ?_) | (apply gW; refine sW ?_) | (apply gI; refine sI ?_) | (apply gE; refine sE ?_) | (apply gP; refine sP ?_) | (apply gC; refine sC ?_) | (apply gD; refine sD ?_) | fail)
  obtain ⟨acked', hacked'⟩ : ∃ x, max acked a = x := ⟨_, rfl⟩
  have hmx : (if a > acked then a else acked) = acked' := by rw [← hacked']; split <;> omega
  refine C_draw (n := 10) [cel bx [.int .i64 s, .int .i64 a, .slice A0 b.length c0] 40, cel p [.int .i64 w, .slice A wait.length c, .int .i64 acked, .int .i64 got, .slice B held.length d, .bool ow] 50] [(0, 1), (1, 1), (2, 1), (3, 1), (4, 1), (5, 1), (6, 1), (7, 1), (8, 1), (9, 1), (10, 0)] (by kernel_rfl) (by kernel_rfl) Sb ?_
  repeat' (first | refine go ?_ | intro _ | (apply cG; first | refine cT ?_ | refine cF ?_ | refine cS (fun _ => ?_) fun _ => ?_) | (apply gI; refine sI ?_) | (apply gE; refine sE ?_) | (apply gP; refine sP ?_) | (apply gC; refine sC ?_) | (apply gD; refine sD ?_) | fail)
  apply gW; refine sW (r := acked') ?_ hmx
  by_cases hs0 : s = 0
  · repeat' (first | refine go ?_ | intro _ | (apply cG; first | refine cT ?_ | refine cF ?_ | refine cS (fun _ => ?_) fun _ => ?_) | (apply gW; refine sW ?_) | (apply gI; refine sI ?_) | (apply gE; refine sE ?_) | (apply gP; refine sP ?_) | (apply gC; refine sC ?_) | (apply gD; refine sD ?_) | fail)
    have hin : fInP ⟨w, acked, got, wait, held, ow⟩ s a ⟨.slice A0 b.length c0, b⟩ = (⟨w, acked', got, wait, held, ow⟩, []) := by rw [fInP, if_pos hcan, if_pos hs0, ← hacked']
    refine E_ownnil 31 (eSl eB) ?_
    refine E_sub (S := own 31 (eSl eB) (.slice none 0 0) [] :: cel p [.int .i64 w, .slice A wait.length c, .int .i64 acked', .int .i64 got, .slice B held.length d, .bool ow] 50 :: own 31 (eSl eB) (.slice A wait.length c) wait :: own 91 eHd (.slice B held.length d) held :: L) Sb ?_
    refine E_sub (sub_skip (fende_sub (f := ⟨w, acked', got, wait, held, ow⟩))) ?_
    refine E_res1 (by rfl) (by rfl) ⟨none, 0, by rw [hin], by rw [hin]⟩ Sb
  repeat' (first | refine go ?_ | intro _ | (apply cG; first | refine cT ?_ | refine cF ?_ | refine cS (fun _ => ?_) fun _ => ?_) | (apply gW; refine sW ?_) | (apply gI; refine sI ?_) | (apply gE; refine sE ?_) | (apply gP; refine sP ?_) | (apply gC; refine sC ?_) | (apply gD; refine sD ?_) | fail)
  refine C_draw (n := 99) [cel bx [.int .i64 s, .int .i64 a, .slice A0 b.length c0] 40, cel p [.int .i64 w, .slice A wait.length c, .int .i64 acked', .int .i64 got, .slice B held.length d, .bool true] 50] [(0, 1), (1, 1), (2, 1), (3, 1), (4, 1), (5, 1), (6, 1), (7, 1), (8, 1), (9, 1), (10, 1), (11, 0), (12, 1), (13, 1)] (by kernel_rfl) (by kernel_rfl) Sb ?_
  by_cases hsg : s ≤ got
  · repeat' (first | refine go ?_ | intro _ | (apply cG; first | refine cT ?_ | refine cF ?_ | refine cS (fun _ => ?_) fun _ => ?_) | (apply gW; refine sW ?_) | (apply gI; refine sI ?_) | (apply gE; refine sE ?_) | (apply gP; refine sP ?_) | (apply gC; refine sC ?_) | (apply gD; refine sD ?_) | fail)
    refine D_op rfl ?_; refine X_o0 Sb ?_
    repeat' (first | refine go ?_ | intro _ | (apply cG; first | refine cT ?_ | refine cF ?_ | refine cS (fun _ => ?_) fun _ => ?_) | (apply gW; refine sW ?_) | (apply gI; refine sI ?_) | (apply gE; refine sE ?_) | (apply gP; refine sP ?_) | (apply gC; refine sC ?_) | (apply gD; refine sD ?_) | fail)
    have hin : fInP ⟨w, acked, got, wait, held, ow⟩ s a ⟨.slice A0 b.length c0, b⟩ = (⟨w, acked', got, wait, held, true⟩, []) := by rw [fInP, if_pos hcan, if_neg hs0, if_pos (.inl hsg), ← hacked']
    refine E_ownnil 31 (eSl eB) ?_
    refine E_sub (S := own 31 (eSl eB) (.slice none 0 0) [] :: cel p [.int .i64 w, .slice A wait.length c, .int .i64 acked', .int .i64 got, .slice B held.length d, .bool true] 50 :: own 31 (eSl eB) (.slice A wait.length c) wait :: own 91 eHd (.slice B held.length d) held :: L) Sb ?_
    refine E_sub (sub_skip (fende_sub (f := ⟨w, acked', got, wait, held, true⟩))) ?_
    refine E_res1 (by rfl) (by rfl) ⟨none, 0, by rw [hin], by rw [hin]⟩ Sb
  repeat' (first | refine go ?_ | intro _ | (apply cG; first | refine cT ?_ | refine cF ?_ | refine cS (fun _ => ?_) fun _ => ?_) | (apply gW; refine sW ?_) | (apply gI; refine sI ?_) | (apply gE; refine sE ?_) | (apply gP; refine sP ?_) | (apply gC; refine sC ?_) | (apply gD; refine sD ?_) | fail)
  refine D_sub (L' := cel p [.int .i64 w, .slice A wait.length c, .int .i64 acked', .int .i64 got, .slice B held.length d, .bool true] 50 :: own 91 eHd (.slice B held.length d) held :: cel bx [.int .i64 s, .int .i64 a, .slice A0 b.length c0] 40 :: own 31 (eSl eB) (.slice A wait.length c) wait :: rd eB (.slice A0 b.length c0) b :: L) Sb ?_
  refine D_op rfl ?_; refine X_d (dy_call ArgsI.pf (by first | exact rfl | trivial | (intro a b; rfl)) (find_in (by omega))) ?_; rintro _ _ ⟨_, ⟨rfl, hLL⟩, rfl⟩; replace hLL := hLL.symm; subst hLL; refine ⟨(by first | exact .inl rfl | exact .inr Sb), D_n ?_⟩
  cases hp : posM s held 0 with
  | some q =>
    have hf : findP s held = (q.1 : Int) := by unfold findP; rw [hp]
    rw [hf]
    have hin : fInP ⟨w, acked, got, wait, held, ow⟩ s a ⟨.slice A0 b.length c0, b⟩ = (⟨w, acked', got, wait, held, true⟩, []) := by rw [fInP, if_pos hcan, if_neg hs0, if_pos (.inr (by show 0 ≤ findP s held; rw [hf]; omega)), ← hacked']
    repeat' (first | refine go ?_ | intro _ | (apply cG; first | refine cT ?_ | refine cF ?_ | refine cS (fun _ => ?_) fun _ => ?_) | (apply gW; refine sW ?_) | (apply gI; refine sI ?_) | (apply gE; refine sE ?_) | (apply gP; refine sP ?_) | (apply gC; refine sC ?_) | (apply gD; refine sD ?_) | fail)
    refine E_ownnil 31 (eSl eB) ?_
    refine E_sub (S := own 31 (eSl eB) (.slice none 0 0) [] :: cel p [.int .i64 w, .slice A wait.length c, .int .i64 acked', .int .i64 got, .slice B held.length d, .bool true] 50 :: own 31 (eSl eB) (.slice A wait.length c) wait :: own 91 eHd (.slice B held.length d) held :: L) Sb ?_
    refine E_sub (sub_skip (fende_sub (f := ⟨w, acked', got, wait, held, true⟩))) ?_
    refine E_res1 (by rfl) (by rfl) ⟨none, 0, by rw [hin], by rw [hin]⟩ Sb
  | none =>
  have hf : findP s held = -1 := by unfold findP; rw [hp]
  rw [hf]
  repeat' (first | refine go ?_ | intro _ | (apply cG; first | refine cT ?_ | refine cF ?_ | refine cS (fun _ => ?_) fun _ => ?_) | (apply gW; refine sW ?_) | (apply gI; refine sI ?_) | (apply gE; refine sE ?_) | (apply gP; refine sP ?_) | (apply gC; refine sC ?_) | (apply gD; refine sD ?_) | fail)
  obtain ⟨gF, hF, oF, hdr⟩ : ∃ gF hF oF, drain (held.length + 1) got (held ++ [(s, ⟨.slice A0 b.length c0, b⟩)]) = (gF, hF, oF) := ⟨_, _, _, rfl⟩
  have hin : fInP ⟨w, acked, got, wait, held, ow⟩ s a ⟨.slice A0 b.length c0, b⟩ = (⟨w, acked', gF, wait, hF, true⟩, oF) := by
    rw [fInP, if_pos hcan, if_neg hs0, if_neg (by rw [hf]; rintro (h | h); exact hsg h; exact absurd h (by decide))]
    simp only [hdr, hacked']
  refine C_draw (n := 14) [cel bx [.int .i64 s, .int .i64 a, .slice A0 b.length c0] 40, cel p [.int .i64 w, .slice A wait.length c, .int .i64 acked', .int .i64 got, .slice B held.length d, .bool true] 50] [(0, 1), (1, 1), (2, 1), (3, 1), (4, 1), (5, 1), (6, 1), (7, 1), (8, 1), (9, 1), (10, 0), (11, 0), (12, 1), (13, 1), (14, 0)] (by kernel_rfl) (by kernel_rfl) Sb ?_
  repeat' (first | refine go ?_ | intro _ | (apply cG; first | refine cT ?_ | refine cF ?_ | refine cS (fun _ => ?_) fun _ => ?_) | (apply gW; refine sW ?_) | (apply gI; refine sI ?_) | (apply gE; refine sE ?_) | (apply gP; refine sP ?_) | (apply gC; refine sC ?_) | (apply gD; refine sD ?_) | fail)
  refine D_d rfl (dy_lit1 (R := eHd) (s, ⟨.slice A0 b.length c0, b⟩) (hcs := by rfl) (hel := fun m h hs => ⟨rfl, rd_mem hs (by repeat (first | exact .head _ | refine .tail _ ?_))⟩)) ?_; rintro _ _ ⟨_, rfl, rfl⟩; refine ⟨(by first | exact .inl rfl | exact .inr Sb), D_n ?_⟩
  refine D_op rfl ?_; refine X_d (dy_append (i := 2) (l := held) (l2 := [(s, ⟨.slice A0 b.length c0, b⟩)]) (hm := rfl)) ?_; rintro _ _ ⟨B2, d2, rfl, hLL⟩; replace hLL := hLL.trans SAt.pf; subst hLL; refine ⟨(by first | exact .inl rfl | exact .inr Sb), D_n ?_⟩
  repeat' (first | refine go ?_ | intro _ | (apply cG; first | refine cT ?_ | refine cF ?_ | refine cS (fun _ => ?_) fun _ => ?_) | (apply gW; refine sW ?_) | (apply gI; refine sI ?_) | (apply gE; refine sE ?_) | (apply gP; refine sP ?_) | (apply gC; refine sC ?_) | (apply gD; refine sD ?_) | fail)
  obtain ⟨H, hH⟩ : ∃ H, held ++ [((s, ⟨.slice A0 b.length c0, b⟩) : Int × SB)] = H := ⟨_, rfl⟩
  have hHl : held.length + 1 = H.length := by rw [← hH, List.length_append]; rfl
  rw [hH, hHl] at hdr ⊢
  refine C_ownnil 31 (eSl eB) ?_
  refine C_sub (S := cel p [.int .i64 w, .slice A wait.length c, .int .i64 acked', .int .i64 got, .slice B2 H.length d2, .bool true] 50 :: own 91 eHd (.slice B2 H.length d2) H :: own 31 (eSl eB) (.slice none 0 0) [] :: own 31 (eSl eB) (.slice A wait.length c) wait :: L) Sb ?_
  refine C_loopS (κ := Int × List (Int × SB) × Option Addr × Nat × Value × List (List UInt8)) [false, false, false, false, false, false, true, true, true, false, false, false, false, false, false, false, false, false, false, false, false, false, false, false, false, false, false, false, false, false, false, false, false, false, false, false, false, false, false, false, false, false, false, false, false, false, false, false, false, false, false, false, false, false, false, false, false, false, false, false, false, false, false, false, false, false, false, false, false, false, false, false, false, false, false, false, false, true, true, true, true, true, true, true, true, true, true, true, true, true, true, true, true, true, true, true, true, true, true, true, true, true, true, true, true, true, true, true, true, true, true, true, true, true, true, true, true, true, true, true, true, true, true, true, true, true, true, true, true, true, true, false] (fun k => [(6, k.2.2.2.2.1)]) (fun k => [(0, cel p [.int .i64 w, .slice A wait.length c, .int .i64 acked', .int .i64 k.1, .slice k.2.2.1 k.2.1.length k.2.2.2.1, .bool true] 50), (1, own 91 eHd (.slice k.2.2.1 k.2.1.length k.2.2.2.1) k.2.1), (2, own 31 (eSl eB) k.2.2.2.2.1 k.2.2.2.2.2)]) (fun k => (∃ A c, k.2.2.2.2.1 = .slice A k.2.2.2.2.2.length c) ∧ (drain k.2.1.length k.1 k.2.1).1 = gF ∧ (drain k.2.1.length k.1 k.2.1).2.1 = hF ∧ k.2.2.2.2.2 ++ (drain k.2.1.length k.1 k.2.1).2.2 = oF ∧ k.1 + k.2.1.length = got + H.length ∧ got ≤ k.1 ∧ k.2.2.2.2.2.length + k.2.1.length = H.length) (fun k => k.2.1.length) (got, H, B2, d2, .slice none 0 0, []) ⟨⟨none, 0, rfl⟩, by rw [hdr], by rw [hdr], by rw [hdr]; rfl, rfl, Int.le_refl _, by simp⟩ ⟨rfl, trivial⟩ ?_
  rintro ⟨g, h, B3, d3, v, out⟩ u3 ⟨⟨A5, c5, hv5⟩, hd1, hd2, hd3, hgs, hgg, hol⟩
  dsimp only at hv5 hd1 hd2 hd3 hgs hgg hol
  subst hv5
  dsimp only
  ((try dsimp only); refine C_n ?_; (try simp only [Nat.reduceAdd, Nat.zero_add]))
  repeat' (first | refine go ?_ | intro _ | (apply cG; first | refine cT ?_ | refine cF ?_ | refine cS (fun _ => ?_) fun _ => ?_) | (apply gW; refine sW ?_) | (apply gI; refine sI ?_) | (apply gE; refine sE ?_) | (apply gP; refine sP ?_) | (apply gC; refine sC ?_) | (apply gD; refine sD ?_) | fail)
  refine O_d (dy_call ArgsI.pf (by first | exact rfl | trivial | (intro a b; rfl)) (find_in (by omega))) ?_; rintro _ _ ⟨_, ⟨rfl, hLL⟩, rfl⟩; replace hLL := hLL.symm; subst hLL; refine O_n ?_
  cases hpp : posM (g + 1) h 0 with
  | none =>
    have hf2 : findP (g + 1) h = -1 := by unfold findP; rw [hpp]
    rw [hf2]
    rw [drain_none hpp] at hd1 hd2 hd3
    dsimp only at hd1 hd2 hd3
    rw [List.append_nil] at hd3
    subst hd1 hd2 hd3
    repeat' (first | refine go ?_ | intro _ | (apply cG; first | refine cT ?_ | refine cF ?_ | refine cS (fun _ => ?_) fun _ => ?_) | (apply gW; refine sW ?_) | (apply gI; refine sI ?_) | (apply gE; refine sE ?_) | (apply gP; refine sP ?_) | (apply gC; refine sC ?_) | (apply gD; refine sD ?_) | fail)
    refine E_sub (S := own 31 (eSl eB) (.slice A5 out.length c5) out :: cel p [.int .i64 w, .slice A wait.length c, .int .i64 acked', .int .i64 g, .slice B3 h.length d3, .bool true] 50 :: own 31 (eSl eB) (.slice A wait.length c) wait :: own 91 eHd (.slice B3 h.length d3) h :: L) Sb ?_
    refine E_sub (sub_skip (fende_sub (f := ⟨w, acked', g, wait, h, true⟩))) ?_
    refine E_res1 (by rfl) (by rfl) ⟨A5, c5, by rw [hin], by rw [hin]⟩ Sb
  | some q =>
    have hf2 : findP (g + 1) h = (q.1 : Int) := by unfold findP; rw [hpp]
    rw [hf2]
    have hdl := delM_len hpp
    have hql := (posM_lt hpp).2.1
    have hqq := posM_mem hpp
    obtain ⟨n, hn⟩ : ∃ n, h.length = n + 1 := ⟨h.length - 1, by omega⟩
    have hdn : (delM (g + 1) h).length = n := by omega
    rw [hn, drain_some hpp, ← hdn] at hd1 hd2 hd3
    dsimp only at hd1 hd2 hd3
    rw [← List.singleton_append, ← List.append_assoc] at hd3
    have hdm : delM (g + 1) h = h.take q.1 ++ h.drop (q.1 + 1) := by
      unfold delM
      rw [hpp]
      exact List.eraseIdx_eq_take_drop_succ _ _
    repeat' (first | refine go ?_ | intro _ | (apply cG; first | refine cT ?_ | refine cF ?_ | refine cS (fun _ => ?_) fun _ => ?_) | (apply gW; refine sW ?_) | (apply gI; refine sI ?_) | (apply gE; refine sE ?_) | (apply gP; refine sP ?_) | (apply gC; refine sC ?_) | (apply gD; refine sD ?_) | fail)
    refine O_d (dy_call ArgsI.pf (by first | exact rfl | trivial | (intro a b; rfl)) (find_in (by omega))) ?_; rintro _ _ ⟨_, ⟨rfl, hLL⟩, rfl⟩; replace hLL := hLL.symm; subst hLL; refine O_n ?_
    rw [hf2]
    have haq : At h q.1 (g + 1, q.2) := ⟨hqq⟩
    refine O_sub (sub_peekH (l := h) (j := q.1) (x := (g + 1, q.2)) (by repeat (first | exact .head _ | refine .tail _ ?_)) hqq) ?_
    refine O_fact (fun w s => (Src.sl (.inl (.head _)) s : Sl _ eB q.2.v q.2.b).form) ?_
    rintro ⟨Aq, cq, hform, hcq⟩
    repeat' (first | refine go ?_ | intro _ | (apply cG; first | refine cT ?_ | refine cF ?_ | refine cS (fun _ => ?_) fun _ => ?_) | (apply gW; refine sW ?_) | (apply gI; refine sI ?_) | (apply gE; refine sE ?_) | (apply gP; refine sP ?_) | (apply gC; refine sC ?_) | (apply gD; refine sD ?_) | fail)
    refine O_d (dy_litS (R := eSl eB) [q.2.b] [q.2.v] (by rfl) (fun m h hs => ⟨⟨_, rfl, rd_mem hs (by repeat (first | exact .head _ | refine .tail _ ?_))⟩, trivial⟩) (fun v hv => by
      simp only [List.mem_cons, List.not_mem_nil, or_false] at hv
      subst hv
      rw [hform]; rfl)) ?_; rintro _ _ ⟨_, rfl, rfl⟩; refine O_n ?_
    refine O_d dy_append ?_; rintro _ _ ⟨A9, c9, rfl, rfl⟩; refine O_n ?_
    refine O_frz 3 ?_
    refine O_ownnil 91 eHd ?_
    repeat' (first | refine go ?_ | intro _ | (apply cG; first | refine cT ?_ | refine cF ?_ | refine cS (fun _ => ?_) fun _ => ?_) | (apply gW; refine sW ?_) | (apply gI; refine sI ?_) | (apply gE; refine sE ?_) | (apply gP; refine sP ?_) | (apply gC; refine sC ?_) | (apply gD; refine sD ?_) | fail)
    have htl : (h.take q.1).length = q.1 := by rw [List.length_take]; omega
    apply gP; refine sP (r := q.1) ?_ ⟨by rw [List.drop_zero, htl]; exact Nat.zero_add _, by omega, by omega⟩
    intro A7 c7
    rw [List.drop_zero, List.nil_append]
    have hw1 : IntKind.i64.wrap ((q.1 : Int) + 1) = ((q.1 + 1 : Nat) : Int) := by rw [wr_i64 (by omega) (by omega)]; push_cast; rfl
    repeat' (first | refine go ?_ | intro _ | (apply cG; first | refine cT ?_ | refine cF ?_ | refine cS (fun _ => ?_) fun _ => ?_) | (apply gI; refine sI ?_) | (apply gE; refine sE ?_) | (apply gP; refine sP ?_) | (apply gC; refine sC ?_) | (apply gD; refine sD ?_) | fail)
    apply gW; refine sW (r := ((q.1 + 1 : Nat) : Int)) ?_ hw1
    repeat' (first | refine go ?_ | intro _ | (apply cG; first | refine cT ?_ | refine cF ?_ | refine cS (fun _ => ?_) fun _ => ?_) | (apply gW; refine sW ?_) | (apply gI; refine sI ?_) | (apply gE; refine sE ?_) | (apply gP; refine sP ?_) | (apply gC; refine sC ?_) | (apply gD; refine sD ?_) | fail)
    have hdr2 : (h.drop (q.1 + 1)).take (h.length - (q.1 + 1)) = h.drop (q.1 + 1) := List.take_of_length_le (by rw [List.length_drop]; exact Nat.le_refl _)
    apply gP; refine sP (r := (delM (g + 1) h).length) ?_ ⟨by rw [hdr2, hdm, List.length_append], by omega, by omega⟩
    intro A8 c8
    rw [hdr2, ← hdm]
    repeat' (first | refine go ?_ | intro _ | (apply cG; first | refine cT ?_ | refine cF ?_ | refine cS (fun _ => ?_) fun _ => ?_) | (apply gW; refine sW ?_) | (apply gI; refine sI ?_) | (apply gE; refine sE ?_) | (apply gP; refine sP ?_) | (apply gC; refine sC ?_) | (apply gD; refine sD ?_) | fail)
    have hol2 : out.length + 1 = (out ++ [q.2.b]).length := by rw [List.length_append]; rfl
    refine E_round (g + 1, delM (g + 1) h, A8, c8, .slice A9 (out.length + 1) c9, out ++ [q.2.b]) ⟨⟨A9, c9, by rw [← hol2]⟩, hd1, hd2, hd3, by show (g + 1 : Int) + (delM (g + 1) h).length = _; omega, by show got ≤ g + 1; omega, by show (out ++ [q.2.b]).length + (delM (g + 1) h).length = _; omega⟩ (by show (delM (g + 1) h).length < h.length; omega) ⟨rfl, trivial⟩ Sb
end
end Go.Proofs.Ythbgmnoaaohbcaa
