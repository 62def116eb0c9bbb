/-
  Walks of package channel: In, what it takes.
-/
import Derived.Test.YthbgmnoaaohbcaaMR
namespace Go.Proofs.Ythbgmnoaaohbcaa
open Go Go.RowKit
set_option linter.unusedVariables false
set_option linter.unusedSimpArgs false
set_option maxRecDepth 20000
set_option synthInstance.maxSize 100000
set_option synthInstance.maxHeartbeats 400000
theorem drain_none {n : Nat} {g : Int} {h : List (Int × SB)} (hp : posM (g + 1) h 0 = none) : drain n g h = (g, h, []) := by
  cases n with
  | zero => rfl
  | succ n => rw [drain, hp]
theorem drain_some {n : Nat} {g : Int} {h : List (Int × SB)} {q : Nat × SB} (hp : posM (g + 1) h 0 = some q) : drain (n + 1) g h = ((drain n (g + 1) (delM (g + 1) h)).1, (drain n (g + 1) (delM (g + 1) h)).2.1, q.2.b :: (drain n (g + 1) (delM (g + 1) h)).2.2) := by
  rw [drain, hp]
theorem sub_held {L : List HP} {b : Nat} {l : List (Int × SB)} {k : Int} {q : Nat × SB} (hm : mapo mSB b l ∈ L) (hq : posM k l 0 = some q) : Sub L (rd eB q.2.v q.2.b :: L) := mapo_imp hm hq
section
variable {W0 : World} {L : List HP}
theorem In_yes {p : Nat} {w acked got : Int} {wait : List (List UInt8)} {held : List (Int × SB)} {ow : Bool} {vb : Value} {b : List UInt8} {s a : Int} (hv : Src L eB vb b) (h1 : 0 ≤ s) (h2 : 0 ≤ a) (h3 : b.length ≤ 65536) (h4 : 0 < s ∨ b.length = 0) (h5 : a ≤ acked + wait.length) (h6 : s ≤ got + 16)
    (ha1 : 0 ≤ acked) (ha2 : acked ≤ 1000000000000) (hg1 : 0 ≤ got) (hg2 : got ≤ 1000000000000) (hw : wait.length ≤ 1000) (hh : held.length ≤ 1000000) :
    CT Try.prog 19 #[.pointer (some ⟨p, 0, none⟩), .agg #[.int .i64 s, .int .i64 a, vb]] W0 (endo p w acked got wait held ow :: L) fun r L' => ∃ A c x, x.b = b ∧ r = .slice A (inP ⟨w, acked, got, wait, held, ow⟩ s a x).2.length c ∧ L' = own 31 (eSl eB) (.slice A (inP ⟨w, acked, got, wait, held, ow⟩ s a x).2.length c) (inP ⟨w, acked, got, wait, held, ow⟩ s a x).2 :: ende p (inP ⟨w, acked, got, wait, held, ow⟩ s a x).1 :: L := by
  have hv : Sc L vb eB b := ⟨hv⟩
  have hcan : canP ⟨w, acked, got, wait, held, ow⟩ s a b := ⟨⟨h1, h2, h3, h4⟩, h5, h6⟩
  refine endo_ct fun A c bm hc => ?_
  refine CT_fact (fun w s => ((Sc.pf : Src _ eB vb b).sl s).form) ?_
  rintro ⟨A0, c0, rfl, hc0⟩
  refine CT_enter Try.func19 rfl ?_; (simp only [Try.ntmps19, List.size_toArray, List.length_cons, List.length_nil, Nat.reduceAdd, Nat.reduceSub, Array.replicate_succ, Array.replicate_zero, List.push_toArray, List.append_toArray, List.nil_append, List.cons_append])
  repeat' (first | refine go ?_ | intro _ | (apply cG; first | refine cT ?_ | refine cF ?_ | refine cS (fun _ => ?_) fun _ => ?_) | (apply gW; refine sW ?_) | (apply gI; refine sI ?_) | (apply gE; refine sE ?_) | (apply gP; refine sP ?_) | (apply gC; refine sC ?_) | (apply gD; refine sD ?_) | fail)
  rename_i bx
  refine C_draw (n := 99) [cel bx [.int .i64 s, .int .i64 a, .slice A0 b.length c0] 44, cel p [.int .i64 w, .slice A wait.length c, .int .i64 acked, .int .i64 got, .map (some bm), .bool ow] 85] [(0, 1), (1, 0), (2, 1), (3, 1), (4, 1), (5, 1), (6, 1), (7, 1), (8, 1), (9, 1), (10, 1), (11, 1), (12, 1), (13, 1), (14, 1), (15, 1), (16, 1), (17, 1), (18, 1), (19, 1), (20, 1), (21, 1), (22, 1), (23, 1), (24, 1), (25, 1), (26, 1), (27, 1)] (by kernel_rfl) (by kernel_rfl) Sb ?_
  repeat' (first | refine go ?_ | intro _ | (apply cG; first | refine cT ?_ | refine cF ?_ | refine cS (fun _ => ?_) fun _ => ?_) | (apply gW; refine sW ?_) | (apply gI; refine sI ?_) | (apply gE; refine sE ?_) | (apply gP; refine sP ?_) | (apply gC; refine sC ?_) | (apply gD; refine sD ?_) | fail)
  refine D_op rfl ?_; refine X_d (dy_call ArgsI.pf (by first | exact rfl | trivial | (intro a b; rfl)) (valid_ct (b := b) (q := true) Sc.pf (decide_eq_true ⟨h1, h2, h3, h4⟩))) ?_; rintro _ _ ⟨_, ⟨rfl, hLL⟩, rfl⟩; replace hLL := hLL.symm; subst hLL; refine ⟨(by first | exact .inl rfl | exact .inr Sb), D_n ?_⟩
  repeat' (first | refine go ?_ | intro _ | (apply cG; first | refine cT ?_ | refine cF ?_ | refine cS (fun _ => ?_) fun _ => ?_) | (apply gW; refine sW ?_) | (apply gI; refine sI ?_) | (apply gE; refine sE ?_) | (apply gP; refine sP ?_) | (apply gC; refine sC ?_) | (apply gD; refine sD ?_) | fail)
  repeat' (first | refine go ?_ | intro _ | (apply cG; first | refine cT ?_ | refine cF ?_ | refine cS (fun _ => ?_) fun _ => ?_) | (apply gW; refine sW ?_) | (apply gI; refine sI ?_) | (apply gE; refine sE ?_) | (apply gP; refine sP ?_) | (apply gC; refine sC ?_) | (apply gD; refine sD ?_) | fail)
  refine C_draw (n := 99) [cel bx [.int .i64 s, .int .i64 a, .slice A0 b.length c0] 44, cel p [.int .i64 w, .slice A wait.length c, .int .i64 acked, .int .i64 got, .map (some bm), .bool ow] 85] [(0, 1), (1, 1), (2, 1), (3, 1), (4, 1), (5, 1), (6, 1), (7, 1)] (by kernel_rfl) (by kernel_rfl) Sb ?_
  repeat' (first | ((fail_if_success apply AtE); refine go ?_) | intro _ | (apply cG; first | refine cT ?_ | refine cF ?_ | refine cS (fun _ => ?_) fun _ => ?_) | (apply gW; refine sW ?_) | (apply gI; refine sI ?_) | (apply gE; refine sE ?_) | (apply gP; refine sP ?_) | (apply gC; refine sC ?_) | (apply gD; refine sD ?_) | fail)
  have hsn : 0 ≤ s := h1
  obtain ⟨acked', hacked'⟩ : ∃ x, max acked a = x := ⟨_, rfl⟩
  obtain ⟨wait', hwait'⟩ : ∃ x, wait.drop (a - acked).toNat = x := ⟨_, rfl⟩
  have hwl : wait'.length = wait.length - (a - acked).toNat := by rw [← hwait', List.length_drop]
  have hcw : wait'.length ≤ c := by omega
  refine go ?_; refine C_join (κ := Unit) [false, false, false, false, false, false, false, false, false, false, false, false, false, false, false, false, false, false, false, false, false, false, false, false, false, false, false, false, false, false, false, false, false, false, false, false, false, false, false, false, false, false, false, false, false, false, true, true, true, true, true, true, true, true, true, true, true, true, true, true, true, true, false, false, false, false, false, false, false, false, false, false, false, false, false, false, false, false, false, false, false, false, false, false, false, false, false, false, false, false, false, false, false, false, false, false, false, false, false, false, false, false, false, false, false, false, false, false, false, false, false, false, false, false, false, false, false, false, false, false, false, false, false, false, false, false, false, false, false, false, false, false, false] (fun k => []) (fun k => [(1, cel p [.int .i64 w, .slice A wait'.length c, .int .i64 acked', .int .i64 got, .map (some bm), .bool ow] 85), (2, own 31 (eSl eB) (.slice A wait'.length c) wait')]) (fun k => True) ?_ ?_
  · by_cases hn : 0 < a - acked
    · obtain ⟨k, hk⟩ : ∃ k : Nat, a - acked = (k : Int) := ⟨(a - acked).toNat, by omega⟩
      have hkn : (a - acked).toNat = k := by omega
      rw [hkn] at hwait' hwl
      have hmax : max acked a = a := by omega
      rw [hmax] at hacked'
      subst hacked'
      rw [hk]
      repeat' (first | refine go ?_ | intro _ | (apply cG; first | refine cT ?_ | refine cF ?_ | refine cS (fun _ => ?_) fun _ => ?_) | (apply gW; refine sW ?_) | (apply gI; refine sI ?_) | (apply gE; refine sE ?_) | (apply gP; refine sP ?_) | (apply gC; refine sC ?_) | (apply gD; refine sD ?_) | fail)
      refine O_d (dy_call ArgsI.pf (by first | exact rfl | trivial | (intro a b; rfl)) (CT.pull (i := 2) (by rfl) (Delete_ct (l := wait) (k := k) (by omega) (by omega) (by omega)))) ?_; rintro _ _ ⟨_, ⟨rfl, rfl⟩, rfl⟩; refine O_n ?_
      rw [hwait', ← hwl]
      repeat' (first | refine go ?_ | intro _ | (apply cG; first | refine cT ?_ | refine cF ?_ | refine cS (fun _ => ?_) fun _ => ?_) | (apply gW; refine sW ?_) | (apply gI; refine sI ?_) | (apply gE; refine sE ?_) | (apply gP; refine sP ?_) | (apply gC; refine sC ?_) | (apply gD; refine sD ?_) | fail)
      exact E_join () trivial trivial
    · have hk0 : (a - acked).toNat = 0 := by omega
      have hmax : max acked a = acked := by omega
      rw [hk0, List.drop_zero] at hwait'
      rw [hmax] at hacked'
      subst hacked'
      subst hwait'
      repeat' (first | refine go ?_ | intro _ | (apply cG; first | refine cT ?_ | refine cF ?_ | refine cS (fun _ => ?_) fun _ => ?_) | (apply gW; refine sW ?_) | (apply gI; refine sI ?_) | (apply gE; refine sE ?_) | (apply gP; refine sP ?_) | (apply gC; refine sC ?_) | (apply gD; refine sD ?_) | fail)
      exact E_join () trivial trivial
  rintro ⟨⟩ u _
  ((try dsimp only); refine C_n ?_; (try simp only [Nat.reduceAdd, Nat.zero_add]))
  by_cases hs0 : s = 0
  · repeat' (first | refine go ?_ | intro _ | (apply cG; first | refine cT ?_ | refine cF ?_ | refine cS (fun _ => ?_) fun _ => ?_) | (apply gW; refine sW ?_) | (apply gI; refine sI ?_) | (apply gE; refine sE ?_) | (apply gP; refine sP ?_) | (apply gC; refine sC ?_) | (apply gD; refine sD ?_) | fail)
    refine E_ownnil 31 (eSl eB) ?_
    refine E_sub (S := own 31 (eSl eB) (.slice none 0 0) [] :: cel p [.int .i64 w, .slice A wait'.length c, .int .i64 acked', .int .i64 got, .map (some bm), .bool ow] 85 :: own 31 (eSl eB) (.slice A wait'.length c) wait' :: mapo mSB bm held :: L) Sb ?_
    refine E_sub (sub_skip endo_sub) ?_
    have hin : inP ⟨w, acked, got, wait, held, ow⟩ s a ⟨.slice none 0 0, b⟩ = (⟨w, acked', got, wait', held, ow⟩, []) := by
      rw [inP, if_pos hcan, if_pos hs0, ← hacked', ← hwait']
    exact E_res1 (by rfl) (by rfl) ⟨none, 0, ⟨.slice none 0 0, b⟩, rfl, by rw [hin], by rw [hin]⟩ Sb
  repeat' (first | ((fail_if_success apply AtE); refine go ?_) | intro _ | (apply cG; first | refine cT ?_ | refine cF ?_ | refine cS (fun _ => ?_) fun _ => ?_) | (apply gW; refine sW ?_) | (apply gI; refine sI ?_) | (apply gE; refine sE ?_) | (apply gP; refine sP ?_) | (apply gC; refine sC ?_) | (apply gD; refine sD ?_) | fail)
  refine go ?_
  repeat' (first | ((fail_if_success apply AtE); refine go ?_) | intro _ | (apply cG; first | refine cT ?_ | refine cF ?_ | refine cS (fun _ => ?_) fun _ => ?_) | (apply gW; refine sW ?_) | (apply gI; refine sI ?_) | (apply gE; refine sE ?_) | (apply gP; refine sP ?_) | (apply gC; refine sC ?_) | (apply gD; refine sD ?_) | fail)
  refine go ?_
  repeat' (first | ((fail_if_success apply AtE); refine go ?_) | intro _ | (apply cG; first | refine cT ?_ | refine cF ?_ | refine cS (fun _ => ?_) fun _ => ?_) | (apply gW; refine sW ?_) | (apply gI; refine sI ?_) | (apply gE; refine sE ?_) | (apply gP; refine sP ?_) | (apply gC; refine sC ?_) | (apply gD; refine sD ?_) | fail)
  have hH0 : ∀ x : SB, (if got < s ∧ posM s held 0 = none then held ++ [(s, x)] else held).length ≤ held.length + 1 := fun x => by
    split
    · simp
    · omega
  refine go ?_; refine go ?_; refine C_join (κ := SB) [false, false, false, false, false, false, true, true, false, false, false, false, false, false, false, false, false, false, false, false, false, false, false, false, false, false, false, false, false, false, false, false, false, false, false, false, false, false, false, false, false, false, false, false, false, false, false, false, false, false, false, false, false, false, false, false, false, false, false, false, false, false, false, false, false, false, false, false, true, true, true, true, true, true, true, true, true, true, true, true, true, true, true, true, true, true, true, true, true, true, true, true, true, true, true, true, true, true, false, false, false, false, false, false, false, false, false, false, false, false, false, false, false, false, false, false, false, false, false, false, false, false, false, false, false, false, false, false, false, false, false, false, false] (fun k => []) (fun k => [(3, mapo mSB bm (if got < s ∧ posM s held 0 = none then held ++ [(s, k)] else held))]) (fun k => k.b = b) ?_ ?_
  · cases hp : posM s held 0 with
    | some q =>
      repeat' (first | refine go ?_ | intro _ | (apply cG; first | refine cT ?_ | refine cF ?_ | refine cS (fun _ => ?_) fun _ => ?_) | (apply gW; refine sW ?_) | (apply gI; refine sI ?_) | (apply gE; refine sE ?_) | (apply gP; refine sP ?_) | (apply gC; refine sC ?_) | (apply gD; refine sD ?_) | fail)
      refine C_draw (n := 99) [mapo mSB bm held, cel bx [.int .i64 s, .int .i64 a, .slice A0 b.length c0] 44, cel p [.int .i64 w, .slice A wait'.length c, .int .i64 acked', .int .i64 got, .map (some bm), .bool true] 85] [(0, 1), (1, 1), (2, 1), (3, 1), (4, 1), (5, 1), (6, 1), (7, 1), (8, 1), (9, 1), (10, 1), (11, 1)] (by kernel_rfl) (by kernel_rfl) Sb ?_
      repeat' (first | refine go ?_ | intro _ | (apply cG; first | refine cT ?_ | refine cF ?_ | refine cS (fun _ => ?_) fun _ => ?_) | (apply gW; refine sW ?_) | (apply gI; refine sI ?_) | (apply gE; refine sE ?_) | (apply gP; refine sP ?_) | (apply gC; refine sC ?_) | (apply gD; refine sD ?_) | fail)
      refine D_op rfl ?_; refine X_s (sv_look1 (R := mSB) (by repeat (first | exact .head _ | refine .tail _ ?_)) Ev.pf Ev.pf hp) ?_
      repeat' (first | refine go ?_ | intro _ | (apply cG; first | refine cT ?_ | refine cF ?_ | refine cS (fun _ => ?_) fun _ => ?_) | (apply gW; refine sW ?_) | (apply gI; refine sI ?_) | (apply gE; refine sE ?_) | (apply gP; refine sP ?_) | (apply gC; refine sC ?_) | (apply gD; refine sD ?_) | fail)
      refine C_draw (n := 99) [cel bx [.int .i64 s, .int .i64 a, .slice A0 b.length c0] 44, cel p [.int .i64 w, .slice A wait'.length c, .int .i64 acked', .int .i64 got, .map (some bm), .bool true] 85] [(0, 1), (1, 1), (2, 1), (3, 1), (4, 1), (5, 1), (6, 1), (7, 1), (8, 1), (9, 1), (10, 1)] (by kernel_rfl) (by kernel_rfl) Sb ?_
      by_cases hgs : got < s
      · repeat' (first | refine go ?_ | intro _ | (apply cG; first | refine cT ?_ | refine cF ?_ | refine cS (fun _ => ?_) fun _ => ?_) | (apply gW; refine sW ?_) | (apply gI; refine sI ?_) | (apply gE; refine sE ?_) | (apply gP; refine sP ?_) | (apply gC; refine sC ?_) | (apply gD; refine sD ?_) | fail)
        exact E_join ⟨.slice none 0 0, b⟩ rfl trivial (by simp only [reduceCtorEq, and_false, if_false]; exact Sb)
      · repeat' (first | refine go ?_ | intro _ | (apply cG; first | refine cT ?_ | refine cF ?_ | refine cS (fun _ => ?_) fun _ => ?_) | (apply gW; refine sW ?_) | (apply gI; refine sI ?_) | (apply gE; refine sE ?_) | (apply gP; refine sP ?_) | (apply gC; refine sC ?_) | (apply gD; refine sD ?_) | fail)
        exact E_join ⟨.slice none 0 0, b⟩ rfl trivial (by simp only [reduceCtorEq, and_false, if_false]; exact Sb)
    | none =>
      repeat' (first | refine go ?_ | intro _ | (apply cG; first | refine cT ?_ | refine cF ?_ | refine cS (fun _ => ?_) fun _ => ?_) | (apply gW; refine sW ?_) | (apply gI; refine sI ?_) | (apply gE; refine sE ?_) | (apply gP; refine sP ?_) | (apply gC; refine sC ?_) | (apply gD; refine sD ?_) | fail)
      refine C_draw (n := 99) [mapo mSB bm held, cel bx [.int .i64 s, .int .i64 a, .slice A0 b.length c0] 44, cel p [.int .i64 w, .slice A wait'.length c, .int .i64 acked', .int .i64 got, .map (some bm), .bool true] 85] [(0, 1), (1, 1), (2, 1), (3, 1), (4, 1), (5, 1), (6, 1), (7, 1), (8, 1), (9, 1), (10, 1), (11, 1)] (by kernel_rfl) (by kernel_rfl) Sb ?_
      repeat' (first | refine go ?_ | intro _ | (apply cG; first | refine cT ?_ | refine cF ?_ | refine cS (fun _ => ?_) fun _ => ?_) | (apply gW; refine sW ?_) | (apply gI; refine sI ?_) | (apply gE; refine sE ?_) | (apply gP; refine sP ?_) | (apply gC; refine sC ?_) | (apply gD; refine sD ?_) | fail)
      refine D_op rfl ?_; refine X_s (sv_look0 (R := mSB) (by repeat (first | exact .head _ | refine .tail _ ?_)) Ev.pf Ev.pf hp) ?_
      repeat' (first | refine go ?_ | intro _ | (apply cG; first | refine cT ?_ | refine cF ?_ | refine cS (fun _ => ?_) fun _ => ?_) | (apply gW; refine sW ?_) | (apply gI; refine sI ?_) | (apply gE; refine sE ?_) | (apply gP; refine sP ?_) | (apply gC; refine sC ?_) | (apply gD; refine sD ?_) | fail)
      refine C_draw (n := 99) [cel bx [.int .i64 s, .int .i64 a, .slice A0 b.length c0] 44, cel p [.int .i64 w, .slice A wait'.length c, .int .i64 acked', .int .i64 got, .map (some bm), .bool true] 85] [(0, 1), (1, 1), (2, 1), (3, 1), (4, 1), (5, 1), (6, 1), (7, 1), (8, 1), (9, 1), (10, 1)] (by kernel_rfl) (by kernel_rfl) Sb ?_
      by_cases hgs : got < s
      · repeat' (first | refine go ?_ | intro _ | (apply cG; first | refine cT ?_ | refine cF ?_ | refine cS (fun _ => ?_) fun _ => ?_) | (apply gW; refine sW ?_) | (apply gI; refine sI ?_) | (apply gE; refine sE ?_) | (apply gP; refine sP ?_) | (apply gC; refine sC ?_) | (apply gD; refine sD ?_) | fail)
        refine C_draw (n := 99) [cel bx [.int .i64 s, .int .i64 a, .slice A0 b.length c0] 44, cel p [.int .i64 w, .slice A wait'.length c, .int .i64 acked', .int .i64 got, .map (some bm), .bool true] 85] [(0, 1), (1, 1), (2, 1), (3, 1), (4, 1), (5, 1), (6, 1), (7, 1), (8, 0), (9, 0)] (by kernel_rfl) (by kernel_rfl) Sb ?_
        repeat' (first | refine go ?_ | intro _ | (apply cG; first | refine cT ?_ | refine cF ?_ | refine cS (fun _ => ?_) fun _ => ?_) | (apply gW; refine sW ?_) | (apply gI; refine sI ?_) | (apply gE; refine sE ?_) | (apply gP; refine sP ?_) | (apply gC; refine sC ?_) | (apply gD; refine sD ?_) | fail)
        refine D_op rfl ?_; refine X_d (dy_call ArgsI.pf (by first | exact rfl | trivial | (intro a b; rfl)) (Clone_ct (l := b) Sc.pf (by omega))) ?_; rintro _ _ ⟨_, ⟨A8, c8, rfl, rfl⟩, rfl⟩; refine ⟨(by first | exact .inl rfl | exact .inr Sb), D_n ?_⟩
        refine D_fr0 0 rfl SAt.pf ?_
        repeat' (first | refine go ?_ | intro _ | (apply cG; first | refine cT ?_ | refine cF ?_ | refine cS (fun _ => ?_) fun _ => ?_) | (apply gW; refine sW ?_) | (apply gI; refine sI ?_) | (apply gE; refine sE ?_) | (apply gP; refine sP ?_) | (apply gC; refine sC ?_) | (apply gD; refine sD ?_) | fail)
        refine D_op rfl ?_; refine X_d (dy_put (R := mSB) (i := 4) ⟨.slice A8 b.length c8, b⟩ rfl Ev.pf Ev.pf Ev.pf EAt.pf (fun m h hs => rd_mem hs (by repeat (first | exact .head _ | refine .tail _ ?_)))) ?_; rintro _ _ ⟨rfl, hLL⟩; replace hLL := hLL.trans SAt.pf; subst hLL; refine ⟨(by first | exact .inl rfl | exact .inr Sb), D_n ?_⟩
        repeat' (first | refine go ?_ | intro _ | (apply cG; first | refine cT ?_ | refine cF ?_ | refine cS (fun _ => ?_) fun _ => ?_) | (apply gW; refine sW ?_) | (apply gI; refine sI ?_) | (apply gE; refine sE ?_) | (apply gP; refine sP ?_) | (apply gC; refine sC ?_) | (apply gD; refine sD ?_) | fail)
        rw [putM_new (by unfold getM; rw [hp]; rfl)]
        exact E_join ⟨.slice A8 b.length c8, b⟩ rfl trivial (by rw [if_pos ⟨hgs, rfl⟩]; exact Sb)
      · repeat' (first | refine go ?_ | intro _ | (apply cG; first | refine cT ?_ | refine cF ?_ | refine cS (fun _ => ?_) fun _ => ?_) | (apply gW; refine sW ?_) | (apply gI; refine sI ?_) | (apply gE; refine sE ?_) | (apply gP; refine sP ?_) | (apply gC; refine sC ?_) | (apply gD; refine sD ?_) | fail)
        exact E_join ⟨.slice none 0 0, b⟩ rfl trivial (by rw [if_neg (fun h => hgs h.1)]; exact Sb)
  rintro x u2 hx
  ((try dsimp only); refine C_n ?_; (try simp only [Nat.reduceAdd, Nat.zero_add]))
  obtain ⟨H, hH⟩ : ∃ H, (if got < s ∧ posM s held 0 = none then held ++ [(s, x)] else held) = H := ⟨_, rfl⟩
  have hHl := hH0 x
  rw [hH] at hHl ⊢
  obtain ⟨gF, hF, oF, hdr⟩ : ∃ gF hF oF, drain H.length got H = (gF, hF, oF) := ⟨_, _, _, rfl⟩
  have hin : inP ⟨w, acked, got, wait, held, ow⟩ s a x = (⟨w, acked', gF, wait', hF, true⟩, oF) := by
    rw [inP, if_pos (by rw [hx]; exact hcan), if_neg hs0]
    simp only [heldP, hH, hdr, hacked', hwait']
  repeat' (first | refine go ?_ | intro _ | (apply cG; first | refine cT ?_ | refine cF ?_ | refine cS (fun _ => ?_) fun _ => ?_) | (apply gW; refine sW ?_) | (apply gI; refine sI ?_) | (apply gE; refine sE ?_) | (apply gP; refine sP ?_) | (apply gC; refine sC ?_) | (apply gD; refine sD ?_) | fail)
  refine C_ownnil 31 (eSl eB) ?_
  refine C_loopS (κ := Int × List (Int × SB) × Value × List (List UInt8)) [false, false, false, false, true, false, false, false, true, true, true, false, false, false, false, false, false, false, false, false, false, false, false, false, false, false, false, false, false, false, false, false, false, false, false, false, false, false, false, false, false, false, false, false, false, false, false, false, false, false, false, false, false, false, false, false, false, false, false, false, false, false, false, false, false, false, false, false, false, false, false, false, false, false, false, false, false, false, false, false, false, false, false, false, false, false, false, false, false, false, false, false, false, false, false, false, false, false, true, true, true, true, true, true, true, true, true, true, true, true, true, true, true, true, true, true, true, true, true, true, true, true, true, true, true, true, true, true, true, true, true, true, true] (fun k => [(8, k.2.2.1)]) (fun k => [(0, own 31 (eSl eB) k.2.2.1 k.2.2.2), (2, cel p [.int .i64 w, .slice A wait'.length c, .int .i64 acked', .int .i64 k.1, .map (some bm), .bool true] 85), (4, mapo mSB bm k.2.1)]) (fun k => (∃ A c, k.2.2.1 = .slice A k.2.2.2.length c) ∧ (drain k.2.1.length k.1 k.2.1).1 = gF ∧ (drain k.2.1.length k.1 k.2.1).2.1 = hF ∧ k.2.2.2 ++ (drain k.2.1.length k.1 k.2.1).2.2 = oF ∧ k.1 + k.2.1.length = got + H.length ∧ got ≤ k.1 ∧ k.2.2.2.length + k.2.1.length = H.length) (fun k => k.2.1.length) (got, H, .slice none 0 0, []) ⟨⟨none, 0, rfl⟩, by rw [hdr], by rw [hdr], by rw [hdr]; rfl, rfl, Int.le_refl _, by simp⟩ ⟨rfl, trivial⟩ ?_
  rintro ⟨g, h, v, out⟩ u3 ⟨⟨A5, c5, hv5⟩, hd1, hd2, hd3, hgs, hgg, hol⟩
  dsimp only at hv5 hd1 hd2 hd3 hgs hgg hol
  subst hv5
  ((try dsimp only); refine C_n ?_; (try simp only [Nat.reduceAdd, Nat.zero_add]))
  repeat' (first | refine go ?_ | intro _ | (apply cG; first | refine cT ?_ | refine cF ?_ | refine cS (fun _ => ?_) fun _ => ?_) | (apply gW; refine sW ?_) | (apply gI; refine sI ?_) | (apply gE; refine sE ?_) | (apply gP; refine sP ?_) | (apply gC; refine sC ?_) | (apply gD; refine sD ?_) | fail)
  cases hp : posM (g + 1) h 0 with
  | none =>
    rw [drain_none hp] at hd1 hd2 hd3
    dsimp only at hd1 hd2 hd3
    rw [List.append_nil] at hd3
    subst hd1 hd2 hd3
    refine C_draw (n := 99) [mapo mSB bm h, cel bx [.int .i64 s, .int .i64 a, .slice A0 b.length c0] 44, cel p [.int .i64 w, .slice A wait'.length c, .int .i64 acked', .int .i64 g, .map (some bm), .bool true] 85] [(0, 1), (1, 1), (2, 1), (3, 1), (4, 1), (5, 1), (6, 1), (7, 1), (8, 1), (9, 1), (10, 1), (11, 1), (12, 1), (13, 1), (14, 1)] (by kernel_rfl) (by kernel_rfl) Sb ?_
    repeat' (first | refine go ?_ | intro _ | (apply cG; first | refine cT ?_ | refine cF ?_ | refine cS (fun _ => ?_) fun _ => ?_) | (apply gW; refine sW ?_) | (apply gI; refine sI ?_) | (apply gE; refine sE ?_) | (apply gP; refine sP ?_) | (apply gC; refine sC ?_) | (apply gD; refine sD ?_) | fail)
    refine D_op rfl ?_; refine X_s (sv_look0 (R := mSB) (by repeat (first | exact .head _ | refine .tail _ ?_)) Ev.pf Ev.pf hp) ?_
    repeat' (first | refine go ?_ | intro _ | (apply cG; first | refine cT ?_ | refine cF ?_ | refine cS (fun _ => ?_) fun _ => ?_) | (apply gW; refine sW ?_) | (apply gI; refine sI ?_) | (apply gE; refine sE ?_) | (apply gP; refine sP ?_) | (apply gC; refine sC ?_) | (apply gD; refine sD ?_) | fail)
    refine E_sub (S := own 31 (eSl eB) (.slice A5 out.length c5) out :: cel p [.int .i64 w, .slice A wait'.length c, .int .i64 acked', .int .i64 g, .map (some bm), .bool true] 85 :: own 31 (eSl eB) (.slice A wait'.length c) wait' :: mapo mSB bm h :: L) Sb ?_
    refine E_sub (sub_skip endo_sub) ?_
    exact E_res1 (by rfl) (by rfl) ⟨A5, c5, x, hx, by rw [hin], by rw [hin]⟩ Sb
  | some q =>
    have hdl := delM_len hp
    obtain ⟨n, hn⟩ : ∃ n, h.length = n + 1 := ⟨h.length - 1, by omega⟩
    have hdn : (delM (g + 1) h).length = n := by omega
    rw [hn, drain_some hp, ← hdn] at hd1 hd2 hd3
    dsimp only at hd1 hd2 hd3
    rw [← List.singleton_append, ← List.append_assoc] at hd3
    refine C_sub (sub_held (b := bm) (by repeat (first | exact .head _ | refine .tail _ ?_)) hp) ?_
    refine C_fact (fun w s => (Src.sl (.inl (.head _)) s : Sl _ eB q.2.v q.2.b).form) ?_
    rintro ⟨Aq, cq, hform, hcq⟩
    refine C_draw (n := 99) [mapo mSB bm h, cel bx [.int .i64 s, .int .i64 a, .slice A0 b.length c0] 44, cel p [.int .i64 w, .slice A wait'.length c, .int .i64 acked', .int .i64 g, .map (some bm), .bool true] 85] [(0, 1), (1, 1), (2, 1), (3, 1), (4, 1), (5, 1), (6, 1), (7, 1), (8, 1), (9, 1), (10, 1), (11, 1), (12, 1), (13, 1), (14, 1)] (by kernel_rfl) (by kernel_rfl) Sb ?_
    repeat' (first | refine go ?_ | intro _ | (apply cG; first | refine cT ?_ | refine cF ?_ | refine cS (fun _ => ?_) fun _ => ?_) | (apply gW; refine sW ?_) | (apply gI; refine sI ?_) | (apply gE; refine sE ?_) | (apply gP; refine sP ?_) | (apply gC; refine sC ?_) | (apply gD; refine sD ?_) | fail)
    refine D_op rfl ?_; refine X_s (sv_look1 (R := mSB) (by repeat (first | exact .head _ | refine .tail _ ?_)) Ev.pf Ev.pf hp) ?_
    repeat' (first | refine go ?_ | intro _ | (apply cG; first | refine cT ?_ | refine cF ?_ | refine cS (fun _ => ?_) fun _ => ?_) | (apply gW; refine sW ?_) | (apply gI; refine sI ?_) | (apply gE; refine sE ?_) | (apply gP; refine sP ?_) | (apply gC; refine sC ?_) | (apply gD; refine sD ?_) | fail)
    refine C_draw (n := 99) [cel bx [.int .i64 s, .int .i64 a, .slice A0 b.length c0] 44, cel p [.int .i64 w, .slice A wait'.length c, .int .i64 acked', .int .i64 (g + 1), .map (some bm), .bool true] 85] [(0, 1), (1, 1), (2, 1), (3, 1), (4, 1), (5, 1), (6, 1), (7, 1), (8, 0)] (by kernel_rfl) (by kernel_rfl) Sb ?_
    repeat' (first | refine go ?_ | intro _ | (apply cG; first | refine cT ?_ | refine cF ?_ | refine cS (fun _ => ?_) fun _ => ?_) | (apply gW; refine sW ?_) | (apply gI; refine sI ?_) | (apply gE; refine sE ?_) | (apply gP; refine sP ?_) | (apply gC; refine sC ?_) | (apply gD; refine sD ?_) | fail)
    refine D_op rfl ?_; refine X_d (dy_del (R := mSB) (i := 5) (k := g + 1) rfl Ev.pf Ev.pf) ?_; rintro _ _ ⟨rfl, hLL⟩; replace hLL := hLL.trans SAt.pf; subst hLL; refine ⟨(by first | exact .inl rfl | exact .inr Sb), D_n ?_⟩
    repeat' (first | refine go ?_ | intro _ | (apply cG; first | refine cT ?_ | refine cF ?_ | refine cS (fun _ => ?_) fun _ => ?_) | (apply gW; refine sW ?_) | (apply gI; refine sI ?_) | (apply gE; refine sE ?_) | (apply gP; refine sP ?_) | (apply gC; refine sC ?_) | (apply gD; refine sD ?_) | fail)
    refine O_d (dy_litS (R := eSl eB) [q.2.b] [q.2.v] (by rfl) (fun m h hs => ⟨⟨_, rfl, rd_mem hs (by repeat (first | exact .head _ | refine .tail _ ?_))⟩, trivial⟩) (fun v hv => by
      simp only [List.mem_cons, List.not_mem_nil, or_false] at hv
      subst hv
      rw [hform]; rfl)) ?_; rintro _ _ ⟨_, rfl, rfl⟩; refine O_n ?_
    refine O_d dy_append ?_; rintro _ _ ⟨A9, c9, rfl, rfl⟩; refine O_n ?_
    repeat' (first | refine go ?_ | intro _ | (apply cG; first | refine cT ?_ | refine cF ?_ | refine cS (fun _ => ?_) fun _ => ?_) | (apply gW; refine sW ?_) | (apply gI; refine sI ?_) | (apply gE; refine sE ?_) | (apply gP; refine sP ?_) | (apply gC; refine sC ?_) | (apply gD; refine sD ?_) | fail)
    refine E_round (g + 1, delM (g + 1) h, .slice A9 (out.length + 1) c9, out ++ [q.2.b]) ⟨⟨A9, c9, by rw [List.length_append]; rfl⟩, hd1, hd2, hd3, by show (g + 1 : Int) + (delM (g + 1) h).length = _; omega, by show got ≤ g + 1; omega, by show (out ++ [q.2.b]).length + (delM (g + 1) h).length = _; rw [List.length_append]; simp only [List.length_cons, List.length_nil]; omega⟩ (by show (delM (g + 1) h).length < h.length; omega) ⟨rfl, trivial⟩ Sb
end
end Go.Proofs.Ythbgmnoaaohbcaa
namespace Go.Proofs.Ythbgmnoaaohbcaa
open Go Go.RowKit
set_option linter.unusedVariables false
set_option linter.unusedSimpArgs false
set_option maxRecDepth 20000
set_option synthInstance.maxSize 100000
set_option synthInstance.maxHeartbeats 400000
/-- no number near the end of int -/
structure PE.good (e : PE) : Prop where
  a1 : 0 ≤ e.acked
  a2 : e.acked ≤ 1000000000000
  g1 : 0 ≤ e.got
  g2 : e.got ≤ 1000000000000
  w : e.wait.length ≤ 1000
  h : e.held.length ≤ 1000000
section
variable {W0 : World} {L : List HP}
theorem In_ct {p : Nat} {e : PE} {vb : Value} {b : List UInt8} {s a : Int} (hv : Src L eB vb b) (he : e.good) (hb : b.length ≤ 1000000000) :
    CT Try.prog 19 #[.pointer (some ⟨p, 0, none⟩), .agg #[.int .i64 s, .int .i64 a, vb]] W0 (ende p e :: L) fun r L' => ∃ A c x, x.b = b ∧ r = .slice A (inP e s a x).2.length c ∧ L' = own 31 (eSl eB) (.slice A (inP e s a x).2.length c) (inP e s a x).2 :: ende p (inP e s a x).1 :: L := by
  by_cases hc : canP e s a b
  · obtain ⟨⟨h1, h2, h3, h4⟩, h5, h6⟩ := hc
    exact In_yes hv h1 h2 h3 h4 h5 h6 he.a1 he.a2 he.g1 he.g2 he.w he.h
  · refine ⟨fun w st => Calls.mono ((In_no hv hc he.a1 he.a2 he.g1 he.g2 he.w hb).run w st) ?_⟩
    rintro q w' ⟨v, L', h1, ⟨rfl, rfl⟩, hs⟩
    have hin : inP e s a ⟨.slice none 0 0, b⟩ = (e, []) := by rw [inP, if_neg hc]
    exact ⟨_, _, h1, ⟨none, 0, ⟨.slice none 0 0, b⟩, rfl, by rw [hin]; rfl, rfl⟩, by rw [hin]; exact hs.own_nil _ _⟩
theorem Out_e {p : Nat} {e e' : PE} (he : e.good) (h1 : 1 ≤ e.w) (h2 : e.w ≤ 16) (hb : ∀ x ∈ e.wait, x.length ≤ 65536) (h : { e with ow := false } = e') :
    CT Try.prog 15 #[.pointer (some ⟨p, 0, none⟩)] W0 (ende p e :: L) fun r L' => ∃ A c l, l.map PK.p = outP e.w e.acked e.got e.wait e.ow ∧ r = .slice A l.length c ∧ L' = own 44 ePK (.slice A l.length c) l :: ende p e' :: L :=
  h ▸ Out_ct h1 h2 he.w hb he.a1 he.a2 he.g1 he.g2
theorem Send_e {p : Nat} {e e' : PE} {v : Value} {b : List UInt8} (hv : Src L eB v b) (hb : b.length ≤ 65536) (hw : e.wait.length < 1000) (h : { e with wait := e.wait ++ [b] } = e') :
    CT Try.prog 13 #[.pointer (some ⟨p, 0, none⟩), v] W0 (ende p e :: L) fun r L' => r = .int .i64 0 ∧ L' = ende p e' :: L :=
  h ▸ Send_ct hv hb hw
theorem Waiting_e {p : Nat} {e : PE} : CT Try.prog 22 #[.pointer (some ⟨p, 0, none⟩)] W0 (ende p e :: L) fun r L' => r = .int .i64 (e.wait.length : Int) ∧ L' = ende p e :: L :=
  Waiting_ct
theorem New_e {w : Int} (h1 : 1 ≤ w) (h2 : w ≤ 16) : CT Try.prog 25 #[.int .i64 w] W0 L fun r L' => ∃ p, r = .tuple #[.pointer (some ⟨p, 0, none⟩), .int .i64 0] ∧ L' = ende p ⟨w, 0, 0, [], [], false⟩ :: L := New_ct h1 h2
theorem sub_peekP {T : TypeId} {v : Value} {l : List PK} {j : Nat} {x : PK} (hm : own T ePK v l ∈ L) (hx : l[j]? = some x) : Sub L (rd eB x.v x.b :: L) := fun m h s => by
  obtain ⟨a, _, css, ha, _⟩ := s.mem hm
  obtain ⟨cs, _, hc⟩ := ha.get hx
  exact ⟨Hp.none, h, Hp.none_dj _, Hp.none_le _, Hp.le_refl _, hc.2, s⟩
theorem sub_peekP' {v : Value} {l : List PK} {j : Nat} {x : PK} (hm : rd ePK v l ∈ L) (hx : l[j]? = some x) : Sub L (rd eB x.v x.b :: L) := fun m h s => by
  obtain ⟨a, _, A, cap, css, _, _, ha, _⟩ := s.mem hm
  obtain ⟨cs, _, hc⟩ := ha.get hx
  exact ⟨Hp.none, h, Hp.none_dj _, Hp.none_le _, Hp.le_refl _, hc.2, s⟩
theorem lives_ct : CT Try.prog 23 #[] W0 L fun r L' => r = .bool true ∧ L' = L := by
  refine CT_enter Try.func23 rfl ?_; (simp only [Try.ntmps23, List.size_toArray, List.length_cons, List.length_nil, Nat.reduceAdd, Nat.reduceSub, Array.replicate_succ, Array.replicate_zero, List.push_toArray, List.append_toArray, List.nil_append, List.cons_append])
  repeat' (first | refine go ?_ | intro _ | (apply cG; first | refine cT ?_ | refine cF ?_ | refine cS (fun _ => ?_) fun _ => ?_) | (apply gW; refine sW ?_) | (apply gI; refine sI ?_) | (apply gE; refine sE ?_) | (apply gP; refine sP ?_) | (apply gC; refine sC ?_) | (apply gD; refine sD ?_) | fail)
  refine O_d (dy_call ArgsI.pf (by first | exact rfl | trivial | (intro a b; rfl)) (New_e (w := 2) (by decide) (by decide))) ?_; rintro _ _ ⟨_, ⟨pa, rfl, rfl⟩, rfl⟩; refine O_n ?_
  repeat' (first | refine go ?_ | intro _ | (apply cG; first | refine cT ?_ | refine cF ?_ | refine cS (fun _ => ?_) fun _ => ?_) | (apply gW; refine sW ?_) | (apply gI; refine sI ?_) | (apply gE; refine sE ?_) | (apply gP; refine sP ?_) | (apply gC; refine sC ?_) | (apply gD; refine sD ?_) | fail)
  refine O_d (dy_call ArgsI.pf (by first | exact rfl | trivial | (intro a b; rfl)) (New_e (w := 2) (by decide) (by decide))) ?_; rintro _ _ ⟨_, ⟨pb, rfl, rfl⟩, rfl⟩; refine O_n ?_
  repeat' (first | refine go ?_ | intro _ | (apply cG; first | refine cT ?_ | refine cF ?_ | refine cS (fun _ => ?_) fun _ => ?_) | (apply gW; refine sW ?_) | (apply gI; refine sI ?_) | (apply gE; refine sE ?_) | (apply gP; refine sP ?_) | (apply gC; refine sC ?_) | (apply gD; refine sD ?_) | fail)
  refine O_d (dy_litP (f := bv) (hf := fun _ => rfl) [97] (by rfl)) ?_; rintro _ _ ⟨_, rfl, rfl⟩; refine O_n ?_
  refine O_d (dy_mark 0 (l := [97]) Ev.pf rfl (by simp)) ?_; rintro _ _ ⟨rfl, rfl⟩; refine O_n ?_
  refine O_d (dy_call ArgsI.pf (by first | exact rfl | trivial | (intro a b; rfl)) (CT.pull (i := 2) (by rfl) (Send_e (b := [97]) (e' := ⟨2, 0, 0, [[97]], [], false⟩) Sc.pf (by decide) (by decide) rfl))) ?_; rintro _ _ ⟨_, ⟨rfl, rfl⟩, rfl⟩; refine O_n ?_
  repeat' (first | refine go ?_ | intro _ | (apply cG; first | refine cT ?_ | refine cF ?_ | refine cS (fun _ => ?_) fun _ => ?_) | (apply gW; refine sW ?_) | (apply gI; refine sI ?_) | (apply gE; refine sE ?_) | (apply gP; refine sP ?_) | (apply gC; refine sC ?_) | (apply gD; refine sD ?_) | fail)
  refine O_d (dy_litP (f := bv) (hf := fun _ => rfl) [98] (by rfl)) ?_; rintro _ _ ⟨_, rfl, rfl⟩; refine O_n ?_
  refine O_d (dy_mark 0 (l := [98]) Ev.pf rfl (by simp)) ?_; rintro _ _ ⟨rfl, rfl⟩; refine O_n ?_
  refine O_d (dy_call ArgsI.pf (by first | exact rfl | trivial | (intro a b; rfl)) (CT.pull (i := 1) (by rfl) (Send_e (b := [98]) (e' := ⟨2, 0, 0, [[97], [98]], [], false⟩) Sc.pf (by decide) (by decide) rfl))) ?_; rintro _ _ ⟨_, ⟨rfl, rfl⟩, rfl⟩; refine O_n ?_
  repeat' (first | refine go ?_ | intro _ | (apply cG; first | refine cT ?_ | refine cF ?_ | refine cS (fun _ => ?_) fun _ => ?_) | (apply gW; refine sW ?_) | (apply gI; refine sI ?_) | (apply gE; refine sE ?_) | (apply gP; refine sP ?_) | (apply gC; refine sC ?_) | (apply gD; refine sD ?_) | fail)
  refine O_d (dy_litP (f := bv) (hf := fun _ => rfl) [99] (by rfl)) ?_; rintro _ _ ⟨_, rfl, rfl⟩; refine O_n ?_
  refine O_d (dy_mark 0 (l := [99]) Ev.pf rfl (by simp)) ?_; rintro _ _ ⟨rfl, rfl⟩; refine O_n ?_
  refine O_d (dy_call ArgsI.pf (by first | exact rfl | trivial | (intro a b; rfl)) (CT.pull (i := 1) (by rfl) (Send_e (b := [99]) (e' := ⟨2, 0, 0, [[97], [98], [99]], [], false⟩) Sc.pf (by decide) (by decide) rfl))) ?_; rintro _ _ ⟨_, ⟨rfl, rfl⟩, rfl⟩; refine O_n ?_
  repeat' (first | refine go ?_ | intro _ | (apply cG; first | refine cT ?_ | refine cF ?_ | refine cS (fun _ => ?_) fun _ => ?_) | (apply gW; refine sW ?_) | (apply gI; refine sI ?_) | (apply gE; refine sE ?_) | (apply gP; refine sP ?_) | (apply gC; refine sC ?_) | (apply gD; refine sD ?_) | fail)
  refine O_d (dy_call ArgsI.pf (by first | exact rfl | trivial | (intro a b; rfl)) (CT.pull (i := 0) (by rfl) (Out_e (e' := ⟨2, 0, 0, [[97], [98], [99]], [], false⟩) ⟨by decide, by decide, by decide, by decide, by decide, by decide⟩ (by decide) (by decide) (by decide) rfl))) ?_; rintro _ _ ⟨_, ⟨A1, c1, l1, hl1, rfl, rfl⟩, rfl⟩; refine O_n ?_
  obtain ⟨x1, x2, rfl⟩ : ∃ x1 x2, l1 = [x1, x2] := by
    have := congrArg List.length hl1
    rw [List.length_map] at this
    match l1, this with
    | [x1, x2], _ => exact ⟨x1, x2, rfl⟩
  have ho : outP 2 0 0 [[97], [98], [99]] false = [(1, 0, [97]), (2, 0, [98])] := by decide
  replace hl1 := hl1.trans ho
  simp only [List.map_cons, List.map_nil, PK.p, List.cons.injEq, Prod.mk.injEq, and_true] at hl1
  obtain ⟨⟨e1, e2, e3⟩, e4, e5, e6⟩ := hl1
  have hl2 : [x1, x2].length = 2 := rfl
  have hat0 : At [x1, x2] 0 x1 := ⟨rfl⟩
  have hat1 : At [x1, x2] 1 x2 := ⟨rfl⟩
  repeat' (first | refine go ?_ | intro _ | (apply cG; first | refine cT ?_ | refine cF ?_ | refine cS (fun _ => ?_) fun _ => ?_) | (apply gW; refine sW ?_) | (apply gI; refine sI ?_) | (apply gE; refine sE ?_) | (apply gP; refine sP ?_) | (apply gC; refine sC ?_) | (apply gD; refine sD ?_) | fail)
  refine O_sub (sub_peekP (j := 1) (x := x2) (by repeat (first | exact .head _ | refine .tail _ ?_)) rfl) ?_
  refine O_sub (sub_peekP (j := 0) (x := x1) (by repeat (first | exact .head _ | refine .tail _ ?_)) rfl) ?_
  have g0 : PE.good ⟨2, 0, 0, [], [], false⟩ := ⟨by decide, by decide, by decide, by decide, by decide, by decide⟩
  refine O_d (dy_call ArgsI.pf (by first | exact rfl | trivial | (intro a b; rfl)) (CT.pull (i := 7) (by rfl) (In_ct (b := x2.b) Sc.pf g0 (by rw [e6]; decide)))) ?_; rintro _ _ ⟨_, ⟨A2, c2, y2, hy2, rfl, rfl⟩, rfl⟩; refine O_n ?_
  have hin1 : inP ⟨2, 0, 0, [], [], false⟩ x2.s x2.a y2 = (⟨2, 0, 0, [], [(2, y2)], true⟩, []) := by
    rw [e4, e5]
    have : y2.b.length = 1 := by rw [hy2, e6]; rfl
    simp [inP, canP, heldP, drain, posM, this]
  rw [hin1]
  dsimp only
  repeat' (first | refine go ?_ | intro _ | (apply cG; first | refine cT ?_ | refine cF ?_ | refine cS (fun _ => ?_) fun _ => ?_) | (apply gW; refine sW ?_) | (apply gI; refine sI ?_) | (apply gE; refine sE ?_) | (apply gP; refine sP ?_) | (apply gC; refine sC ?_) | (apply gD; refine sD ?_) | fail)
  have g1 : PE.good ⟨2, 0, 0, [], [(2, y2)], true⟩ := ⟨Int.le_refl _, by show (0 : Int) ≤ 1000000000000; decide, Int.le_refl _, by show (0 : Int) ≤ 1000000000000; decide, Nat.zero_le _, by show 1 ≤ 1000000; decide⟩
  refine O_d (dy_call ArgsI.pf (by first | exact rfl | trivial | (intro a b; rfl)) (CT.pull (i := 1) (by rfl) (In_ct (b := x1.b) Sc.pf g1 (by rw [e3]; decide)))) ?_; rintro _ _ ⟨_, ⟨A3, c3, y1, hy1, rfl, rfl⟩, rfl⟩; refine O_n ?_
  have hin2 : inP ⟨2, 0, 0, [], [(2, y2)], true⟩ x1.s x1.a y1 = (⟨2, 0, 2, [], [], true⟩, [[97], [98]]) := by
    rw [e1, e2]
    have h1 : y1.b = [97] := by rw [hy1, e3]
    have h2 : y2.b = [98] := by rw [hy2, e6]
    simp [inP, canP, heldP, drain, posM, delM, h1, h2]
  rw [hin2]
  dsimp only
  repeat' (first | refine go ?_ | intro _ | (apply cG; first | refine cT ?_ | refine cF ?_ | refine cS (fun _ => ?_) fun _ => ?_) | (apply gW; refine sW ?_) | (apply gI; refine sI ?_) | (apply gE; refine sE ?_) | (apply gP; refine sP ?_) | (apply gC; refine sC ?_) | (apply gD; refine sD ?_) | fail)
  refine O_d (dy_call ArgsI.pf (by first | exact rfl | trivial | (intro a b; rfl)) (CT.pull (i := 1) (by rfl) (Out_e (e' := ⟨2, 0, 2, [], [], false⟩) ⟨by decide, by decide, by decide, by decide, by decide, by decide⟩ (by decide) (by decide) (by decide) rfl))) ?_; rintro _ _ ⟨_, ⟨A4, c4, l2, hl2', rfl, rfl⟩, rfl⟩; refine O_n ?_
  obtain ⟨x3, rfl⟩ : ∃ x3, l2 = [x3] := by
    have := congrArg List.length hl2'
    rw [List.length_map] at this
    match l2, this with
    | [x3], _ => exact ⟨x3, rfl⟩
  have ho2 : outP 2 0 2 [] true = [(0, 2, [])] := by decide
  replace hl2' := hl2'.trans ho2
  simp only [List.map_cons, List.map_nil, PK.p, List.cons.injEq, Prod.mk.injEq, and_true] at hl2'
  obtain ⟨f1, f2, f3⟩ := hl2'
  have hl3 : [x3].length = 1 := rfl
  have hat2 : At [x3] 0 x3 := ⟨rfl⟩
  have hl4 : ([[97], [98]] : List (List UInt8)).length = 2 := rfl
  have hl5 : ([] : List (List UInt8)).length = 0 := rfl
  have hat3 : At ([[97], [98]] : List (List UInt8)) 1 [98] := ⟨rfl⟩
  repeat' (first | refine go ?_ | intro _ | (apply cG; first | refine cT ?_ | refine cF ?_ | refine cS (fun _ => ?_) fun _ => ?_) | (apply gW; refine sW ?_) | (apply gI; refine sI ?_) | (apply gE; refine sE ?_) | (apply gP; refine sP ?_) | (apply gC; refine sC ?_) | (apply gD; refine sD ?_) | fail)
  refine O_s (sv_nes (c := false) (h := by rw [beq_self_eq_true]; rfl)) ?_
  repeat' (first | refine go ?_ | intro _ | (apply cG; first | refine cT ?_ | refine cF ?_ | refine cS (fun _ => ?_) fun _ => ?_) | (apply gW; refine sW ?_) | (apply gI; refine sI ?_) | (apply gE; refine sE ?_) | (apply gP; refine sP ?_) | (apply gC; refine sC ?_) | (apply gD; refine sD ?_) | fail)
  refine O_sub (sub_peekP (l := [x3]) (j := 0) (x := x3) (by repeat (first | exact .head _ | refine .tail _ ?_)) rfl) ?_
  have g2 : PE.good ⟨2, 0, 0, [[97], [98], [99]], [], false⟩ := ⟨by decide, by decide, by decide, by decide, by decide, by decide⟩
  refine O_d (dy_call ArgsI.pf (by first | exact rfl | trivial | (intro a b; rfl)) (CT.pull (i := 9) (by rfl) (In_ct (b := x3.b) Sc.pf g2 (by rw [f3]; decide)))) ?_; rintro _ _ ⟨_, ⟨A5, c5, y3, hy3, rfl, rfl⟩, rfl⟩; refine O_n ?_
  have hin3 : inP ⟨2, 0, 0, [[97], [98], [99]], [], false⟩ x3.s x3.a y3 = (⟨2, 2, 0, [[99]], [], false⟩, []) := by
    rw [f1, f2]
    have h1 : y3.b = [] := by rw [hy3, f3]
    simp [inP, canP, h1]
    rfl
  rw [hin3]
  dsimp only
  repeat' (first | refine go ?_ | intro _ | (apply cG; first | refine cT ?_ | refine cF ?_ | refine cS (fun _ => ?_) fun _ => ?_) | (apply gW; refine sW ?_) | (apply gI; refine sI ?_) | (apply gE; refine sE ?_) | (apply gP; refine sP ?_) | (apply gC; refine sC ?_) | (apply gD; refine sD ?_) | fail)
  refine O_d (dy_call ArgsI.pf (by first | exact rfl | trivial | (intro a b; rfl)) (CT.pull (i := 1) (by rfl) (Out_e (e' := ⟨2, 2, 0, [[99]], [], false⟩) ⟨by decide, by decide, by decide, by decide, by decide, by decide⟩ (by decide) (by decide) (by decide) rfl))) ?_; rintro _ _ ⟨_, ⟨A6, c6, l3, hl3', rfl, rfl⟩, rfl⟩; refine O_n ?_
  obtain ⟨x4, rfl⟩ : ∃ x4, l3 = [x4] := by
    have := congrArg List.length hl3'
    rw [List.length_map] at this
    match l3, this with
    | [x4], _ => exact ⟨x4, rfl⟩
  have ho3 : outP 2 2 0 [[99]] false = [(3, 0, [99])] := by decide
  replace hl3' := hl3'.trans ho3
  simp only [List.map_cons, List.map_nil, PK.p, List.cons.injEq, Prod.mk.injEq, and_true] at hl3'
  obtain ⟨k1, k2, k3⟩ := hl3'
  have hl6 : [x4].length = 1 := rfl
  have hat4 : At [x4] 0 x4 := ⟨rfl⟩
  have hx4 : rd eB x4.v x4.b = rd eB x4.v [99] := by rw [k3]
  refine O_sub (sub_peekP (l := [x4]) (j := 0) (x := x4) (by repeat (first | exact .head _ | refine .tail _ ?_)) rfl) ?_
  rw [hx4]
  repeat' (first | refine go ?_ | intro _ | (apply cG; first | refine cT ?_ | refine cF ?_ | refine cS (fun _ => ?_) fun _ => ?_) | (apply gW; refine sW ?_) | (apply gI; refine sI ?_) | (apply gE; refine sE ?_) | (apply gP; refine sP ?_) | (apply gC; refine sC ?_) | (apply gD; refine sD ?_) | fail)
  refine O_s (sv_eqs (c := true) (h := by rw [beq_self_eq_true])) ?_
  repeat' (first | refine go ?_ | intro _ | (apply cG; first | refine cT ?_ | refine cF ?_ | refine cS (fun _ => ?_) fun _ => ?_) | (apply gW; refine sW ?_) | (apply gI; refine sI ?_) | (apply gE; refine sE ?_) | (apply gP; refine sP ?_) | (apply gC; refine sC ?_) | (apply gD; refine sD ?_) | fail)
  refine O_d (dy_call ArgsI.pf (by first | exact rfl | trivial | (intro a b; rfl)) (CT.pull (i := 2) (by rfl) (Waiting_e))) ?_; rintro _ _ ⟨_, ⟨rfl, rfl⟩, rfl⟩; refine O_n ?_
  dsimp only
  have hl7 : ([[99]] : List (List UInt8)).length = 1 := rfl
  repeat' (first | refine go ?_ | intro _ | (apply cG; first | refine cT ?_ | refine cF ?_ | refine cS (fun _ => ?_) fun _ => ?_) | (apply gW; refine sW ?_) | (apply gI; refine sI ?_) | (apply gE; refine sE ?_) | (apply gP; refine sP ?_) | (apply gC; refine sC ?_) | (apply gD; refine sD ?_) | fail)
  refine E_res1 (by rfl) (by rfl) ⟨rfl, rfl⟩ Sb
end
end Go.Proofs.Ythbgmnoaaohbcaa
