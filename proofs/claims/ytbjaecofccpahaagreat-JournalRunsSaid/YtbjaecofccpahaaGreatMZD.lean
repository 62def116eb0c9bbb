/-
  The reference's log over the reference's disk: Open, Append; beside the program's.
-/
import Derived.Test.YtbjaecofccpahaaGreatMX
import Derived.Test.YtbjaecofccpahaaGreatMZC
namespace Go.Proofs.YtbjaecofccpahaaGreat
open Go Go.RowKit
set_option linter.unusedVariables false
set_option linter.unusedSimpArgs false
set_option maxRecDepth 20000
set_option synthInstance.maxSize 100000
set_option synthInstance.maxHeartbeats 400000
def rlogF (g : LG) (K : RK) (b : List UInt8) : LG × RK × Int :=
  if g.down then (g, K, 21) else match appR K g.file (frameF g.n b) with
    | (K1, e1) => if e1 = 0 then match syncR K1 with
        | (K2, e2) => (⟨g.file, if e2 = 0 then g.n + 1 else g.n, decide (e2 = 21)⟩, K2, e2)
      else (⟨g.file, g.n, decide (e1 = 21)⟩, K1, e1)
def openR (K : RK) (file : Int) (N : Nat) : RK × Int :=
  match (if N < (K.b file).length then truncR K file (N : Int) else (K, 0)) with
  | (K1, e1) => if e1 = 0 then syncR K1 else (K1, e1)
theorem Rel.log {d : DK} {K : RK} (h : Rel d K) (g : LG) (b : List UInt8) (y : Value) : Rel (logF g d b y).2.1 (rlogF g K b).2.1 ∧ (logF g d b y).2.2 = (rlogF g K b).2.2 ∧ (logF g d b y).1 = (rlogF g K b).1 := by
  unfold logF rlogF
  split
  · exact ⟨h, rfl, rfl⟩
  obtain ⟨h1, h2⟩ := h.app g.file (frameF g.n b) y
  obtain ⟨d1, e1, hd1⟩ : ∃ d1 e1, appF d g.file (frameF g.n b) y = (d1, e1) := ⟨_, _, rfl⟩
  obtain ⟨K1, f1, hK1⟩ : ∃ K1 f1, appR K g.file (frameF g.n b) = (K1, f1) := ⟨_, _, rfl⟩
  rw [hd1, hK1] at h1 h2
  rw [hd1, hK1]
  dsimp only at h1 h2 ⊢
  subst h2
  by_cases h0 : e1 = 0
  · rw [if_pos h0, if_pos h0]
    obtain ⟨h3, h4⟩ := h1.sync
    obtain ⟨d2, e2, hd2⟩ : ∃ d2 e2, syncF d1 = (d2, e2) := ⟨_, _, rfl⟩
    obtain ⟨K2, f2, hK2⟩ : ∃ K2 f2, syncR K1 = (K2, f2) := ⟨_, _, rfl⟩
    rw [hd2, hK2] at h3 h4
    rw [hd2, hK2]
    dsimp only at h3 h4 ⊢
    subst h4
    exact ⟨h3, rfl, rfl⟩
  · rw [if_neg h0, if_neg h0]
    exact ⟨h1, rfl, rfl⟩
theorem Rel.opn {d : DK} {K : RK} (h : Rel d K) {file : Int} {N : Nat} (hn : 0 ≤ file ∧ file < 64) (hN : N ≤ (fileF file d.files).b.length) (y : Value) : Rel (openF d file N y).1 (openR K file N).1 ∧ (openF d file N y).2 = (openR K file N).2 := by
  unfold openF openR
  rw [h.b hn]
  have hgo : ∀ {d1 : DK} {K1 : RK} {e1 f1 : Int}, Rel d1 K1 → e1 = f1 → Rel (if e1 = 0 then syncF d1 else (d1, e1)).1 (if f1 = 0 then syncR K1 else (K1, f1)).1 ∧ (if e1 = 0 then syncF d1 else (d1, e1)).2 = (if f1 = 0 then syncR K1 else (K1, f1)).2 := by
    intro d1 K1 e1 f1 hR he
    subst he
    by_cases h0 : e1 = 0
    · rw [if_pos h0, if_pos h0]
      exact hR.sync
    · rw [if_neg h0, if_neg h0]
      exact ⟨hR, rfl⟩
  by_cases hl : N < (fileF file d.files).b.length
  · rw [if_pos hl, if_pos hl]
    obtain ⟨h1, h2⟩ := h.trunc hn hN y
    exact hgo h1 h2
  · rw [if_neg hl, if_neg hl]
    exact hgo h rfl
theorem appR_room (K : RK) (n : Int) (b : List UInt8) : (appR K n b).1.room = K.room := by
  unfold appR
  repeat' split
  all_goals rfl
theorem syncR_room (K : RK) : (syncR K).1.room = K.room := by
  unfold syncR
  repeat' split
  all_goals rfl
theorem truncR_room (K : RK) (n N : Int) : (truncR K n N).1.room = K.room := by
  unfold truncR
  repeat' split
  all_goals rfl
theorem armR_room (K : RK) (n : Int) : (armR K n).room = K.room := by
  unfold armR
  split <;> rfl
theorem openR_room (K : RK) (n : Int) (N : Nat) : (openR K n N).1.room = K.room := by
  unfold openR
  have h1 : (if N < (K.b n).length then truncR K n (N : Int) else (K, 0)).1.room = K.room := by
    split
    · exact truncR_room _ _ _
    · rfl
  obtain ⟨K1, e1, hK⟩ : ∃ K1 e1, (if N < (K.b n).length then truncR K n (N : Int) else (K, 0)) = (K1, e1) := ⟨_, _, rfl⟩
  rw [hK] at h1 ⊢
  dsimp only at h1 ⊢
  split
  · rw [syncR_room]; exact h1
  · exact h1
theorem rlogF_room (g : LG) (K : RK) (b : List UInt8) : (rlogF g K b).2.1.room = K.room := by
  unfold rlogF
  split
  · rfl
  have h1 := appR_room K g.file (frameF g.n b)
  obtain ⟨K1, f1, hK1⟩ : ∃ K1 f1, appR K g.file (frameF g.n b) = (K1, f1) := ⟨_, _, rfl⟩
  rw [hK1] at h1 ⊢
  dsimp only at h1 ⊢
  split
  · have h2 := syncR_room K1
    obtain ⟨K2, f2, hK2⟩ : ∃ K2 f2, syncR K1 = (K2, f2) := ⟨_, _, rfl⟩
    rw [hK2] at h2 ⊢
    dsimp only at h2 ⊢
    rw [h2]; exact h1
  · exact h1
section
variable {W0 : World} {L : List HP}
theorem Records1_ct {v : Value} {li : List Int} (hv : rd eI v li ∈ L) (hl : li.length ≤ 9223372036854775807) (hr : ∀ n ∈ li, -9223372036854775808 ≤ n ∧ n ≤ 9223372036854775807) :
    CT Tryz.prog 14 #[v] W0 L fun r L' => ∃ A c xs, r = .slice A (List.length xs) c ∧ L' = own 39 (eSl eB) (.slice A (List.length xs) c) xs :: L ∧ (∀ x ∈ xs, x.length ≤ 10) ∧ xs.length = min li.length 6 := by
  refine CT_fact (fun w s => ((Src.sl (.inl hv) s).form)) ?_
  rintro ⟨A, cap, rfl, hcap⟩
  refine CT_enter Tryz.func14 rfl ?_; (simp only [Tryz.ntmps14, List.size_toArray, List.length_cons, List.length_nil, Nat.reduceAdd, Nat.reduceSub, Array.replicate_succ, Array.replicate_zero, List.push_toArray, List.append_toArray, List.nil_append, List.cons_append])
  refine C_sub (sub_dup hv) ?_
  repeat' (first | refine go ?_ | intro _ | (apply cG; first | refine cT ?_ | refine cF ?_ | refine cS (fun _ => ?_) fun _ => ?_) | (apply gW; refine sW ?_) | (apply gI; refine sI ?_) | (apply gE; refine sE ?_) | (apply gP; refine sP ?_) | (apply gC; refine sC ?_) | (apply gD; refine sD ?_) | fail)
  refine C_ownnil 39 (eSl eB) ?_
  refine C_loopS (κ := Nat × Value × List (List UInt8)) [false, false, false, true, true, true, true, true, true, true, true, true, true, true, true, true, true, true, true, true, true, true, true, true, true, true, true, true, true, true, true, true, true, true, true, true, true, true, true, true, true, true, true, false] (fun k => [(3, k.2.1), (4, .int .i64 (k.1 : Int))]) (fun k => [(0, own 39 (eSl eB) k.2.1 k.2.2)]) (fun k => k.1 ≤ 6 ∧ k.1 ≤ li.length ∧ (∃ A c, k.2.1 = .slice A k.2.2.length c) ∧ k.2.2.length = k.1 ∧ ∀ x ∈ k.2.2, x.length ≤ 10) (fun k => 6 - k.1) (0, .slice none 0 0, []) ⟨by decide, Nat.zero_le _, ⟨none, 0, rfl⟩, rfl, fun x hx => by cases hx⟩ ⟨rfl, rfl, trivial⟩ ?_
  rintro ⟨i, vo, out⟩ u ⟨h6, hi, ⟨A1, c1, hvo⟩, hlen, hall⟩
  dsimp only at h6 hi hvo hlen hall
  subst hvo
  ((try dsimp only); refine C_n ?_; (try simp only [Nat.reduceAdd, Nat.zero_add]))
  by_cases hlt : i < li.length ∧ i < 6
  · obtain ⟨hlt1, hlt2⟩ := hlt
    obtain ⟨x, hx⟩ : ∃ x, li[i]? = some x := ⟨_, List.getElem?_eq_getElem hlt1⟩
    have hxi := hr x (List.mem_of_getElem? hx)
    have hax : At li i x := ⟨hx⟩
    repeat' (first | refine go ?_ | intro _ | (apply cG; first | refine cT ?_ | refine cF ?_ | refine cS (fun _ => ?_) fun _ => ?_) | (apply gW; refine sW ?_) | (apply gI; refine sI ?_) | (apply gE; refine sE ?_) | (apply gP; refine sP ?_) | (apply gC; refine sC ?_) | (apply gD; refine sD ?_) | fail)
    refine O_d (dy_call ArgsI.pf (by first | exact rfl | trivial | (intro a b; rfl)) (Around_ct hxi.1 hxi.2 (by decide) (by decide))) ?_; rintro _ _ ⟨_, ⟨rfl, hLL⟩, rfl⟩; replace hLL := hLL.symm; subst hLL; refine O_n ?_
    obtain ⟨n, hn, hnl⟩ : ∃ n : Nat, around x 1000 = (n : Int) ∧ n < 1000 := by
      have := around_in (n := x) (most := 1000) (by decide)
      exact ⟨(around x 1000).toNat, by omega, by omega⟩
    rw [hn]
    repeat' (first | refine go ?_ | intro _ | (apply cG; first | refine cT ?_ | refine cF ?_ | refine cS (fun _ => ?_) fun _ => ?_) | (apply gW; refine sW ?_) | (apply gI; refine sI ?_) | (apply gE; refine sE ?_) | (apply gP; refine sP ?_) | (apply gC; refine sC ?_) | (apply gD; refine sD ?_) | fail)
    refine C_ownnil 5 eB ?_
    refine C_loopS (κ := Nat × Value × List UInt8) [false, false, false, false, false, false, true, true, false, false, false, false, false, false, false, false, false, false, false, false, false, false, false, true, true, true, true, true, true, true, true, true, true, true, true, true, true, true, true, false, false, false, false, false] (fun k => [(6, k.2.1), (7, .int .i64 (k.1 : Int))]) (fun k => [(0, own 5 eB k.2.1 k.2.2)]) (fun k => k.1 ≤ 10 ∧ (∃ A c, k.2.1 = .slice A k.2.2.length c) ∧ k.2.2.length = k.1) (fun k => 10 - k.1) (0, .slice none 0 0, []) ⟨by decide, ⟨none, 0, rfl⟩, rfl⟩ ⟨rfl, rfl, trivial⟩ ?_
    rintro ⟨j, vb, lb⟩ u2 ⟨g1, ⟨A3, c3, hvb⟩, hlb⟩
    dsimp only at g1 hvb hlb
    subst hvb
    ((try dsimp only); refine C_n ?_; (try simp only [Nat.reduceAdd, Nat.zero_add]))
    by_cases hjm : (j : Int) < (n : Int) % 11
    · have hmul : (j : Int) * (n : Int) = ((j * n : Nat) : Int) := by push_cast; rfl
      have hmb : j * n ≤ 10 * 1000 := Nat.mul_le_mul g1 (by omega)
      obtain ⟨y, hy⟩ : ∃ y, j * n = y := ⟨_, rfl⟩
      rw [hy] at hmul hmb
      obtain ⟨b, hb⟩ := u8_any' ((n : Int) / 11 + (j : Int) * (n : Int))
      repeat' (first | refine go ?_ | intro _ | (apply cG; first | refine cT ?_ | refine cF ?_ | refine cS (fun _ => ?_) fun _ => ?_) | (apply gW; refine sW ?_) | (apply gI; refine sI ?_) | (apply gE; refine sE ?_) | (apply gP; refine sP ?_) | (apply gC; refine sC ?_) | (apply gD; refine sD ?_) | fail)
      rw [hb]
      refine O_d (dy_lit1 (R := eB) b (hcs := by rfl) (hel := fun _ _ _ => by rfl)) ?_; rintro _ _ ⟨_, rfl, rfl⟩; refine O_n ?_
      refine O_d dy_append ?_; rintro _ _ ⟨A4, c4, rfl, rfl⟩; refine O_n ?_
      repeat' (first | refine go ?_ | intro _ | (apply cG; first | refine cT ?_ | refine cF ?_ | refine cS (fun _ => ?_) fun _ => ?_) | (apply gW; refine sW ?_) | (apply gI; refine sI ?_) | (apply gE; refine sE ?_) | (apply gP; refine sP ?_) | (apply gC; refine sC ?_) | (apply gD; refine sD ?_) | fail)
      exact E_round (j + 1, .slice A4 (lb.length + 1) c4, lb ++ [b]) ⟨by omega, ⟨A4, c4, by rw [List.length_append]; rfl⟩, by rw [List.length_append, hlb]; rfl⟩ (by show 10 - (j + 1) < 10 - j; omega) ⟨rfl, rfl, trivial⟩ Sb
    · repeat' (first | refine go ?_ | intro _ | (apply cG; first | refine cT ?_ | refine cF ?_ | refine cS (fun _ => ?_) fun _ => ?_) | (apply gW; refine sW ?_) | (apply gI; refine sI ?_) | (apply gE; refine sE ?_) | (apply gP; refine sP ?_) | (apply gC; refine sC ?_) | (apply gD; refine sD ?_) | fail)
      refine O_frz 0 ?_
      refine O_d (dy_litS (R := eSl eB) [lb] [.slice A3 lb.length c3] (by rfl) (fun m h hs => ⟨⟨_, rfl, rd_mem hs (by repeat (first | exact .head _ | refine .tail _ ?_))⟩, trivial⟩)) ?_; rintro _ _ ⟨_, rfl, rfl⟩; refine O_n ?_
      refine O_d dy_append ?_; rintro _ _ ⟨A4, c4, rfl, rfl⟩; refine O_n ?_
      repeat' (first | refine go ?_ | intro _ | (apply cG; first | refine cT ?_ | refine cF ?_ | refine cS (fun _ => ?_) fun _ => ?_) | (apply gW; refine sW ?_) | (apply gI; refine sI ?_) | (apply gE; refine sE ?_) | (apply gP; refine sP ?_) | (apply gC; refine sC ?_) | (apply gD; refine sD ?_) | fail)
      exact E_round (i + 1, .slice A4 (out.length + 1) c4, out ++ [lb]) ⟨by omega, by omega, ⟨A4, c4, by rw [List.length_append]; rfl⟩, by rw [List.length_append, hlen]; rfl, fun z hz => by
        rcases List.mem_append.1 hz with hz | hz
        · exact hall z hz
        · simp only [List.mem_cons, List.not_mem_nil, or_false] at hz
          subst hz
          omega⟩ (by show 6 - (i + 1) < 6 - i; omega) ⟨rfl, rfl, trivial⟩ Sb
  · by_cases hlt1 : i < li.length
    · have hlt2 : ¬ i < 6 := fun h => hlt ⟨hlt1, h⟩
      repeat' (first | refine go ?_ | intro _ | (apply cG; first | refine cT ?_ | refine cF ?_ | refine cS (fun _ => ?_) fun _ => ?_) | (apply gW; refine sW ?_) | (apply gI; refine sI ?_) | (apply gE; refine sE ?_) | (apply gP; refine sP ?_) | (apply gC; refine sC ?_) | (apply gD; refine sD ?_) | fail)
      refine E_res1 (by rfl) (by rfl) ⟨_, _, _, rfl, rfl, hall, by omega⟩ Sb
    · repeat' (first | refine go ?_ | intro _ | (apply cG; first | refine cT ?_ | refine cF ?_ | refine cS (fun _ => ?_) fun _ => ?_) | (apply gW; refine sW ?_) | (apply gI; refine sI ?_) | (apply gE; refine sE ?_) | (apply gP; refine sP ?_) | (apply gC; refine sC ?_) | (apply gD; refine sD ?_) | fail)
      refine E_res1 (by rfl) (by rfl) ⟨_, _, _, rfl, rfl, hall, by omega⟩ Sb
set_option maxHeartbeats 2000000 in
theorem rLApp_ct {q r : Nat} {file n : Int} {down : Bool} {d : DK} {K : RK} {v : Value} {b : List UInt8} (h : Rel d K) (hv : Src L eB v b) (hb : b.length ≤ 65536) (hn1 : 0 ≤ n) (hn2 : n ≤ 1000000000) :
    CT Tryz.prog 16 #[.pointer (some ⟨q, 0, none⟩), v] W0 (cel q [.pointer (some ⟨r, 0, none⟩), .int .i64 file, .int .i64 n, .bool down] 44 :: rdk r K :: L) fun z L' => z = .int .i64 (rlogF ⟨file, n, down⟩ K b).2.2 ∧
      L' = cel q [.pointer (some ⟨r, 0, none⟩), .int .i64 (rlogF ⟨file, n, down⟩ K b).1.file, .int .i64 (rlogF ⟨file, n, down⟩ K b).1.n, .bool (rlogF ⟨file, n, down⟩ K b).1.down] 44 :: rdk r (rlogF ⟨file, n, down⟩ K b).2.1 :: L := by
  have hv : Sc L v eB b := ⟨hv⟩
  refine CT_fact (fun w s => ((Sc.pf : Src _ eB v b).sl s).form) ?_
  rintro ⟨A0, c0, rfl, hc0⟩
  have hfl := frameF_len (i := n) (by omega) (by omega) (x := b) (by omega)
  unfold rlogF
  cases down
  rotate_left
  · rw [if_pos rfl]
    refine CT_enter Tryz.func16 rfl ?_; (simp only [Tryz.ntmps16, List.size_toArray, List.length_cons, List.length_nil, Nat.reduceAdd, Nat.reduceSub, Array.replicate_succ, Array.replicate_zero, List.push_toArray, List.append_toArray, List.nil_append, List.cons_append])
    repeat' (first | refine go ?_ | intro _ | (apply cG; first | refine cT ?_ | refine cF ?_ | refine cS (fun _ => ?_) fun _ => ?_) | (apply gW; refine sW ?_) | (apply gI; refine sI ?_) | (apply gE; refine sE ?_) | (apply gP; refine sP ?_) | (apply gC; refine sC ?_) | (apply gD; refine sD ?_) | fail)
    refine E_res1 (by rfl) (by rfl) ⟨rfl, rfl⟩ Sb
  rw [if_neg (by simp)]
  obtain ⟨h1, h2⟩ := h.app file (frameF n b) (.slice none 0 0)
  obtain ⟨K1, e1, hK1⟩ : ∃ K1 e1, appR K file (frameF n b) = (K1, e1) := ⟨_, _, rfl⟩
  rw [hK1] at h1
  dsimp only at h1 ⊢
  rw [hK1]
  dsimp only
  refine CT_enter Tryz.func16 rfl ?_; (simp only [Tryz.ntmps16, List.size_toArray, List.length_cons, List.length_nil, Nat.reduceAdd, Nat.reduceSub, Array.replicate_succ, Array.replicate_zero, List.push_toArray, List.append_toArray, List.nil_append, List.cons_append])
  repeat' (first | refine go ?_ | intro _ | (apply cG; first | refine cT ?_ | refine cF ?_ | refine cS (fun _ => ?_) fun _ => ?_) | (apply gW; refine sW ?_) | (apply gI; refine sI ?_) | (apply gE; refine sE ?_) | (apply gP; refine sP ?_) | (apply gC; refine sC ?_) | (apply gD; refine sD ?_) | fail)
  refine C_draw (n := 99) [cel q [.pointer (some ⟨r, 0, none⟩), .int .i64 file, .int .i64 n, .bool false] 44] [(0, 1), (1, 1), (2, 1), (3, 1), (4, 1), (5, 1), (6, 1), (7, 1), (8, 1), (9, 1), (10, 1), (11, 1), (12, 1), (13, 0), (14, 0), (15, 1)] (by kernel_rfl) (by kernel_rfl) Sb ?_
  repeat' (first | refine go ?_ | intro _ | (apply cG; first | refine cT ?_ | refine cF ?_ | refine cS (fun _ => ?_) fun _ => ?_) | (apply gW; refine sW ?_) | (apply gI; refine sI ?_) | (apply gE; refine sE ?_) | (apply gP; refine sP ?_) | (apply gC; refine sC ?_) | (apply gD; refine sD ?_) | fail)
  refine D_op rfl ?_; refine X_d (dy_call ArgsI.pf (by first | exact rfl | trivial | (intro a b; rfl)) (fFrame_ct (i := n) (x := b) Sc.pf (by omega) (by omega) (by omega))) ?_; rintro _ _ ⟨_, ⟨A2, c2, rfl, rfl⟩, rfl⟩; refine ⟨(by first | exact .inl rfl | exact .inr Sb), D_n ?_⟩
  repeat' (first | refine go ?_ | intro _ | (apply cG; first | refine cT ?_ | refine cF ?_ | refine cS (fun _ => ?_) fun _ => ?_) | (apply gW; refine sW ?_) | (apply gI; refine sI ?_) | (apply gE; refine sE ?_) | (apply gP; refine sP ?_) | (apply gC; refine sC ?_) | (apply gD; refine sD ?_) | fail)
  refine D_op rfl ?_; refine X_d (dy_call ArgsI.pf (by first | exact rfl | trivial | (intro a b; rfl)) (CT.pull (i := 2) (by rfl) (rAppend_ct (n := file) (b := frameF n b) h.kok (.inr ⟨_, .head _⟩) (by omega)))) ?_; rintro _ _ ⟨_, ⟨rfl, rfl⟩, rfl⟩; refine ⟨(by first | exact .inl rfl | exact .inr Sb), D_n ?_⟩
  rw [hK1]
  dsimp only
  by_cases he0 : e1 = 0
  · subst he0
    rw [if_pos rfl]
    obtain ⟨K2, e2, hK2⟩ : ∃ K2 e2, syncR K1 = (K2, e2) := ⟨_, _, rfl⟩
    rw [hK2]
    dsimp only
    repeat' (first | refine go ?_ | intro _ | (apply cG; first | refine cT ?_ | refine cF ?_ | refine cS (fun _ => ?_) fun _ => ?_) | (apply gW; refine sW ?_) | (apply gI; refine sI ?_) | (apply gE; refine sE ?_) | (apply gP; refine sP ?_) | (apply gC; refine sC ?_) | (apply gD; refine sD ?_) | fail)
    refine O_d (dy_call ArgsI.pf (by first | exact rfl | trivial | (intro a b; rfl)) (CT.pull (i := 0) (by rfl) (rSync_ct h1.kok))) ?_; rintro _ _ ⟨_, ⟨rfl, rfl⟩, rfl⟩; refine O_n ?_
    rw [hK2]
    dsimp only
    by_cases h20 : e2 = 0
    · subst h20
      repeat' (first | refine go ?_ | intro _ | (apply cG; first | refine cT ?_ | refine cF ?_ | refine cS (fun _ => ?_) fun _ => ?_) | (apply gW; refine sW ?_) | (apply gI; refine sI ?_) | (apply gE; refine sE ?_) | (apply gP; refine sP ?_) | (apply gC; refine sC ?_) | (apply gD; refine sD ?_) | fail)
      refine E_res1 (by rfl) (by rfl) ⟨rfl, rfl⟩ Sb
    rw [if_neg h20]
    by_cases h21 : e2 = 21
    · subst h21
      repeat' (first | refine go ?_ | intro _ | (apply cG; first | refine cT ?_ | refine cF ?_ | refine cS (fun _ => ?_) fun _ => ?_) | (apply gW; refine sW ?_) | (apply gI; refine sI ?_) | (apply gE; refine sE ?_) | (apply gP; refine sP ?_) | (apply gC; refine sC ?_) | (apply gD; refine sD ?_) | fail)
      refine E_res1 (by rfl) (by rfl) ⟨rfl, rfl⟩ Sb
    · rw [show decide (e2 = 21) = false from decide_eq_false h21]
      repeat' (first | refine go ?_ | intro _ | (apply cG; first | refine cT ?_ | refine cF ?_ | refine cS (fun _ => ?_) fun _ => ?_) | (apply gW; refine sW ?_) | (apply gI; refine sI ?_) | (apply gE; refine sE ?_) | (apply gP; refine sP ?_) | (apply gC; refine sC ?_) | (apply gD; refine sD ?_) | fail)
      refine E_res1 (by rfl) (by rfl) ⟨rfl, rfl⟩ Sb
  rw [if_neg he0]
  by_cases h21 : e1 = 21
  · subst h21
    repeat' (first | refine go ?_ | intro _ | (apply cG; first | refine cT ?_ | refine cF ?_ | refine cS (fun _ => ?_) fun _ => ?_) | (apply gW; refine sW ?_) | (apply gI; refine sI ?_) | (apply gE; refine sE ?_) | (apply gP; refine sP ?_) | (apply gC; refine sC ?_) | (apply gD; refine sD ?_) | fail)
    refine E_res1 (by rfl) (by rfl) ⟨rfl, rfl⟩ Sb
  · rw [show decide (e1 = 21) = false from decide_eq_false h21]
    repeat' (first | refine go ?_ | intro _ | (apply cG; first | refine cT ?_ | refine cF ?_ | refine cS (fun _ => ?_) fun _ => ?_) | (apply gW; refine sW ?_) | (apply gI; refine sI ?_) | (apply gE; refine sE ?_) | (apply gP; refine sP ?_) | (apply gC; refine sC ?_) | (apply gD; refine sD ?_) | fail)
    refine E_res1 (by rfl) (by rfl) ⟨rfl, rfl⟩ Sb
end
end Go.Proofs.YtbjaecofccpahaaGreat
namespace Go.Proofs.YtbjaecofccpahaaGreat
open Go Go.RowKit
set_option linter.unusedVariables false
set_option linter.unusedSimpArgs false
set_option maxRecDepth 20000
set_option synthInstance.maxSize 100000
set_option synthInstance.maxHeartbeats 400000
section
variable {W0 : World} {L : List HP}
theorem rOpen_off {r : Nat} {K : RK} {file : Int} (ho : K.off = true) :
    CT Tryz.prog 8 #[.pointer (some ⟨r, 0, none⟩), .int .i64 file] W0 (rdk r K :: L) fun z L' => z = .tuple #[.pointer none, .slice none 0 0, .int .i64 21] ∧ L' = rdk r K :: L := by
  refine rdk_ctx fun ab af Bs h1 h2 h3 => ?_
  have hc := (rdk_sub (L := L) (r := r) (ab := ab) (af := af) (K := K) h1 h2 h3)
  rw [ho] at hc ⊢
  refine CT_enter Tryz.func8 rfl ?_; (simp only [Tryz.ntmps8, List.size_toArray, List.length_cons, List.length_nil, Nat.reduceAdd, Nat.reduceSub, Array.replicate_succ, Array.replicate_zero, List.push_toArray, List.append_toArray, List.nil_append, List.cons_append])
  repeat' (first | refine go ?_ | intro _ | (apply cG; first | refine cT ?_ | refine cF ?_ | refine cS (fun _ => ?_) fun _ => ?_) | (apply gW; refine sW ?_) | (apply gI; refine sI ?_) | (apply gE; refine sE ?_) | (apply gP; refine sP ?_) | (apply gC; refine sC ?_) | (apply gD; refine sD ?_) | fail)
  refine E_res3 (by rfl) (by rfl) ⟨rfl, rfl⟩ (Sub.trans Sb hc)
set_option maxHeartbeats 2000000 in
theorem rOpen_ct {r : Nat} {d : DK} {K : RK} {j : Nat} {xs : List (List UInt8)} {N : Nat} (h : Rel d K) (hj : j < 64) (ho : K.off = false) (hB : (K.b (j : Int)).length ≤ 1000000) (hsc : scanF (K.b (j : Int)).length 0 (K.b (j : Int)) = (xs, N)) (hN : N ≤ (K.b (j : Int)).length) (hxs : xs.length ≤ 1000000) :
    CT Tryz.prog 8 #[.pointer (some ⟨r, 0, none⟩), .int .i64 (j : Int)] W0 (rdk r K :: L) fun z L' => ((openR K (j : Int) N).2 ≠ 0 ∧ z = .tuple #[.pointer none, .slice none 0 0, .int .i64 (openR K (j : Int) N).2] ∧ L' = rdk r (openR K (j : Int) N).1 :: L) ∨
      ((openR K (j : Int) N).2 = 0 ∧ ∃ q A3 c3, z = .tuple #[.pointer (some ⟨q, 0, none⟩), .slice A3 xs.length c3, .int .i64 0] ∧ L' = cel q [.pointer (some ⟨r, 0, none⟩), .int .i64 (j : Int), .int .i64 (xs.length : Int), .bool false] 44 :: own 39 (eSl eB) (.slice A3 xs.length c3) xs :: rdk r (openR K (j : Int) N).1 :: L) := by
  have hn : (0 : Int) ≤ (j : Int) ∧ (j : Int) < 64 := ⟨by omega, by omega⟩
  have hk := h.kok
  have hb := h.b hn
  refine rdk_ctx fun ab af Bs h1 h2 h3 => ?_
  have hcl := (rdk_sub (L := L) (r := r) (ab := ab) (af := af) (K := K) h1 h2 h3)
  obtain ⟨x, hx⟩ : ∃ x, Bs[j]? = some x := ⟨_, List.getElem?_eq_getElem (by omega)⟩
  have hax : At Bs j x := ⟨hx⟩
  have hxb := rbn h1 hx
  rw [hxb] at hB hsc hN
  refine CT_sub3 (S := cel r [.int .i64 K.room, .slice (some ab) 64 64, .slice (some af) 64 64, .bool K.off, .int .i64 K.plan] 50 :: own 39 eRBy (.slice (some ab) 64 64) Bs :: own 3 eI (.slice (some af) 64 64) K.F :: imR Bs :: rd eB (.slice x.A x.b.length x.c) x.b :: L) (Sub.trans (B := rd eB (.slice x.A x.b.length x.c) x.b :: cel r [.int .i64 K.room, .slice (some ab) 64 64, .slice (some af) 64 64, .bool K.off, .int .i64 K.plan] 50 :: own 39 eRBy (.slice (some ab) 64 64) Bs :: own 3 eI (.slice (some af) 64 64) K.F :: imR Bs :: L) (sub_imR (.tail _ (.tail _ (.tail _ (.head _)))) hx) Sb) ?_
  rw [ho] at hcl ⊢
  refine CT_enter Tryz.func8 rfl ?_; (simp only [Tryz.ntmps8, List.size_toArray, List.length_cons, List.length_nil, Nat.reduceAdd, Nat.reduceSub, Array.replicate_succ, Array.replicate_zero, List.push_toArray, List.append_toArray, List.nil_append, List.cons_append])
  repeat' (first | refine go ?_ | intro _ | (apply cG; first | refine cT ?_ | refine cF ?_ | refine cS (fun _ => ?_) fun _ => ?_) | (apply gW; refine sW ?_) | (apply gI; refine sI ?_) | (apply gE; refine sE ?_) | (apply gP; refine sP ?_) | (apply gC; refine sC ?_) | (apply gD; refine sD ?_) | fail)
  refine O_d (dy_call ArgsI.pf (by first | exact rfl | trivial | (intro a b; rfl)) (fScan_ct (b := x.b) (by repeat (first | exact .head _ | refine .tail _ ?_)) hB hsc)) ?_; rintro _ _ ⟨_, ⟨A3, c3, rfl, rfl⟩, rfl⟩; refine O_n ?_
  obtain ⟨K1, e1, hK1⟩ : ∃ K1 e1, (if N < (K.b (j : Int)).length then truncR K (j : Int) (N : Int) else (K, 0)) = (K1, e1) := ⟨_, _, rfl⟩
  have hop : openR K (j : Int) N = if e1 = 0 then syncR K1 else (K1, e1) := by unfold openR; rw [hK1]
  have hR1 : ∃ d1, Rel d1 K1 := by
    by_cases hl : N < (K.b (j : Int)).length
    · rw [if_pos hl] at hK1
      have := (h.trunc (n := (j : Int)) (N := N) hn (by rw [← hb]; omega) (.slice none 0 0)).1
      rw [hK1] at this
      exact ⟨_, this⟩
    · rw [if_neg hl] at hK1
      injection hK1 with h4 _
      exact ⟨d, h4 ▸ h⟩
  obtain ⟨d1, hR1⟩ := hR1
  rw [hop]
  rw [hxb] at hK1
  have hclS : ∀ {X : List HP}, Sub (cel r [.int .i64 K.room, .slice (some ab) 64 64, .slice (some af) 64 64, .bool false, .int .i64 K.plan] 50 :: own 39 eRBy (.slice (some ab) 64 64) Bs :: own 3 eI (.slice (some af) 64 64) K.F :: imR Bs :: X) (rdk r K :: X) := fun {X} => by
    have h := rdk_sub (L := X) (r := r) (ab := ab) (af := af) (K := K) h1 h2 h3
    rw [ho] at h
    exact h
  by_cases hl : N < x.b.length
  · rw [if_pos hl] at hK1
    repeat' (first | refine go ?_ | intro _ | (apply cG; first | refine cT ?_ | refine cF ?_ | refine cS (fun _ => ?_) fun _ => ?_) | (apply gW; refine sW ?_) | (apply gI; refine sI ?_) | (apply gE; refine sE ?_) | (apply gP; refine sP ?_) | (apply gC; refine sC ?_) | (apply gD; refine sD ?_) | fail)
    refine O_sub (S := rdk r K :: own 39 (eSl eB) (.slice A3 xs.length c3) xs :: L) (Sub.trans (B := cel r [.int .i64 K.room, .slice (some ab) 64 64, .slice (some af) 64 64, .bool false, .int .i64 K.plan] 50 :: own 39 eRBy (.slice (some ab) 64 64) Bs :: own 3 eI (.slice (some af) 64 64) K.F :: imR Bs :: own 39 (eSl eB) (.slice A3 xs.length c3) xs :: L) Sb hclS) ?_
    refine O_d (dy_call ArgsI.pf (by first | exact rfl | trivial | (intro a b; rfl)) (CT.pull (i := 0) (by rfl) (rTrunc_ct (n := (j : Int)) (N := (N : Int)) hk (by omega) (by omega) (by omega) (by omega)))) ?_; rintro _ _ ⟨_, ⟨rfl, rfl⟩, rfl⟩; refine O_n ?_
    rw [hK1]
    dsimp only
    by_cases he0 : e1 = 0
    · subst he0
      rw [if_pos rfl]
      obtain ⟨K2, e2, hK2⟩ : ∃ K2 e2, syncR K1 = (K2, e2) := ⟨_, _, rfl⟩
      repeat' (first | refine go ?_ | intro _ | (apply cG; first | refine cT ?_ | refine cF ?_ | refine cS (fun _ => ?_) fun _ => ?_) | (apply gW; refine sW ?_) | (apply gI; refine sI ?_) | (apply gE; refine sE ?_) | (apply gP; refine sP ?_) | (apply gC; refine sC ?_) | (apply gD; refine sD ?_) | fail)
      refine O_d (dy_call ArgsI.pf (by first | exact rfl | trivial | (intro a b; rfl)) (CT.pull (i := 0) (by rfl) (rSync_ct hR1.kok))) ?_; rintro _ _ ⟨_, ⟨rfl, rfl⟩, rfl⟩; refine O_n ?_
      rw [hK2]
      dsimp only
      by_cases h20 : e2 = 0
      · subst h20
        repeat' (first | refine go ?_ | intro _ | (apply cG; first | refine cT ?_ | refine cF ?_ | refine cS (fun _ => ?_) fun _ => ?_) | (apply gW; refine sW ?_) | (apply gI; refine sI ?_) | (apply gE; refine sE ?_) | (apply gP; refine sP ?_) | (apply gC; refine sC ?_) | (apply gD; refine sD ?_) | fail)
        refine E_res3 (by rfl) (by rfl) (.inr ⟨rfl, _, _, _, rfl, rfl⟩) Sb
      · repeat' (first | refine go ?_ | intro _ | (apply cG; first | refine cT ?_ | refine cF ?_ | refine cS (fun _ => ?_) fun _ => ?_) | (apply gW; refine sW ?_) | (apply gI; refine sI ?_) | (apply gE; refine sE ?_) | (apply gP; refine sP ?_) | (apply gC; refine sC ?_) | (apply gD; refine sD ?_) | fail)
        refine E_res3 (by rfl) (by rfl) (.inl ⟨h20, rfl, rfl⟩) Sb
    · rw [if_neg he0]
      repeat' (first | refine go ?_ | intro _ | (apply cG; first | refine cT ?_ | refine cF ?_ | refine cS (fun _ => ?_) fun _ => ?_) | (apply gW; refine sW ?_) | (apply gI; refine sI ?_) | (apply gE; refine sE ?_) | (apply gP; refine sP ?_) | (apply gC; refine sC ?_) | (apply gD; refine sD ?_) | fail)
      refine E_res3 (by rfl) (by rfl) (.inl ⟨he0, rfl, rfl⟩) Sb
  rw [if_neg hl] at hK1
  injection hK1 with hK hE
  subst hK hE
  rw [if_pos rfl]
  obtain ⟨K2, e2, hK2⟩ : ∃ K2 e2, syncR K = (K2, e2) := ⟨_, _, rfl⟩
  repeat' (first | refine go ?_ | intro _ | (apply cG; first | refine cT ?_ | refine cF ?_ | refine cS (fun _ => ?_) fun _ => ?_) | (apply gW; refine sW ?_) | (apply gI; refine sI ?_) | (apply gE; refine sE ?_) | (apply gP; refine sP ?_) | (apply gC; refine sC ?_) | (apply gD; refine sD ?_) | fail)
  refine O_sub (S := rdk r K :: own 39 (eSl eB) (.slice A3 xs.length c3) xs :: L) (Sub.trans (B := cel r [.int .i64 K.room, .slice (some ab) 64 64, .slice (some af) 64 64, .bool false, .int .i64 K.plan] 50 :: own 39 eRBy (.slice (some ab) 64 64) Bs :: own 3 eI (.slice (some af) 64 64) K.F :: imR Bs :: own 39 (eSl eB) (.slice A3 xs.length c3) xs :: L) Sb hclS) ?_
  refine O_d (dy_call ArgsI.pf (by first | exact rfl | trivial | (intro a b; rfl)) (CT.pull (i := 0) (by rfl) (rSync_ct hR1.kok))) ?_; rintro _ _ ⟨_, ⟨rfl, rfl⟩, rfl⟩; refine O_n ?_
  rw [hK2]
  dsimp only
  by_cases h20 : e2 = 0
  · subst h20
    repeat' (first | refine go ?_ | intro _ | (apply cG; first | refine cT ?_ | refine cF ?_ | refine cS (fun _ => ?_) fun _ => ?_) | (apply gW; refine sW ?_) | (apply gI; refine sI ?_) | (apply gE; refine sE ?_) | (apply gP; refine sP ?_) | (apply gC; refine sC ?_) | (apply gD; refine sD ?_) | fail)
    refine E_res3 (by rfl) (by rfl) (.inr ⟨rfl, _, _, _, rfl, rfl⟩) Sb
  · repeat' (first | refine go ?_ | intro _ | (apply cG; first | refine cT ?_ | refine cF ?_ | refine cS (fun _ => ?_) fun _ => ?_) | (apply gW; refine sW ?_) | (apply gI; refine sI ?_) | (apply gE; refine sE ?_) | (apply gP; refine sP ?_) | (apply gC; refine sC ?_) | (apply gD; refine sD ?_) | fail)
    refine E_res3 (by rfl) (by rfl) (.inl ⟨h20, rfl, rfl⟩) Sb
end
end Go.Proofs.YtbjaecofccpahaaGreat
