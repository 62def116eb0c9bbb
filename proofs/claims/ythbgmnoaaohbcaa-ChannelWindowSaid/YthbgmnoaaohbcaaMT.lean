/-
  Walks: ChannelWindow.
-/
import Derived.Test.YthbgmnoaaohbcaaMS
import Derived.Test.YthbgmnoaaohbcaaMC
namespace Go.Proofs.Ythbgmnoaaohbcaa
open Go Go.RowKit
set_option linter.unusedVariables false
set_option linter.unusedSimpArgs false
set_option maxRecDepth 20000
set_option synthInstance.maxSize 100000
set_option synthInstance.maxHeartbeats 400000
theorem pkL_get {acked got : Int} : ∀ {xs : List (List UInt8)} {i j : Nat}, (pkL acked got i xs)[j]? = (xs[j]?).map fun b => (acked + ((i + j : Nat) : Int) + 1, got, b)
  | [], i, j => by simp [pkL]
  | x :: r, i, 0 => by simp [pkL]
  | x :: r, i, j + 1 => by
    show (pkL acked got (i + 1) r)[j]? = (r[j]?).map _
    rw [pkL_get]
    have : i + 1 + j = i + (j + 1) := by omega
    rw [this]
theorem outP_get {l : List PK} {w acked got : Int} {wait : List (List UInt8)} {ow : Bool} {j : Nat} {x : PK} (h : l.map PK.p = outP w acked got wait ow) (hw : wait ≠ [] ∨ ow = false) (hx : l[j]? = some x) : x.s = acked + (j : Int) + 1 ∧ x.a = got ∧ wait[j]? = some x.b := by
  have h1 : (l.map PK.p)[j]? = some (x.s, x.a, x.b) := by rw [List.getElem?_map, hx]; rfl
  have hn : ¬ (wait = [] ∧ ow = true) := fun hh => by
    rcases hw with h | h
    · exact h hh.1
    · rw [h] at hh; cases hh.2
  rw [h, outP, if_neg hn, pkL_get, List.getElem?_take] at h1
  split at h1
  · cases hb : wait[j]? with
    | none => rw [hb] at h1; cases h1
    | some b =>
      rw [hb] at h1
      simp only [Option.map_some, Option.some.injEq, Prod.mk.injEq, Nat.zero_add] at h1
      exact ⟨h1.1.symm, h1.2.1.symm, by rw [h1.2.2]⟩
  · cases h1
theorem outP_length {l : List PK} {w acked got : Int} {wait : List (List UInt8)} {ow : Bool} (h : l.map PK.p = outP w acked got wait ow) (hw : wait ≠ [] ∨ ow = false) : l.length = min w.toNat wait.length := by
  have hn : ¬ (wait = [] ∧ ow = true) := fun hh => by
    rcases hw with h | h
    · exact h hh.1
    · rw [h] at hh; cases hh.2
  have := congrArg List.length h
  rw [List.length_map, outP, if_neg hn, pkL_len, List.length_take] at this
  exact this
section
variable {W0 : World} {L : List HP}
theorem Send_no {p : Nat} {v : Value} {b : List UInt8} {w acked got : Int} {wait : List (List UInt8)} {held : List (Int × SB)} {ow : Bool} (hv : Src L eB v b) (hno : 65536 < b.length ∨ 1000 ≤ wait.length) :
    CT Try.prog 13 #[.pointer (some ⟨p, 0, none⟩), v] W0 (endo p w acked got wait held ow :: L) fun r L' => r = .int .i64 4 ∧ L' = endo p w acked got wait held ow :: L := by
  have hv : Sc L v eB b := ⟨hv⟩
  refine endo_ct fun A c bm hc => ?_
  refine CT_fact (fun w s => ((Sc.pf : Src _ eB v b).sl s).form) ?_
  rintro ⟨A0, c0, rfl, hc0⟩
  refine CT_enter Try.func13 rfl ?_; (simp only [Try.ntmps13, List.size_toArray, List.length_cons, List.length_nil, Nat.reduceAdd, Nat.reduceSub, Array.replicate_succ, Array.replicate_zero, List.push_toArray, List.append_toArray, List.nil_append, List.cons_append])
  by_cases h : 65536 < b.length
  · repeat' (first | refine go ?_ | intro _ | (apply cG; first | refine cT ?_ | refine cF ?_ | refine cS (fun _ => ?_) fun _ => ?_) | (apply gW; refine sW ?_) | (apply gI; refine sI ?_) | (apply gE; refine sE ?_) | (apply gP; refine sP ?_) | (apply gC; refine sC ?_) | (apply gD; refine sD ?_) | fail)
    refine E_sub (S := cel p [.int .i64 w, .slice A wait.length c, .int .i64 acked, .int .i64 got, .map (some bm), .bool ow] 85 :: own 31 (eSl eB) (.slice A wait.length c) wait :: mapo mSB bm held :: L) Sb ?_
    refine E_sub endo_sub ?_
    refine E_res1 (by rfl) (by rfl) ⟨rfl, rfl⟩ Sb
  · have h2 : 1000 ≤ wait.length := by omega
    repeat' (first | refine go ?_ | intro _ | (apply cG; first | refine cT ?_ | refine cF ?_ | refine cS (fun _ => ?_) fun _ => ?_) | (apply gW; refine sW ?_) | (apply gI; refine sI ?_) | (apply gE; refine sE ?_) | (apply gP; refine sP ?_) | (apply gC; refine sC ?_) | (apply gD; refine sD ?_) | fail)
    refine E_sub (S := cel p [.int .i64 w, .slice A wait.length c, .int .i64 acked, .int .i64 got, .map (some bm), .bool ow] 85 :: own 31 (eSl eB) (.slice A wait.length c) wait :: mapo mSB bm held :: L) Sb ?_
    refine E_sub endo_sub ?_
    refine E_res1 (by rfl) (by rfl) ⟨rfl, rfl⟩ Sb
theorem Send_noe {p : Nat} {e : PE} {v : Value} {b : List UInt8} (hv : Src L eB v b) (hno : 65536 < b.length ∨ 1000 ≤ e.wait.length) :
    CT Try.prog 13 #[.pointer (some ⟨p, 0, none⟩), v] W0 (ende p e :: L) fun r L' => r = .int .i64 4 ∧ L' = ende p e :: L := Send_no hv hno
theorem ChannelWindow_ct {window many ack : Int} (hw1 : -9223372036854775808 ≤ window) (hw2 : window ≤ 9223372036854775807) (hm1 : -9223372036854775808 ≤ many) (hm2 : many ≤ 9223372036854775807) (ha1 : -9223372036854775808 ≤ ack) (ha2 : ack ≤ 9223372036854775807) :
    CT Try.prog 6 #[.int .i64 window, .int .i64 many, .int .i64 ack] W0 L fun r L' => r = .bool true ∧ L' = L := by
  refine CT_enter Try.func6 rfl ?_; (simp only [Try.ntmps6, List.size_toArray, List.length_cons, List.length_nil, Nat.reduceAdd, Nat.reduceSub, Array.replicate_succ, Array.replicate_zero, List.push_toArray, List.append_toArray, List.nil_append, List.cons_append])
  by_cases hwin : window < 1 ∨ 16 < window
  · repeat' (first | refine go ?_ | intro _ | (apply cG; first | refine cT ?_ | refine cF ?_ | refine cS (fun _ => ?_) fun _ => ?_) | (apply gW; refine sW ?_) | (apply gI; refine sI ?_) | (apply gE; refine sE ?_) | (apply gP; refine sP ?_) | (apply gC; refine sC ?_) | (apply gD; refine sD ?_) | fail)
    refine O_d (dy_call ArgsI.pf (by first | exact rfl | trivial | (intro a b; rfl)) (New_no ⟨hw1, hw2⟩ hwin)) ?_; rintro _ _ ⟨_, ⟨rfl, hLL⟩, rfl⟩; replace hLL := hLL.symm; subst hLL; refine O_n ?_
    by_cases h1 : window < 1
    · repeat' (first | refine go ?_ | intro _ | (apply cG; first | refine cT ?_ | refine cF ?_ | refine cS (fun _ => ?_) fun _ => ?_) | (apply gW; refine sW ?_) | (apply gI; refine sI ?_) | (apply gE; refine sE ?_) | (apply gP; refine sP ?_) | (apply gC; refine sC ?_) | (apply gD; refine sD ?_) | fail)
      refine O_d (dy_call ArgsI.pf (by first | exact rfl | trivial | (intro a b; rfl)) (lives_ct)) ?_; rintro _ _ ⟨_, ⟨rfl, hLL⟩, rfl⟩; replace hLL := hLL.symm; subst hLL; refine O_n ?_
      repeat' (first | refine go ?_ | intro _ | (apply cG; first | refine cT ?_ | refine cF ?_ | refine cS (fun _ => ?_) fun _ => ?_) | (apply gW; refine sW ?_) | (apply gI; refine sI ?_) | (apply gE; refine sE ?_) | (apply gP; refine sP ?_) | (apply gC; refine sC ?_) | (apply gD; refine sD ?_) | fail)
      refine E_res1 (by rfl) (by rfl) ⟨rfl, rfl⟩ Sb
    · repeat' (first | refine go ?_ | intro _ | (apply cG; first | refine cT ?_ | refine cF ?_ | refine cS (fun _ => ?_) fun _ => ?_) | (apply gW; refine sW ?_) | (apply gI; refine sI ?_) | (apply gE; refine sE ?_) | (apply gP; refine sP ?_) | (apply gC; refine sC ?_) | (apply gD; refine sD ?_) | fail)
      refine O_d (dy_call ArgsI.pf (by first | exact rfl | trivial | (intro a b; rfl)) (lives_ct)) ?_; rintro _ _ ⟨_, ⟨rfl, hLL⟩, rfl⟩; replace hLL := hLL.symm; subst hLL; refine O_n ?_
      repeat' (first | refine go ?_ | intro _ | (apply cG; first | refine cT ?_ | refine cF ?_ | refine cS (fun _ => ?_) fun _ => ?_) | (apply gW; refine sW ?_) | (apply gI; refine sI ?_) | (apply gE; refine sE ?_) | (apply gP; refine sP ?_) | (apply gC; refine sC ?_) | (apply gD; refine sD ?_) | fail)
      refine E_res1 (by rfl) (by rfl) ⟨rfl, rfl⟩ Sb
  have hwa : 1 ≤ window := by omega
  have hwb : window ≤ 16 := by omega
  repeat' (first | refine go ?_ | intro _ | (apply cG; first | refine cT ?_ | refine cF ?_ | refine cS (fun _ => ?_) fun _ => ?_) | (apply gW; refine sW ?_) | (apply gI; refine sI ?_) | (apply gE; refine sE ?_) | (apply gP; refine sP ?_) | (apply gC; refine sC ?_) | (apply gD; refine sD ?_) | fail)
  refine O_d (dy_call ArgsI.pf (by first | exact rfl | trivial | (intro a b; rfl)) (New_e (w := window) hwa hwb)) ?_; rintro _ _ ⟨_, ⟨p, rfl, rfl⟩, rfl⟩; refine O_n ?_
  repeat' (first | refine go ?_ | intro _ | (apply cG; first | refine cT ?_ | refine cF ?_ | refine cS (fun _ => ?_) fun _ => ?_) | (apply gW; refine sW ?_) | (apply gI; refine sI ?_) | (apply gE; refine sE ?_) | (apply gP; refine sP ?_) | (apply gC; refine sC ?_) | (apply gD; refine sD ?_) | fail)
  refine O_d (dy_call ArgsI.pf (by first | exact rfl | trivial | (intro a b; rfl)) (Around_ct (most := 1003) hm1 hm2 (by omega) (by omega))) ?_; rintro _ _ ⟨_, ⟨rfl, hLL⟩, rfl⟩; replace hLL := hLL.symm; subst hLL; refine O_n ?_
  obtain ⟨n, hn, hn2⟩ : ∃ n : Nat, around many 1003 = (n : Int) ∧ n ≤ 1002 := by
    have := around_in (n := many) (most := 1003) (by omega)
    exact ⟨(around many 1003).toNat, by omega, by omega⟩
  rw [hn]
  repeat' (first | refine go ?_ | intro _ | (apply cG; first | refine cT ?_ | refine cF ?_ | refine cS (fun _ => ?_) fun _ => ?_) | (apply gW; refine sW ?_) | (apply gI; refine sI ?_) | (apply gE; refine sE ?_) | (apply gP; refine sP ?_) | (apply gC; refine sC ?_) | (apply gD; refine sD ?_) | fail)
  refine C_loopS (κ := Nat) [false, false, false, false, false, false, true, false, false, false, true, false, false, false, false, false, false, false, false, false, false, false, false, false, false, false, false, false, false, false, false, false, false, false, false, false, false, false, false, false, false, false, false, false, true, true, true, true, true, true, true, true, true, true, true, false, false, false, false, false, false, false, false, false, false, false, false, false, false, false, false, false, false, false, false, false, false, false, false, false, false, false, false, false, false, false, false, false, false, false, false, false, false, false, false, false, false, false, false, false, false, false, false, false, false, false, false, false, false, false, false, false, false, false, false, false, false, false, false, false, false, false, false, false, false, false, false, false, false, false, false, false, false, false, false, false, false, false, false, false, false, false, false, false, false, false, false, false, false] (fun k => [(10, .int .i64 (k : Int))]) (fun k => [(0, ende p ⟨window, 0, 0, List.replicate (min k 1000) [], [], false⟩)]) (fun k => k ≤ n) (fun k => n - k) 0 (Nat.zero_le _) ⟨rfl, trivial⟩ ?_
  rintro i u hi
  ((try dsimp only); refine C_n ?_; (try simp only [Nat.reduceAdd, Nat.zero_add]))
  by_cases hlt : i < n
  · repeat' (first | refine go ?_ | intro _ | (apply cG; first | refine cT ?_ | refine cF ?_ | refine cS (fun _ => ?_) fun _ => ?_) | (apply gW; refine sW ?_) | (apply gI; refine sI ?_) | (apply gE; refine sE ?_) | (apply gP; refine sP ?_) | (apply gC; refine sC ?_) | (apply gD; refine sD ?_) | fail)
    refine O_rdnil eB none 0 ?_
    by_cases h1000 : i < 1000
    · have hm0 : min i 1000 = i := by omega
      have hm3 : min (i + 1) 1000 = i + 1 := by omega
      rw [hm0]
      refine O_d (dy_call ArgsI.pf (by first | exact rfl | trivial | (intro a b; rfl)) (CT.pull (i := 1) (by rfl) (Send_e (b := []) (e' := ⟨window, 0, 0, List.replicate (i + 1) [], [], false⟩) Sc.pf (by decide) (by rw [List.length_replicate]; omega) (by rw [List.replicate_succ'])))) ?_; rintro _ _ ⟨_, ⟨rfl, rfl⟩, rfl⟩; refine O_n ?_
      repeat' (first | refine go ?_ | intro _ | (apply cG; first | refine cT ?_ | refine cF ?_ | refine cS (fun _ => ?_) fun _ => ?_) | (apply gW; refine sW ?_) | (apply gI; refine sI ?_) | (apply gE; refine sE ?_) | (apply gP; refine sP ?_) | (apply gC; refine sC ?_) | (apply gD; refine sD ?_) | fail)
      exact E_round (i + 1) hlt (by show n - (i + 1) < n - i; omega) ⟨rfl, trivial⟩ (by rw [hm3]; exact Sb)
    · have hm0 : min i 1000 = 1000 := by omega
      have hm3 : min (i + 1) 1000 = 1000 := by omega
      rw [hm0]
      refine O_d (dy_call ArgsI.pf (by first | exact rfl | trivial | (intro a b; rfl)) (CT.pull (i := 1) (by rfl) (Send_noe (b := []) Sc.pf (.inr (by rw [List.length_replicate]; exact Nat.le_refl _))))) ?_; rintro _ _ ⟨_, ⟨rfl, rfl⟩, rfl⟩; refine O_n ?_
      repeat' (first | refine go ?_ | intro _ | (apply cG; first | refine cT ?_ | refine cF ?_ | refine cS (fun _ => ?_) fun _ => ?_) | (apply gW; refine sW ?_) | (apply gI; refine sI ?_) | (apply gE; refine sE ?_) | (apply gP; refine sP ?_) | (apply gC; refine sC ?_) | (apply gD; refine sD ?_) | fail)
      exact E_round (i + 1) hlt (by show n - (i + 1) < n - i; omega) ⟨rfl, trivial⟩ (by rw [hm3]; exact Sb)
  obtain rfl : i = n := by omega
  obtain ⟨N, hN⟩ : ∃ N, min i 1000 = N := ⟨_, rfl⟩
  rw [hN]
  have hmin : (if (1000 : Int) < (i : Int) then 1000 else (i : Int)) = (N : Int) := by split <;> omega
  have hN1 : N ≤ 1000 := by omega
  repeat' (first | refine go ?_ | intro _ | (apply cG; first | refine cT ?_ | refine cF ?_ | refine cS (fun _ => ?_) fun _ => ?_) | fail)
  apply gW; refine sW (r := (N : Int)) ?_ hmin
  repeat' (first | refine go ?_ | intro _ | (apply cG; first | refine cT ?_ | refine cF ?_ | refine cS (fun _ => ?_) fun _ => ?_) | (apply gW; refine sW ?_) | (apply gI; refine sI ?_) | (apply gE; refine sE ?_) | (apply gP; refine sP ?_) | (apply gC; refine sC ?_) | (apply gD; refine sD ?_) | fail)
  refine O_d (dy_call ArgsI.pf (by first | exact rfl | trivial | (intro a b; rfl)) (Around_ct (most := (N : Int) + 1) ha1 ha2 (by omega) (by omega))) ?_; rintro _ _ ⟨_, ⟨rfl, hLL⟩, rfl⟩; replace hLL := hLL.symm; subst hLL; refine O_n ?_
  obtain ⟨k, hk, hk2⟩ : ∃ k : Nat, around ack ((N : Int) + 1) = (k : Int) ∧ k ≤ N := by
    have := around_in (n := ack) (most := (N : Int) + 1) (by omega)
    exact ⟨(around ack ((N : Int) + 1)).toNat, by omega, by omega⟩
  rw [hk]
  obtain ⟨W, hW⟩ : ∃ W, List.replicate N ([] : List UInt8) = W := ⟨_, rfl⟩
  have hWl : W.length = N := by rw [← hW, List.length_replicate]
  have hWb : ∀ x ∈ W, x.length ≤ 65536 := fun x hx => by
    rw [← hW] at hx
    rw [(List.mem_replicate.1 hx).2]; exact Nat.zero_le _
  rw [hW]
  have g0 : PE.good ⟨window, 0, 0, W, [], false⟩ := ⟨Int.le_refl _, by show (0 : Int) ≤ 1000000000000; decide, Int.le_refl _, by show (0 : Int) ≤ 1000000000000; decide, by show W.length ≤ 1000; omega, Nat.zero_le _⟩
  obtain ⟨M, hM⟩ : ∃ M, min window.toNat W.length = M := ⟨_, rfl⟩
  have hminM : (if window < (N : Int) then window else (N : Int)) = (M : Int) := by split <;> omega
  repeat' (first | refine go ?_ | intro _ | (apply cG; first | refine cT ?_ | refine cF ?_ | refine cS (fun _ => ?_) fun _ => ?_) | (apply gW; refine sW ?_) | (apply gI; refine sI ?_) | (apply gE; refine sE ?_) | (apply gP; refine sP ?_) | (apply gC; refine sC ?_) | (apply gD; refine sD ?_) | fail)
  refine C_loopS (κ := Nat) [false, false, false, false, false, false, true, false, false, false, false, false, true, true, true, false, false, false, false, false, false, false, false, false, false, false, false, false, false, false, false, false, false, false, false, false, false, false, false, false, false, false, false, false, false, false, false, false, false, false, false, false, false, false, false, false, false, false, false, false, false, true, true, true, true, true, true, true, true, true, true, true, true, true, true, true, true, true, true, true, true, true, true, true, true, true, true, true, true, true, true, true, true, true, true, false, false, false, false, false, false, false, false, false, false, false, false, false, false, false, false, false, false, false, false, false, false, false, false, false, false, false, false, false, false, false, false, false, false, false, false, false, false, false, false, false, false, false, false, false, false, false, false, false, false, false, false, false, false] (fun k => [(12, .int .i64 (k : Int))]) (fun k => []) (fun k => k ≤ 2) (fun k => 2 - k) 0 (by decide) ⟨rfl, trivial⟩ ?_
  rintro r u2 hr
  ((try dsimp only); refine C_n ?_; (try simp only [Nat.reduceAdd, Nat.zero_add]))
  by_cases hlt : r < 2
  · repeat' (first | refine go ?_ | intro _ | (apply cG; first | refine cT ?_ | refine cF ?_ | refine cS (fun _ => ?_) fun _ => ?_) | (apply gW; refine sW ?_) | (apply gI; refine sI ?_) | (apply gE; refine sE ?_) | (apply gP; refine sP ?_) | (apply gC; refine sC ?_) | (apply gD; refine sD ?_) | fail)
    refine O_d (dy_call ArgsI.pf (by first | exact rfl | trivial | (intro a b; rfl)) (CT.pull (i := 0) (by rfl) (Out_e (e' := ⟨window, 0, 0, W, [], false⟩) g0 hwa hwb hWb rfl))) ?_; rintro _ _ ⟨_, ⟨A1, c1, l, hl, rfl, rfl⟩, rfl⟩; refine O_n ?_
    have hll := outP_length hl (.inr rfl)
    dsimp only at hll
    rw [hM] at hll
    have hget := fun j x => outP_get (j := j) (x := x) hl (.inr rfl)
    dsimp only at hget
    repeat' (first | refine go ?_ | intro _ | (apply cG; first | refine cT ?_ | refine cF ?_ | refine cS (fun _ => ?_) fun _ => ?_) | fail)
    apply gW; refine sW (r := (M : Int)) ?_ hminM
    repeat' (first | refine go ?_ | intro _ | (apply cG; first | refine cT ?_ | refine cF ?_ | refine cS (fun _ => ?_) fun _ => ?_) | (apply gW; refine sW ?_) | (apply gI; refine sI ?_) | (apply gE; refine sE ?_) | (apply gP; refine sP ?_) | (apply gC; refine sC ?_) | (apply gD; refine sD ?_) | fail)
    refine C_loopS (κ := Nat) [false, false, false, false, false, false, true, false, false, false, false, false, false, false, true, false, false, false, false, false, false, false, false, false, false, false, false, false, false, false, false, false, false, false, false, false, false, false, false, false, false, false, false, false, false, false, false, false, false, false, false, false, false, false, false, false, false, false, false, false, false, false, false, false, false, false, false, false, false, false, false, false, false, true, true, true, true, true, true, true, true, true, true, true, true, true, true, true, true, true, true, true, true, true, true, false, false, false, false, false, false, false, false, false, false, false, false, false, false, false, false, false, false, false, false, false, false, false, false, false, false, false, false, false, false, false, false, false, false, false, false, false, false, false, false, false, false, false, false, false, false, false, false, false, false, false, false, false, false] (fun k => [(14, .int .i64 (k : Int))]) (fun k => []) (fun k => k ≤ l.length) (fun k => l.length - k) 0 (Nat.zero_le _) ⟨rfl, trivial⟩ ?_
    rintro j u3 hj
    ((try dsimp only); refine C_n ?_; (try simp only [Nat.reduceAdd, Nat.zero_add]))
    by_cases hjl : j < l.length
    · obtain ⟨x, hx⟩ : ∃ x, l[j]? = some x := ⟨_, List.getElem?_eq_getElem hjl⟩
      have hax : At l j x := ⟨hx⟩
      obtain ⟨hx1, hx2, _⟩ := hget j x hx
      repeat' (first | refine go ?_ | intro _ | (apply cG; first | refine cT ?_ | refine cF ?_ | refine cS (fun _ => ?_) fun _ => ?_) | (apply gW; refine sW ?_) | (apply gI; refine sI ?_) | (apply gE; refine sE ?_) | (apply gP; refine sP ?_) | (apply gC; refine sC ?_) | (apply gD; refine sD ?_) | fail)
      exact E_round (j + 1) hjl (by show l.length - (j + 1) < l.length - j; omega) ⟨rfl, trivial⟩ Sb
    obtain rfl : j = l.length := by omega
    repeat' (first | refine go ?_ | intro _ | (apply cG; first | refine cT ?_ | refine cF ?_ | refine cS (fun _ => ?_) fun _ => ?_) | (apply gW; refine sW ?_) | (apply gI; refine sI ?_) | (apply gE; refine sE ?_) | (apply gP; refine sP ?_) | (apply gC; refine sC ?_) | (apply gD; refine sD ?_) | fail)
    exact E_round (r + 1) hlt (by show 2 - (r + 1) < 2 - r; omega) ⟨rfl, trivial⟩ Sb
  obtain rfl : r = 2 := by omega
  repeat' (first | refine go ?_ | intro _ | (apply cG; first | refine cT ?_ | refine cF ?_ | refine cS (fun _ => ?_) fun _ => ?_) | (apply gW; refine sW ?_) | (apply gI; refine sI ?_) | (apply gE; refine sE ?_) | (apply gP; refine sP ?_) | (apply gC; refine sC ?_) | (apply gD; refine sD ?_) | fail)
  refine O_rdnil eB none 0 ?_
  refine O_d (dy_call ArgsI.pf (by first | exact rfl | trivial | (intro a b; rfl)) (CT.pull (i := 1) (by rfl) (In_ct (b := []) Sc.pf g0 (by decide)))) ?_; rintro _ _ ⟨_, ⟨A2, c2, x2, hx2, rfl, rfl⟩, rfl⟩; refine O_n ?_
  have hin1 : inP ⟨window, 0, 0, W, [], false⟩ 0 ((N : Int) + 1) x2 = (⟨window, 0, 0, W, [], false⟩, []) := by
    rw [inP, if_neg]
    intro h
    have := h.2.1
    dsimp only at this
    omega
  rw [hin1]
  dsimp only
  repeat' (first | refine go ?_ | intro _ | (apply cG; first | refine cT ?_ | refine cF ?_ | refine cS (fun _ => ?_) fun _ => ?_) | (apply gW; refine sW ?_) | (apply gI; refine sI ?_) | (apply gE; refine sE ?_) | (apply gP; refine sP ?_) | (apply gC; refine sC ?_) | (apply gD; refine sD ?_) | fail)
  refine O_d (dy_call ArgsI.pf (by first | exact rfl | trivial | (intro a b; rfl)) (CT.pull (i := 1) (by rfl) (Waiting_e))) ?_; rintro _ _ ⟨_, ⟨rfl, rfl⟩, rfl⟩; refine O_n ?_
  dsimp only
  rw [hWl]
  repeat' (first | refine go ?_ | intro _ | (apply cG; first | refine cT ?_ | refine cF ?_ | refine cS (fun _ => ?_) fun _ => ?_) | (apply gW; refine sW ?_) | (apply gI; refine sI ?_) | (apply gE; refine sE ?_) | (apply gP; refine sP ?_) | (apply gC; refine sC ?_) | (apply gD; refine sD ?_) | fail)
  refine O_d (dy_call ArgsI.pf (by first | exact rfl | trivial | (intro a b; rfl)) (CT.pull (i := 0) (by rfl) (In_ct (b := []) Sc.pf g0 (by decide)))) ?_; rintro _ _ ⟨_, ⟨A3, c3, x3, hx3, rfl, rfl⟩, rfl⟩; refine O_n ?_
  have hin2 : inP ⟨window, 0, 0, W, [], false⟩ 0 (k : Int) x3 = (⟨window, k, 0, W.drop k, [], false⟩, []) := by
    rw [inP, if_pos ⟨⟨Int.le_refl _, by omega, by rw [hx3]; exact Nat.zero_le _, .inr (by rw [hx3]; rfl)⟩, by dsimp only; omega, by show (0 : Int) ≤ 0 + 16; decide⟩, if_pos rfl]
    have e1 : max (0 : Int) (k : Int) = k := by omega
    have e2 : ((k : Int) - 0).toNat = k := by omega
    dsimp only
    rw [e1, e2]
  rw [hin2]
  dsimp only
  obtain ⟨W2, hW2⟩ : ∃ W2, W.drop k = W2 := ⟨_, rfl⟩
  have hW2l : W2.length = N - k := by rw [← hW2, List.length_drop]; omega
  have hW2b : ∀ x ∈ W2, x.length ≤ 65536 := fun x hx => by
    rw [← hW2] at hx
    exact hWb x (List.mem_of_mem_drop hx)
  rw [hW2]
  have g2 : PE.good ⟨window, k, 0, W2, [], false⟩ := ⟨by show (0 : Int) ≤ k; omega, by show (k : Int) ≤ 1000000000000; omega, Int.le_refl _, by show (0 : Int) ≤ 1000000000000; decide, by show W2.length ≤ 1000; omega, Nat.zero_le _⟩
  repeat' (first | refine go ?_ | intro _ | (apply cG; first | refine cT ?_ | refine cF ?_ | refine cS (fun _ => ?_) fun _ => ?_) | (apply gW; refine sW ?_) | (apply gI; refine sI ?_) | (apply gE; refine sE ?_) | (apply gP; refine sP ?_) | (apply gC; refine sC ?_) | (apply gD; refine sD ?_) | fail)
  refine O_d (dy_call ArgsI.pf (by first | exact rfl | trivial | (intro a b; rfl)) (CT.pull (i := 1) (by rfl) (Out_e (e' := ⟨window, k, 0, W2, [], false⟩) g2 hwa hwb hW2b rfl))) ?_; rintro _ _ ⟨_, ⟨A4, c4, l, hl, rfl, rfl⟩, rfl⟩; refine O_n ?_
  have hll := outP_length hl (.inr rfl)
  dsimp only at hll
  have hget := fun x => outP_get (j := 0) (x := x) hl (.inr rfl)
  dsimp only at hget
  have hminM2 : (if window < (N : Int) - (k : Int) then window else (N : Int) - (k : Int)) = (l.length : Int) := by split <;> omega
  repeat' (first | refine go ?_ | intro _ | (apply cG; first | refine cT ?_ | refine cF ?_ | refine cS (fun _ => ?_) fun _ => ?_) | (apply gW; refine sW ?_) | (apply gI; refine sI ?_) | (apply gE; refine sE ?_) | (apply gP; refine sP ?_) | (apply gC; refine sC ?_) | (apply gD; refine sD ?_) | fail)
  refine O_d (dy_call ArgsI.pf (by first | exact rfl | trivial | (intro a b; rfl)) (CT.pull (i := 1) (by rfl) (Waiting_e))) ?_; rintro _ _ ⟨_, ⟨rfl, rfl⟩, rfl⟩; refine O_n ?_
  dsimp only
  rw [hW2l]
  repeat' (first | refine go ?_ | intro _ | (apply cG; first | refine cT ?_ | refine cF ?_ | refine cS (fun _ => ?_) fun _ => ?_) | fail)
  apply gW; refine sW (r := (N : Int) - (k : Int)) ?_
  have hnk : ((N - k : Nat) : Int) = (N : Int) - (k : Int) := by omega
  repeat' (first | refine go ?_ | intro _ | (apply cG; first | refine cT ?_ | refine cF ?_ | refine cS (fun _ => ?_) fun _ => ?_) | fail)
  apply gW; refine sW (r := (N : Int) - (k : Int)) ?_
  repeat' (first | refine go ?_ | intro _ | (apply cG; first | refine cT ?_ | refine cF ?_ | refine cS (fun _ => ?_) fun _ => ?_) | fail)
  apply gW; refine sW (r := (l.length : Int)) ?_ hminM2
  by_cases h0 : l.length = 0
  · repeat' (first | refine go ?_ | intro _ | (apply cG; first | refine cT ?_ | refine cF ?_ | refine cS (fun _ => ?_) fun _ => ?_) | (apply gW; refine sW ?_) | (apply gI; refine sI ?_) | (apply gE; refine sE ?_) | (apply gP; refine sP ?_) | (apply gC; refine sC ?_) | (apply gD; refine sD ?_) | fail)
    refine O_d (dy_make (f := bv) (hf := fun _ => rfl) (0 : UInt8) (n := 65537) (by rfl) Ev.pf Ev.pf (by decide) (by decide)) ?_; rintro _ _ ⟨_, rfl, rfl⟩; refine O_n ?_
    refine O_d (dy_call ArgsI.pf (by first | exact rfl | trivial | (intro a b; rfl)) (CT.pull (i := 1) (by rfl) (Send_noe (b := List.replicate 65537 0) Sc.pf (.inl (by rw [List.length_replicate]; decide))))) ?_; rintro _ _ ⟨_, ⟨rfl, rfl⟩, rfl⟩; refine O_n ?_
    repeat' (first | refine go ?_ | intro _ | (apply cG; first | refine cT ?_ | refine cF ?_ | refine cS (fun _ => ?_) fun _ => ?_) | (apply gW; refine sW ?_) | (apply gI; refine sI ?_) | (apply gE; refine sE ?_) | (apply gP; refine sP ?_) | (apply gC; refine sC ?_) | (apply gD; refine sD ?_) | fail)
    refine O_d (dy_call ArgsI.pf (by first | exact rfl | trivial | (intro a b; rfl)) (lives_ct)) ?_; rintro _ _ ⟨_, ⟨rfl, hLL⟩, rfl⟩; replace hLL := hLL.symm; subst hLL; refine O_n ?_
    repeat' (first | refine go ?_ | intro _ | (apply cG; first | refine cT ?_ | refine cF ?_ | refine cS (fun _ => ?_) fun _ => ?_) | (apply gW; refine sW ?_) | (apply gI; refine sI ?_) | (apply gE; refine sE ?_) | (apply gP; refine sP ?_) | (apply gC; refine sC ?_) | (apply gD; refine sD ?_) | fail)
    refine E_res1 (by rfl) (by rfl) ⟨rfl, rfl⟩ Sb
  · obtain ⟨x, hx⟩ : ∃ x, l[0]? = some x := ⟨_, List.getElem?_eq_getElem (by omega)⟩
    have hax : At l 0 x := ⟨hx⟩
    obtain ⟨hx1, _, _⟩ := hget x hx
    repeat' (first | refine go ?_ | intro _ | (apply cG; first | refine cT ?_ | refine cF ?_ | refine cS (fun _ => ?_) fun _ => ?_) | (apply gW; refine sW ?_) | (apply gI; refine sI ?_) | (apply gE; refine sE ?_) | (apply gP; refine sP ?_) | (apply gC; refine sC ?_) | (apply gD; refine sD ?_) | fail)
    refine O_d (dy_make (f := bv) (hf := fun _ => rfl) (0 : UInt8) (n := 65537) (by rfl) Ev.pf Ev.pf (by decide) (by decide)) ?_; rintro _ _ ⟨_, rfl, rfl⟩; refine O_n ?_
    refine O_d (dy_call ArgsI.pf (by first | exact rfl | trivial | (intro a b; rfl)) (CT.pull (i := 1) (by rfl) (Send_noe (b := List.replicate 65537 0) Sc.pf (.inl (by rw [List.length_replicate]; decide))))) ?_; rintro _ _ ⟨_, ⟨rfl, rfl⟩, rfl⟩; refine O_n ?_
    repeat' (first | refine go ?_ | intro _ | (apply cG; first | refine cT ?_ | refine cF ?_ | refine cS (fun _ => ?_) fun _ => ?_) | (apply gW; refine sW ?_) | (apply gI; refine sI ?_) | (apply gE; refine sE ?_) | (apply gP; refine sP ?_) | (apply gC; refine sC ?_) | (apply gD; refine sD ?_) | fail)
    refine O_d (dy_call ArgsI.pf (by first | exact rfl | trivial | (intro a b; rfl)) (lives_ct)) ?_; rintro _ _ ⟨_, ⟨rfl, hLL⟩, rfl⟩; replace hLL := hLL.symm; subst hLL; refine O_n ?_
    repeat' (first | refine go ?_ | intro _ | (apply cG; first | refine cT ?_ | refine cF ?_ | refine cS (fun _ => ?_) fun _ => ?_) | (apply gW; refine sW ?_) | (apply gI; refine sI ?_) | (apply gE; refine sE ?_) | (apply gP; refine sP ?_) | (apply gC; refine sC ?_) | (apply gD; refine sD ?_) | fail)
    refine E_res1 (by rfl) (by rfl) ⟨rfl, rfl⟩ Sb
theorem ChannelWindow_any {window many ack : Int} {w : World} (hw1 : -9223372036854775808 ≤ window) (hw2 : window ≤ 9223372036854775807) (hm1 : -9223372036854775808 ≤ many) (hm2 : many ≤ 9223372036854775807) (ha1 : -9223372036854775808 ≤ ack) (ha2 : ack ≤ 9223372036854775807) :
    Calls Try.prog 6 #[.int .i64 window, .int .i64 many, .int .i64 ack] w fun e w' => e = .returned (.bool true) ∧ Below w.heap.size w w' :=
  ((ChannelWindow_ct (W0 := w) hw1 hw2 hm1 hm2 ha1 ha2).run w (St.init w)).mono fun e w' h => by
    obtain ⟨v, L', rfl, ⟨rfl, rfl⟩, s⟩ := h
    exact ⟨rfl, s.below⟩
end
end Go.Proofs.Ythbgmnoaaohbcaa
namespace Go.Proofs.Ythbgmnoaaohbcaa
open Go Go.RowKit
set_option linter.unusedVariables false
set_option linter.unusedSimpArgs false
def toB (n : Int) : UInt8 := UInt8.ofNat n.toNat
theorem toB_wf {n : Int} (h : (Lit.int .u8 n).wf = true) : ((toB n).toNat : Int) = n := by
  simp [Lit.wf, IntKind.min, IntKind.max, IntKind.signed, IntKind.bits] at h
  unfold toB
  simp
  omega
/-- a row of numbers of one kind, said as the rows' proofs say it -/
theorem row_sl {α : Type} {f : α → Value} {hf : ∀ a, (f a).oneCell' = true} {k : IntKind} {w : World} {a : Option Addr} {len cap : Nat} {zs : List Int} {l : List α} (hl : l.map f = (zs.take len).map (Value.int k)) (hz : zs.length = cap) (hlc : len ≤ cap)
    {x : Addr} (ha : a = some x) (hcell : ∀ i, i < zs.length → w.cell? (x.add i) = some (.int k (zs.getD i 0))) : Sl (Hp.of w) (e1 f hf) (.slice a len cap) l := by
  have hlen : l.length = len := by
    have := congrArg List.length hl
    simp at this
    omega
  subst hlen
  refine ⟨a, cap, l.map fun b => [f b], rfl, hlc, all2_e1.2 rfl, ?_⟩
  by_cases h0 : l = []
  · exact .inl h0
  · right
    have hpos : 0 < l.length := List.length_pos_iff.2 h0
    obtain ⟨b, off, spot⟩ := x
    have h1 := hcell 0 (by omega)
    have hspot : spot = none := by simpa [Addr.add] using World.cell?_spot h1
    subst hspot
    rw [flat_one]
    have hb : ∃ cs t fr, w.heap[b]? = some (.cells cs t fr) := by
      unfold World.cell? at h1
      simp only [Addr.add] at h1
      split at h1
      · rename_i cs t fr he; exact ⟨cs, t, fr, he⟩
      · cases h1
    obtain ⟨cs, t, fr, hb⟩ := hb
    refine ⟨b, off, cs, t, fr, ha, hb, ?_⟩
    intro j u hj
    rw [hl] at hj
    have hjl : j < l.length := by
      have := (List.getElem?_eq_some_iff.1 hj).1
      simp at this
      omega
    have h2 := hcell j (by omega)
    have h3 : w.cell? ⟨b, off + j, none⟩ = some (.int k (zs.getD j 0)) := by
      have e : (Addr.add ⟨b, off, none⟩ j) = ⟨b, off + j, none⟩ := by
        by_cases hj0 : j = 0
        · subst hj0; rfl
        · simp [Addr.add, hj0]
      rw [e] at h2
      exact h2
    have h4 : cs[off + j]? = some (.int k (zs.getD j 0)) := by simpa [World.cell?, hb] using h3
    rw [h4]
    rw [List.getElem?_map, List.getElem?_take, if_pos hjl] at hj
    rw [List.getD_eq_getElem?_getD]
    cases hzz : zs[j]? with
    | none => rw [hzz] at hj; cases hj
    | some z => rw [hzz] at hj; simpa using hj
theorem row_i64 {w : World} {a : Option Addr} {len cap : Nat} {zs : List Int} (h : (a = none ∧ len = 0 ∧ cap = 0 ∧ zs = []) ∨
    ∃ x, a = some x ∧ len ≤ cap ∧ cap ≤ maxLen ∧ zs.length = cap ∧ (∀ i, i < zs.length → w.cell? (x.add i) = some (.int .i64 (zs.getD i 0))) ∧ ∀ n ∈ zs, (Lit.int .i64 n).wf = true) :
    ∃ l : List Int, Sl (Hp.of w) eI (.slice a len cap) l ∧ l.length = len ∧ len ≤ 9223372036854775807 ∧ ∀ n ∈ l, -9223372036854775808 ≤ n ∧ n ≤ 9223372036854775807 := by
  rcases h with ⟨rfl, rfl, rfl, rfl⟩ | ⟨x, ha, hl, hm, hz, hc, hw⟩
  · exact ⟨[], ⟨none, 0, [], rfl, Nat.le_refl _, trivial, .inl rfl⟩, rfl, by omega, by simp⟩
  · unfold maxLen at hm
    refine ⟨zs.take len, row_sl rfl hz hl ha hc, by simp; omega, by omega, fun n hn => ?_⟩
    have := hw n (List.mem_of_mem_take hn)
    simpa [Lit.wf, IntKind.min, IntKind.max, IntKind.signed, IntKind.bits] using this
theorem row_u8 {w : World} {a : Option Addr} {len cap : Nat} {zs : List Int} (h : (a = none ∧ len = 0 ∧ cap = 0 ∧ zs = []) ∨
    ∃ x, a = some x ∧ len ≤ cap ∧ cap ≤ maxLen ∧ zs.length = cap ∧ (∀ i, i < zs.length → w.cell? (x.add i) = some (.int .u8 (zs.getD i 0))) ∧ ∀ n ∈ zs, (Lit.int .u8 n).wf = true) :
    ∃ l : List UInt8, Sl (Hp.of w) eB (.slice a len cap) l ∧ l.length = len ∧ len ≤ 9223372036854775807 := by
  rcases h with ⟨rfl, rfl, rfl, rfl⟩ | ⟨x, ha, hl, hm, hz, hc, hw⟩
  · exact ⟨[], ⟨none, 0, [], rfl, Nat.le_refl _, trivial, .inl rfl⟩, rfl, by omega⟩
  · unfold maxLen at hm
    refine ⟨(zs.take len).map toB, row_sl ?_ hz hl ha hc, by simp; omega, by omega⟩
    rw [List.map_map]
    refine List.map_congr_left fun n hn => ?_
    show bv (toB n) = _
    rw [bv, toB_wf (hw n (List.mem_of_mem_take hn))]
theorem St.mem_ {W : World} {α : Type} {R : Enc α} {v : Value} {l : List α} {L : List HP} (h : Sl (Hp.of W) R v l) (hS : St W W L) : St W W (Go.Proofs.Ythbgmnoaaohbcaa.rd R v l :: L) := hS.old h
end Go.Proofs.Ythbgmnoaaohbcaa
