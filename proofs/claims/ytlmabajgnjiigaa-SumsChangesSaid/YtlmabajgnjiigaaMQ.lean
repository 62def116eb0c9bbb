/-
  Sums: the reference's Cover.
-/
import Derived.Test.YtlmabajgnjiigaaMP
import Derived.Test.YtlmabajgnjiigaaMN
namespace Go.Proofs.Ytlmabajgnjiigaa
open Go Go.RowKit
set_option linter.unusedVariables false
set_option linter.unusedSimpArgs false
set_option maxRecDepth 20000
set_option synthInstance.maxSize 100000
set_option synthInstance.maxHeartbeats 400000
instance svc_pair {P : Program} {W0 : World} {S : List HP} {a : Act} {d : Option Tmp} {ty t et : TypeId} {pos : String} {aft : Array Edge} {gd : Option (Nat × Bool)} {by_ by2 : Nat} {x y : Operand} {i j : Int} [hk : UL P t (.array 2 et)] [hu : UL P et (.int .i64)] [ti : TI P et (.int .i64 0) 1 by_] [tk : TI P t (.agg #[.int .i64 0, .int .i64 0]) 2 by2] [h1 : Ev a x (.int .i64 i)] [h2 : Ev a y (.int .i64 j)] : SVc P W0 S ⟨d, .build t #[(0, x), (1, y)], ty, pos, aft, gd⟩ a (.agg #[.int .i64 i, .int .i64 j]) :=
  ⟨sv_buildA hk.pf (fun w => sizeOf_run w) (fun w => zero_run w) (by simp [h1.pf, h2.pf]; rfl)⟩
def ePr : Enc (Int × Int) :=
  ⟨2, fun m b cs => cs = [.int .i64 b.1, .int .i64 b.2], fun hm e => e, fun e => by subst e; rfl,
    fun {_ x _} e u hu => by
      subst e
      simp only [List.mem_cons, List.not_mem_nil, or_false] at hu
      rcases hu with rfl | rfl <;> rfl⟩
instance : Sz ePr 2 := ⟨rfl⟩
instance {b : Int × Int} : EncC ePr b [.int .i64 b.1, .int .i64 b.2] := ⟨fun _ _ h => h⟩
/-- what is covered, and what is left -/
abbrev CS := List (Int × Int) × List Int
def covSt (F : List Int) (G : List (List Int)) (s g : Int) (c : CS) : CS :=
  if 0 < (mbrF F G s g).length ∧ (mbrF F G s g).all (memB c.2) = true then (c.1 ++ [(s, g)], wthF c.2 (mbrF F G s g)) else c
def covG (F : List Int) (G : List (List Int)) (s : Int) : Nat → CS → CS
  | 0, c => c
  | n + 1, c => covSt F G s (n : Int) (covG F G s n c)
/-- the last n scales are done in turn -/
def covS (F : List Int) (G : List (List Int)) : Nat → CS → CS
  | 0, c => c
  | n + 1, c => covS F G n (covG F G (n : Int) F.length c)
def covF (F : List Int) (G : List (List Int)) (l : List Int) : List (Int × Int) := (covS F G G.length ([], l)).1 ++ (covS F G G.length ([], l)).2.map fun a => (-1, a)
def incF : List Int → Bool
  | a :: b :: r => decide (a < b) && incF (b :: r)
  | _ => true
theorem incF_drop {l : List Int} {i : Nat} {a b : Int} (ha : l[i]? = some a) (hb : l[i + 1]? = some b) : incF (l.drop i) = (decide (a < b) && incF (l.drop (i + 1))) := by
  have h1 : l.drop i = a :: l.drop (i + 1) := (List.drop_eq_getElem_cons (List.getElem?_eq_some_iff.1 ha).1).trans (by rw [(List.getElem?_eq_some_iff.1 ha).2])
  have h2 : l.drop (i + 1) = b :: l.drop (i + 1 + 1) := (List.drop_eq_getElem_cons (List.getElem?_eq_some_iff.1 hb).1).trans (by rw [(List.getElem?_eq_some_iff.1 hb).2])
  rw [h1, h2]
  rfl
theorem incF_end {l : List Int} {i : Nat} (h : l.length ≤ i + 1) : incF (l.drop i) = true := by
  have : (l.drop i).length ≤ 1 := by rw [List.length_drop]; omega
  match hd : l.drop i, this with
  | [], _ => rfl
  | [_], _ => rfl
  | _ :: _ :: _, h => simp at h
theorem asc_gap {dd : List Int} (h : dd.Pairwise (· < ·)) {i : Nat} {x : Int} (hx : dd[i]? = some x) : ∀ (k : Nat) (y : Int), dd[i + k]? = some y → x + k ≤ y
  | 0, y, hy => by
    rw [Nat.add_zero, hx] at hy
    injection hy with hy
    omega
  | k + 1, y, hy => by
    obtain ⟨h2, rfl⟩ := List.getElem?_eq_some_iff.1 hy
    have := asc_gap h hx k _ (List.getElem?_eq_getElem (by omega))
    have := List.pairwise_iff_getElem.1 h (i + k) (i + (k + 1)) (by omega) h2 (by omega)
    omega
theorem incF_asc : ∀ {l : List Int}, incF l = true → l.Pairwise (· < ·)
  | [], _ => List.Pairwise.nil
  | [x], _ => List.pairwise_singleton _ _
  | x :: y :: r, h => by
    have h : (decide (x < y) && incF (y :: r)) = true := h
    rw [Bool.and_eq_true] at h
    have h1 := of_decide_eq_true h.1
    have h2 := incF_asc h.2
    refine List.pairwise_cons.2 ⟨fun z hz => ?_, h2⟩
    rcases List.mem_cons.1 hz with e | e
    · rw [e]; exact h1
    · have := (List.pairwise_cons.1 h2).1 z e
      omega
theorem asc_len {l : List Int} {n : Nat} (h : l.Pairwise (· < ·)) (hr : ∀ x ∈ l, 0 ≤ x ∧ x < (n : Int)) : l.length ≤ n := by
  cases hl : l.length with
  | zero => omega
  | succ m =>
    obtain ⟨a, ha⟩ : ∃ x, l[0]? = some x := ⟨_, List.getElem?_eq_getElem (by omega)⟩
    obtain ⟨b, hb⟩ : ∃ x, l[m]? = some x := ⟨_, List.getElem?_eq_getElem (by omega)⟩
    have h1 := asc_gap h ha m b (by rw [Nat.zero_add]; exact hb)
    have h2 := hr a (List.mem_of_getElem? ha)
    have h3 := hr b (List.mem_of_getElem? hb)
    omega
def inB (n : Nat) (x : Int) : Bool := decide (0 ≤ x ∧ x < (n : Int))
/-- the error of Cover -/
def covE (n : Nat) (l : List Int) : Int := if l.all (inB n) = true then (if incF l = true then 0 else 16) else 7
def covO (F : List Int) (G : List (List Int)) (n : Nat) (l : List Int) : List (Int × Int) := if covE n l = 0 then covF F G l else []
theorem wth_lt {l s : List Int} (h0 : 0 < s.length) (h : s.all (memB l) = true) : (wthF l s).length + 1 ≤ l.length := by
  obtain ⟨x, hx⟩ : ∃ x, x ∈ s := ⟨s[0], List.getElem_mem _⟩
  have hl : x ∈ l := of_decide_eq_true (List.all_eq_true.1 h x hx)
  unfold wthF
  have : (l.filter fun x => !memB s x).length < l.length := by
    refine List.length_filter_lt_length_iff_exists.2 ⟨x, hl, ?_⟩
    have : memB s x = true := decide_eq_true hx
    simp [this]
  omega
theorem RTin.c {t : RT} {A : HP} {L : List HP} (h : RTin t L) : RTin t (A :: L) := ⟨.tail _ h.cell, .tail _ h.u, .tail _ h.f, .tail _ h.g⟩
theorem mbrF_len {F : List Int} {G : List (List Int)} {s g : Int} : (mbrF F G s g).length ≤ F.length := by
  unfold mbrF
  split
  · exact memN_len _
  · exact Nat.zero_le _
theorem covSt_len {F : List Int} {G : List (List Int)} {s g : Int} {c : CS} : (covSt F G s g c).1.length + (covSt F G s g c).2.length ≤ c.1.length + c.2.length := by
  unfold covSt
  split
  · rename_i h
    have := wth_lt h.1 h.2
    dsimp only
    rw [List.length_append, List.length_cons, List.length_nil]
    omega
  · exact Nat.le_refl _
section
variable {W0 : World} {L : List HP}
set_option maxHeartbeats 4000000 in
theorem rCover_ct {t : RT} {A : Option Addr} {c : Nat} {l : List Int} {G : List (List Int)} (ht : RTin t L) (hxs : t.xs.map SX.b = G) (hF : t.F.length ≤ 1000000) (hR : ∀ x ∈ G, ∀ f ∈ t.F, 0 ≤ f ∧ f < (x.length : Int)) (hv : rd eI (.slice A l.length c) l ∈ L) (hl : l.length ≤ 9223372036854775807) (hU : t.U.length ≤ 1000000) (hG : G.length ≤ 1000000) :
    CT Try.prog 27 #[.pointer (some ⟨t.p, 0, none⟩), .slice A l.length c] W0 L fun r L' => ∃ A2 c2, r = .tuple #[.slice A2 (covO t.F G t.U.length l).length c2, .int .i64 (covE t.U.length l)] ∧ L' = own 43 ePr (.slice A2 (covO t.F G t.U.length l).length c2) (covO t.F G t.U.length l) :: L := by
  obtain ⟨p, A1, B1, C1, ca, cb, cc, U, F, xs⟩ := t
  have ht0 := ht
  obtain ⟨h1, h2, h3, h4⟩ := ht
  dsimp only at h1 h2 h3 h4 hxs hF hR hU ⊢
  have hxl : xs.length = G.length := by rw [← hxs, List.length_map]
  have hip : InC p L _ _ := ⟨h1⟩
  have hsF : ScA B1 L F.length cb eI F := ⟨.inl h3⟩
  have hsl : ScA A L l.length c eI l := ⟨.inl hv⟩
  have hS : Sub L [rd eI (.slice A l.length c) l, cel p [.slice A1 U.length ca, .slice B1 F.length cb, .slice C1 xs.length cc] 32] := Sub.trans (sub_dup hv) (sub_skip (sub_mem1 h1))
  have hS2 : Sub L [rd eI (.slice A l.length c) l] := sub_mem1 hv
  obtain ⟨e, he⟩ : ∃ e, covE U.length l = e := ⟨_, rfl⟩
  obtain ⟨o, ho⟩ : ∃ o, covO F G U.length l = o := ⟨_, rfl⟩
  rw [he, ho]
  refine CT_enter Try.func27 rfl ?_; (simp only [Try.ntmps27, List.size_toArray, List.length_cons, List.length_nil, Nat.reduceAdd, Nat.reduceSub, Array.replicate_succ, Array.replicate_zero, List.push_toArray, List.append_toArray, List.nil_append, List.cons_append])
  repeat' (first | refine go ?_ | intro _ | (apply cG; first | refine cT ?_ | refine cF ?_ | refine cS (fun _ => ?_) fun _ => ?_) | (apply gW; refine sW ?_) | (apply gI; refine sI ?_) | (apply gE; refine sE ?_) | (apply gP; refine sP ?_) | (apply gC; refine sC ?_) | (apply gD; refine sD ?_) | fail)
  refine C_loopS (κ := Nat) [false, false, false, false, true, true, true, false, false, false, false, false, false, false, false, true, true, true, true, true, true, true, true, true, true, true, true, true, true, true, true, true, true, true, true, true, true, true, false, false, false, false, false, false, false, false, false, false, false, false, false, false, false, false, false, false, false, false, false, false, false, false, false, false, false, false, false, false, false, false, false, false, false, false, false, false, false, false, false, false, false, false, false, false, false, false, false, false, false, false, false, false, false, false, false, false, false, false, false, false, false, false, false, false, false, false, false, false, false, false, false] (fun k => [(6, .int .i64 (k : Int))]) (fun k => []) (fun k => k ≤ l.length ∧ (l.drop k).all (inB U.length) = l.all (inB U.length)) (fun k => l.length - k) 0 ⟨Nat.zero_le _, rfl⟩ ⟨rfl, trivial⟩ ?_
  rintro i u ⟨hi, hf⟩
  ((try dsimp only); refine C_n ?_; (try simp only [Nat.reduceAdd, Nat.zero_add]))
  by_cases hil : i < l.length
  · obtain ⟨x, hx⟩ : ∃ x, l[i]? = some x := ⟨_, List.getElem?_eq_getElem (by omega)⟩
    have hax : At l i x := ⟨hx⟩
    rw [all_drop hx] at hf
    repeat' (first | refine go ?_ | intro _ | (apply cG; first | refine cT ?_ | refine cF ?_ | refine cS (fun _ => ?_) fun _ => ?_) | (apply gW; refine sW ?_) | (apply gI; refine sI ?_) | (apply gE; refine sE ?_) | (apply gP; refine sP ?_) | (apply gC; refine sC ?_) | (apply gD; refine sD ?_) | fail)
    refine C_draw (n := 99) [rd eI (.slice A l.length c) l, cel p [.slice A1 U.length ca, .slice B1 F.length cb, .slice C1 xs.length cc] 32] [(0, 1), (1, 1), (2, 1), (3, 1), (4, 1), (5, 1), (6, 1), (7, 1), (8, 1), (9, 1), (10, 1), (11, 1), (12, 1), (13, 1), (14, 1), (15, 1), (16, 1)] (by kernel_rfl) (by kernel_rfl) hS ?_
    by_cases hb : 0 ≤ x ∧ x < (U.length : Int)
    · have hb2 : inB U.length x = true := decide_eq_true hb
      rw [hb2, Bool.true_and] at hf
      obtain ⟨hb3, hb4⟩ := hb
      repeat' (first | refine go ?_ | intro _ | (apply cG; first | refine cT ?_ | refine cF ?_ | refine cS (fun _ => ?_) fun _ => ?_) | (apply gW; refine sW ?_) | (apply gI; refine sI ?_) | (apply gE; refine sE ?_) | (apply gP; refine sP ?_) | (apply gC; refine sC ?_) | (apply gD; refine sD ?_) | fail)
      exact E_round (i + 1) ⟨hil, hf⟩ (by omega) ⟨rfl, trivial⟩ Sb
    · have hb2 : inB U.length x = false := decide_eq_false hb
      rw [hb2, Bool.false_and] at hf
      have he7 : e = 7 := by rw [← he]; unfold covE; rw [← hf]; rfl
      have ho0 : o = [] := by rw [← ho]; unfold covO; rw [he, he7]; rfl
      subst he7 ho0
      by_cases h0 : x < 0
      · repeat' (first | refine go ?_ | intro _ | (apply cG; first | refine cT ?_ | refine cF ?_ | refine cS (fun _ => ?_) fun _ => ?_) | (apply gW; refine sW ?_) | (apply gI; refine sI ?_) | (apply gE; refine sE ?_) | (apply gP; refine sP ?_) | (apply gC; refine sC ?_) | (apply gD; refine sD ?_) | fail)
        refine E_ownnil 43 ePr ?_
        refine E_res2 (by rfl) (by rfl) ⟨none, 0, rfl, rfl⟩ Sb
      · have : (U.length : Int) ≤ x := by omega
        repeat' (first | refine go ?_ | intro _ | (apply cG; first | refine cT ?_ | refine cF ?_ | refine cS (fun _ => ?_) fun _ => ?_) | (apply gW; refine sW ?_) | (apply gI; refine sI ?_) | (apply gE; refine sE ?_) | (apply gP; refine sP ?_) | (apply gC; refine sC ?_) | (apply gD; refine sD ?_) | fail)
        refine E_ownnil 43 ePr ?_
        refine E_res2 (by rfl) (by rfl) ⟨none, 0, rfl, rfl⟩ Sb
  obtain rfl : i = l.length := by omega
  rw [List.drop_length] at hf
  have hall : l.all (inB U.length) = true := hf.symm
  repeat' (first | refine go ?_ | intro _ | (apply cG; first | refine cT ?_ | refine cF ?_ | refine cS (fun _ => ?_) fun _ => ?_) | (apply gW; refine sW ?_) | (apply gI; refine sI ?_) | (apply gE; refine sE ?_) | (apply gP; refine sP ?_) | (apply gC; refine sC ?_) | (apply gD; refine sD ?_) | fail)
  refine C_loopS (κ := Nat) [false, false, false, false, true, true, false, true, false, false, false, false, false, false, false, false, false, false, false, false, false, false, false, false, false, false, false, false, false, false, false, false, false, false, false, false, false, false, true, true, true, true, true, true, true, true, true, true, true, true, true, true, true, true, false, false, false, false, false, false, false, false, false, false, false, false, false, false, false, false, false, false, false, false, false, false, false, false, false, false, false, false, false, false, false, false, false, false, false, false, false, false, false, false, false, false, false, false, false, false, false, false, false, false, false, false, false, false, false, false, false] (fun k => [(7, .int .i64 (k : Int))]) (fun k => []) (fun k => 1 ≤ k ∧ incF (l.drop (k - 1)) = incF l) (fun k => l.length - k) 1 ⟨Nat.le_refl _, rfl⟩ ⟨rfl, trivial⟩ ?_
  rintro i u1 ⟨hi1, hf1⟩
  ((try dsimp only); refine C_n ?_; (try simp only [Nat.reduceAdd, Nat.zero_add]))
  by_cases hil1 : i < l.length
  · obtain ⟨n, rfl⟩ : ∃ n, i = n + 1 := ⟨i - 1, by omega⟩
    obtain ⟨x, hx⟩ : ∃ x, l[n]? = some x := ⟨_, List.getElem?_eq_getElem (by omega)⟩
    obtain ⟨y, hy⟩ : ∃ x, l[n + 1]? = some x := ⟨_, List.getElem?_eq_getElem (by omega)⟩
    have hax : At l n x := ⟨hx⟩
    have hay : At l (n + 1) y := ⟨hy⟩
    rw [Nat.add_sub_cancel, incF_drop hx hy] at hf1
    have en : ((n + 1 : Nat) : Int) - 1 = (n : Int) := by omega
    repeat' (first | refine go ?_ | intro _ | (apply cG; first | refine cT ?_ | refine cF ?_ | refine cS (fun _ => ?_) fun _ => ?_) | (apply gW; refine sW ?_) | (apply gI; refine sI ?_) | (apply gE; refine sE ?_) | (apply gP; refine sP ?_) | (apply gC; refine sC ?_) | (apply gD; refine sD ?_) | fail)
    refine C_draw (n := 99) [rd eI (.slice A l.length c) l] [(0, 1), (1, 1), (2, 1), (3, 1), (4, 1), (5, 1), (6, 1), (7, 1), (8, 1), (9, 1)] (by kernel_rfl) (by kernel_rfl) hS2 ?_
    by_cases hb : x < y
    · rw [decide_eq_true hb, Bool.true_and] at hf1
      repeat' (first | refine go ?_ | intro _ | (apply cG; first | refine cT ?_ | refine cF ?_ | refine cS (fun _ => ?_) fun _ => ?_) | (apply gW; refine sW ?_) | (apply gI; refine sI ?_) | (apply gE; refine sE ?_) | (apply gP; refine sP ?_) | (apply gC; refine sC ?_) | (apply gD; refine sD ?_) | fail)
      refine sE (r := x) ?_ (by show l[(((n + 1 : Nat) : Int) - 1).toNat]? = some x; rw [en, Int.toNat_natCast]; exact hx)
      repeat' (first | refine go ?_ | intro _ | (apply cG; first | refine cT ?_ | refine cF ?_ | refine cS (fun _ => ?_) fun _ => ?_) | (apply gW; refine sW ?_) | (apply gI; refine sI ?_) | (apply gE; refine sE ?_) | (apply gP; refine sP ?_) | (apply gC; refine sC ?_) | (apply gD; refine sD ?_) | fail)
      exact E_round (n + 1 + 1) ⟨by omega, hf1⟩ (by omega) ⟨rfl, trivial⟩ Sb
    · rw [decide_eq_false hb, Bool.false_and] at hf1
      have he7 : e = 16 := by rw [← he]; unfold covE; rw [hall, ← hf1]; rfl
      have ho0 : o = [] := by rw [← ho]; unfold covO; rw [he, he7]; rfl
      subst he7 ho0
      repeat' (first | refine go ?_ | intro _ | (apply cG; first | refine cT ?_ | refine cF ?_ | refine cS (fun _ => ?_) fun _ => ?_) | (apply gW; refine sW ?_) | (apply gI; refine sI ?_) | (apply gE; refine sE ?_) | (apply gP; refine sP ?_) | (apply gC; refine sC ?_) | (apply gD; refine sD ?_) | fail)
      refine sE (r := x) ?_ (by show l[(((n + 1 : Nat) : Int) - 1).toNat]? = some x; rw [en, Int.toNat_natCast]; exact hx)
      repeat' (first | refine go ?_ | intro _ | (apply cG; first | refine cT ?_ | refine cF ?_ | refine cS (fun _ => ?_) fun _ => ?_) | (apply gW; refine sW ?_) | (apply gI; refine sI ?_) | (apply gE; refine sE ?_) | (apply gP; refine sP ?_) | (apply gC; refine sC ?_) | (apply gD; refine sD ?_) | fail)
      refine E_ownnil 43 ePr ?_
      refine E_res2 (by rfl) (by rfl) ⟨none, 0, rfl, rfl⟩ Sb
  rw [incF_end (by omega)] at hf1
  have he7 : e = 0 := by rw [← he]; unfold covE; rw [hall, ← hf1]; rfl
  have ho0 : o = covF F G l := by rw [← ho]; unfold covO; rw [he, he7]; rfl
  subst he7
  have hinc9 : incF l = true := hf1.symm
  clear hi1 hf hf1
  rw [ho0]
  have hl9 : l.length ≤ 1000000 := by
    have := asc_len (incF_asc hinc9) (n := U.length) fun x hx => of_decide_eq_true (List.all_eq_true.1 hall x hx)
    omega
  clear ho0 ho he
  have hpl : ∀ {n : Nat} {st : CS}, (covG F G n F.length st).1.length + (covG F G n F.length st).2.length ≤ st.1.length + st.2.length := by
    intro n st
    have : ∀ k, (covG F G n k st).1.length + (covG F G n k st).2.length ≤ st.1.length + st.2.length := by
      intro k
      induction k with
      | zero => exact Nat.le_refl _
      | succ k ih => exact Nat.le_trans covSt_len ih
    exact this _
  repeat' (first | refine go ?_ | intro _ | (apply cG; first | refine cT ?_ | refine cF ?_ | refine cS (fun _ => ?_) fun _ => ?_) | (apply gW; refine sW ?_) | (apply gI; refine sI ?_) | (apply gE; refine sE ?_) | (apply gP; refine sP ?_) | (apply gC; refine sC ?_) | (apply gD; refine sD ?_) | fail)
  rw [hxl]
  refine C_ownnil 43 ePr ?_
  refine C_sub (S := own 43 ePr (.slice none 0 0) [] :: rd eI (.slice A l.length c) l :: L) (sub_skip (sub_dup hv)) ?_
  refine C_loopS (κ := Nat × CS × (Option Addr × Nat) × Option Addr × Nat) [false, false, false, false, false, false, false, false, true, true, true, true, true, true, false, false, false, false, false, false, false, false, false, false, false, false, false, false, false, false, false, false, false, false, false, false, false, false, false, false, false, false, false, false, false, false, false, false, false, false, false, false, false, false, false, false, false, false, false, false, false, true, true, true, true, true, true, true, true, true, true, true, true, true, true, true, true, true, true, true, true, true, true, true, true, true, true, true, true, true, true, true, true, true, true, true, false, false, false, false, false, false, false, false, false, false, false, false, false, false, false] (fun k => [(8, .slice k.2.2.1.1 k.2.1.1.length k.2.2.1.2), (9, .slice k.2.2.2.1 k.2.1.2.length k.2.2.2.2), (10, .int .i64 ((k.1 : Int) - 1))]) (fun k => [(0, own 43 ePr (.slice k.2.2.1.1 k.2.1.1.length k.2.2.1.2) k.2.1.1), (1, rd eI (.slice k.2.2.2.1 k.2.1.2.length k.2.2.2.2) k.2.1.2)]) (fun k => k.1 ≤ G.length ∧ k.2.1.1.length + k.2.1.2.length ≤ l.length ∧ covS F G k.1 k.2.1 = covS F G G.length ([], l)) (fun k => k.1) (G.length, ([], l), (none, 0), A, c) ⟨Nat.le_refl _, by simp, rfl⟩ ⟨rfl, rfl, rfl, trivial⟩ ?_
  rintro ⟨n, ⟨out, rest⟩, ⟨A2, c2⟩, A3, c3⟩ u2 ⟨hn, hlen, hst⟩
  dsimp only at hn hlen hst
  dsimp only
  ((try dsimp only); refine C_n ?_; (try simp only [Nat.reduceAdd, Nat.zero_add]))
  have hpt : own 43 ePr (.slice A2 out.length c2) out :: rd eI (.slice A3 rest.length c3) rest :: L = own 43 ePr (.slice A2 out.length c2) out :: rd eI (.slice A3 rest.length c3) rest :: L := rfl
  match n, hn, hst with
  | 0, _, hst =>
    have hst' : (out, rest) = covS F G G.length ([], l) := hst
    repeat' (first | refine go ?_ | intro _ | (apply cG; first | refine cT ?_ | refine cF ?_ | refine cS (fun _ => ?_) fun _ => ?_) | (apply gW; refine sW ?_) | (apply gI; refine sI ?_) | (apply gE; refine sE ?_) | (apply gP; refine sP ?_) | (apply gC; refine sC ?_) | (apply gD; refine sD ?_) | fail)
    have hcf : covF F G l = out ++ rest.map fun a => (-1, a) := by
      unfold covF
      rw [← hst']
    rw [hcf]
    refine C_loopS (κ := Nat × Option Addr × Nat × List (Int × Int)) [false, false, false, false, false, false, false, false, true, false, false, false, false, false, true, false, false, false, false, false, false, false, false, false, false, false, false, false, false, false, false, false, false, false, false, false, false, false, false, false, false, false, false, false, false, false, false, false, false, false, false, false, false, false, false, false, false, false, false, false, false, false, false, false, false, false, false, false, false, false, false, false, false, false, false, false, false, false, false, false, false, false, false, false, false, false, false, false, false, false, false, false, false, false, false, false, true, true, true, true, true, true, true, true, true, true, true, true, true, true, false] (fun k => [(8, .slice k.2.1 k.2.2.2.length k.2.2.1), (14, .int .i64 (k.1 : Int))]) (fun k => [(0, own 43 ePr (.slice k.2.1 k.2.2.2.length k.2.2.1) k.2.2.2)]) (fun k => k.1 ≤ rest.length ∧ k.2.2.2 = out ++ (rest.take k.1).map fun a => (-1, a)) (fun k => rest.length - k.1) (0, A2, c2, out) ⟨Nat.zero_le _, by simp⟩ ⟨rfl, rfl, trivial⟩ ?_
    rintro ⟨i, A4, c4, q⟩ u3 ⟨hi, hq⟩
    dsimp only at hi hq
    dsimp only
    ((try dsimp only); refine C_n ?_; (try simp only [Nat.reduceAdd, Nat.zero_add]))
    by_cases hil2 : i < rest.length
    rotate_left
    · obtain rfl : i = rest.length := by omega
      rw [List.take_length] at hq
      rw [← hq]
      repeat' (first | refine go ?_ | intro _ | (apply cG; first | refine cT ?_ | refine cF ?_ | refine cS (fun _ => ?_) fun _ => ?_) | (apply gW; refine sW ?_) | (apply gI; refine sI ?_) | (apply gE; refine sE ?_) | (apply gP; refine sP ?_) | (apply gC; refine sC ?_) | (apply gD; refine sD ?_) | fail)
      refine E_res2 (by rfl) (by rfl) ⟨A4, c4, rfl, rfl⟩ Sb
    obtain ⟨x, hx⟩ : ∃ x, rest[i]? = some x := ⟨_, List.getElem?_eq_getElem (by omega)⟩
    have hax : At rest i x := ⟨hx⟩
    have hrt : (rest.take (i + 1)).map (fun a => ((-1 : Int), a)) = (rest.take i).map (fun a => ((-1 : Int), a)) ++ [(-1, x)] := by
      rw [List.take_add_one, hx, List.map_append]
      rfl
    have hlo : q.length = out.length + i := by
      rw [hq, List.length_append, List.length_map, List.length_take]
      omega
    repeat' (first | refine go ?_ | intro _ | (apply cG; first | refine cT ?_ | refine cF ?_ | refine cS (fun _ => ?_) fun _ => ?_) | (apply gW; refine sW ?_) | (apply gI; refine sI ?_) | (apply gE; refine sE ?_) | (apply gP; refine sP ?_) | (apply gC; refine sC ?_) | (apply gD; refine sD ?_) | fail)
    refine O_d (dy_lit1 (R := ePr) ((-1, x) : Int × Int) (hcs := by rfl) (hel := fun _ _ _ => by rfl)) ?_; rintro _ _ ⟨_, rfl, rfl⟩; refine O_n ?_
    repeat' (first | refine go ?_ | intro _ | (apply cG; first | refine cT ?_ | refine cF ?_ | refine cS (fun _ => ?_) fun _ => ?_) | (apply gW; refine sW ?_) | (apply gI; refine sI ?_) | (apply gE; refine sE ?_) | (apply gP; refine sP ?_) | (apply gC; refine sC ?_) | (apply gD; refine sD ?_) | fail)
    rename_i A5 c5
    exact E_round (i + 1, A5, c5, q ++ [(-1, x)]) ⟨hil2, by dsimp only; rw [hrt, ← List.append_assoc, ← hq]⟩ (by dsimp only; omega) ⟨by dsimp only; rw [List.length_append]; rfl, rfl, trivial⟩ (by dsimp only; rw [List.length_append]; exact Sb)
  | n + 1, hn, hst =>
  have en : ((n + 1 : Nat) : Int) - 1 = (n : Int) := by omega
  rw [en]
  clear hpt
  repeat' (first | refine go ?_ | intro _ | (apply cG; first | refine cT ?_ | refine cF ?_ | refine cS (fun _ => ?_) fun _ => ?_) | (apply gW; refine sW ?_) | (apply gI; refine sI ?_) | (apply gE; refine sE ?_) | (apply gP; refine sP ?_) | (apply gC; refine sC ?_) | (apply gD; refine sD ?_) | fail)
  refine C_loopS (κ := Nat × CS × (Option Addr × Nat) × Option Addr × Nat) [false, false, false, false, false, false, false, false, true, true, false, true, true, true, false, false, false, false, false, false, false, false, false, false, false, false, false, false, false, false, false, false, false, false, false, false, false, false, false, false, false, false, false, false, false, false, false, false, false, false, false, false, false, false, false, false, false, false, false, false, false, false, false, false, false, true, true, true, true, true, true, true, true, true, true, true, true, true, true, true, true, true, true, true, true, true, true, true, true, true, true, true, true, true, true, true, false, false, false, false, false, false, false, false, false, false, false, false, false, false, false] (fun k => [(8, .slice k.2.2.1.1 k.2.1.1.length k.2.2.1.2), (9, .slice k.2.2.2.1 k.2.1.2.length k.2.2.2.2), (11, .int .i64 (k.1 : Int))]) (fun k => [(0, own 43 ePr (.slice k.2.2.1.1 k.2.1.1.length k.2.2.1.2) k.2.1.1), (1, rd eI (.slice k.2.2.2.1 k.2.1.2.length k.2.2.2.2) k.2.1.2)]) (fun k => k.1 ≤ F.length ∧ k.2.1.1.length + k.2.1.2.length ≤ l.length ∧ covG F G (n : Int) k.1 (out, rest) = k.2.1) (fun k => F.length - k.1) (0, (out, rest), (A2, c2), A3, c3) ⟨Nat.zero_le _, hlen, rfl⟩ ⟨rfl, rfl, rfl, trivial⟩ ?_
  rintro ⟨m, ⟨out1, rest1⟩, ⟨A4, c4⟩, A5, c5⟩ u3 ⟨hm, hlen1, hst1⟩
  dsimp only at hm hlen1 hst1
  dsimp only
  ((try dsimp only); refine C_n ?_; (try simp only [Nat.reduceAdd, Nat.zero_add]))
  by_cases hmF : m < F.length
  rotate_left
  · obtain rfl : m = F.length := by omega
    repeat' (first | refine go ?_ | intro _ | (apply cG; first | refine cT ?_ | refine cF ?_ | refine cS (fun _ => ?_) fun _ => ?_) | (apply gW; refine sW ?_) | (apply gI; refine sI ?_) | (apply gE; refine sE ?_) | (apply gP; refine sP ?_) | (apply gC; refine sC ?_) | (apply gD; refine sD ?_) | fail)
    exact E_round (n, (out1, rest1), (A4, c4), A5, c5) ⟨by dsimp only; omega, hlen1, by dsimp only; rw [← hst, ← hst1]; rfl⟩ (by dsimp only; omega) ⟨rfl, rfl, rfl, trivial⟩ Sb
  repeat' (first | refine go ?_ | intro _ | (apply cG; first | refine cT ?_ | refine cF ?_ | refine cS (fun _ => ?_) fun _ => ?_) | (apply gW; refine sW ?_) | (apply gI; refine sI ?_) | (apply gE; refine sE ?_) | (apply gP; refine sP ?_) | (apply gC; refine sC ?_) | (apply gD; refine sD ?_) | fail)
  refine O_d (dy_call ArgsI.pf (by first | exact rfl | trivial | (intro a b; rfl)) (rMembers_ct (s := (n : Int)) (g := (m : Int)) ht0.c.c hxs hF hR ⟨by omega, by omega⟩)) ?_; rintro _ _ ⟨_, ⟨A6, c6, rfl, rfl⟩, rfl⟩; refine O_n ?_
  dsimp only
  have hsn : covG F G (n : Int) (m + 1) (out, rest) = covSt F G (n : Int) (m : Int) (out1, rest1) := by
    show covSt F G (n : Int) (m : Int) (covG F G (n : Int) m (out, rest)) = _
    rw [hst1]
  have hmb1 := mbrF_len (F := F) (G := G) (s := (n : Int)) (g := (m : Int))
  unfold covSt at hsn
  obtain ⟨mb, hmb⟩ : ∃ mb, mbrF F G (n : Int) (m : Int) = mb := ⟨_, rfl⟩
  rw [hmb] at hmb1 hsn ⊢
  dsimp only at hsn
  refine O_frz 0 ?_
  by_cases hb0 : 0 < mb.length
  rotate_left
  · rw [if_neg (fun h => hb0 h.1)] at hsn
    rw [decide_eq_false hb0]
    repeat' (first | refine go ?_ | intro _ | (apply cG; first | refine cT ?_ | refine cF ?_ | refine cS (fun _ => ?_) fun _ => ?_) | (apply gW; refine sW ?_) | (apply gI; refine sI ?_) | (apply gE; refine sE ?_) | (apply gP; refine sP ?_) | (apply gC; refine sC ?_) | (apply gD; refine sD ?_) | fail)
    exact E_round (m + 1, (out1, rest1), (A4, c4), A5, c5) ⟨hmF, hlen1, hsn⟩ (by dsimp only; omega) ⟨rfl, rfl, rfl, trivial⟩ Sb
  rw [decide_eq_true hb0]
  repeat' (first | refine go ?_ | intro _ | (apply cG; first | refine cT ?_ | refine cF ?_ | refine cS (fun _ => ?_) fun _ => ?_) | (apply gW; refine sW ?_) | (apply gI; refine sI ?_) | (apply gE; refine sE ?_) | (apply gP; refine sP ?_) | (apply gC; refine sC ?_) | (apply gD; refine sD ?_) | fail)
  refine O_d (dy_call ArgsI.pf (by first | exact rfl | trivial | (intro a b; rfl)) (rAll_ct (l := rest1) (s := mb) (.inl (.tail _ (.tail _ (.head _)))) (.inl (.head _)) (by omega) (by omega))) ?_; rintro _ _ ⟨_, ⟨rfl, hLL⟩, rfl⟩; replace hLL := hLL.symm; subst hLL; refine O_n ?_
  cases hal : mb.all (memB rest1)
  · rw [if_neg (fun h => by rw [hal] at h; exact absurd h.2 (by decide))] at hsn
    repeat' (first | refine go ?_ | intro _ | (apply cG; first | refine cT ?_ | refine cF ?_ | refine cS (fun _ => ?_) fun _ => ?_) | (apply gW; refine sW ?_) | (apply gI; refine sI ?_) | (apply gE; refine sE ?_) | (apply gP; refine sP ?_) | (apply gC; refine sC ?_) | (apply gD; refine sD ?_) | fail)
    exact E_round (m + 1, (out1, rest1), (A4, c4), A5, c5) ⟨hmF, hlen1, hsn⟩ (by dsimp only; omega) ⟨rfl, rfl, rfl, trivial⟩ Sb
  rw [if_pos ⟨hb0, hal⟩] at hsn
  have hwl := wth_lt hb0 hal
  repeat' (first | refine go ?_ | intro _ | (apply cG; first | refine cT ?_ | refine cF ?_ | refine cS (fun _ => ?_) fun _ => ?_) | (apply gW; refine sW ?_) | (apply gI; refine sI ?_) | (apply gE; refine sE ?_) | (apply gP; refine sP ?_) | (apply gC; refine sC ?_) | (apply gD; refine sD ?_) | fail)
  refine O_d (dy_lit1 (R := ePr) (((n : Int), (m : Int)) : Int × Int) (hcs := by rfl) (hel := fun _ _ _ => by rfl)) ?_; rintro _ _ ⟨_, rfl, rfl⟩; refine O_n ?_
  repeat' (first | refine go ?_ | intro _ | (apply cG; first | refine cT ?_ | refine cF ?_ | refine cS (fun _ => ?_) fun _ => ?_) | (apply gW; refine sW ?_) | (apply gI; refine sI ?_) | (apply gE; refine sE ?_) | (apply gP; refine sP ?_) | (apply gC; refine sC ?_) | (apply gD; refine sD ?_) | fail)
  rename_i A7 c7
  refine O_d (dy_call ArgsI.pf (by first | exact rfl | trivial | (intro a b; rfl)) (rWithout_ct (l := rest1) (s := mb) (by simp) (by simp) (by omega) (by omega))) ?_; rintro _ _ ⟨_, ⟨A8, c8, rfl, rfl⟩, rfl⟩; refine O_n ?_
  refine O_frz 0 ?_
  repeat' (first | refine go ?_ | intro _ | (apply cG; first | refine cT ?_ | refine cF ?_ | refine cS (fun _ => ?_) fun _ => ?_) | (apply gW; refine sW ?_) | (apply gI; refine sI ?_) | (apply gE; refine sE ?_) | (apply gP; refine sP ?_) | (apply gC; refine sC ?_) | (apply gD; refine sD ?_) | fail)
  exact E_round (m + 1, (out1 ++ [((n : Int), (m : Int))], wthF rest1 mb), (A7, c7), A8, c8) ⟨hmF, by dsimp only; rw [List.length_append, List.length_cons, List.length_nil]; omega, hsn⟩ (by dsimp only; omega) ⟨by dsimp only; rw [List.length_append]; rfl, rfl, rfl, trivial⟩ (by dsimp only; rw [List.length_append]; exact Sb)
end
end Go.Proofs.Ytlmabajgnjiigaa
namespace Go.Proofs.Ytlmabajgnjiigaa
open Go Go.RowKit
set_option linter.unusedVariables false
set_option linter.unusedSimpArgs false
def rwF {α : Type} (E : TypeId) (R : Enc α) (q : SlV) (l : List α) : HP := own E R (.slice q.1 q.2.1 q.2.2) l
/-- own rows, one for each bare slice -/
def rows {α : Type} (E : TypeId) (R : Enc α) (vs : List SlV) (ls : List (List α)) : HP := Go.Proofs.Ytlmabajgnjiigaa.sp (List.zipWith (rwF E R) vs ls)
section
variable {P : Program} {W0 w : World} {L L' : List HP}
theorem sub_perm (h : L.Perm L') : Sub L L' := fun m x s => s.perm h
theorem sub_rows0 {α : Type} {E : TypeId} {R : Enc α} : Sub L (rows E R [] [] :: L) := sub_close (Ls := [])
theorem zip_mid {α β γ : Type} {f : α → β → γ} {d1 d2 : List α} {l1 l2 : List β} {q : α} {x : β} (h : d1.length = l1.length) : List.zipWith f (d1 ++ q :: d2) (l1 ++ x :: l2) = List.zipWith f d1 l1 ++ f q x :: List.zipWith f d2 l2 := by
  rw [List.zipWith_append h]
  rfl
theorem sub_rowsOut {α : Type} {E : TypeId} {R : Enc α} {d1 d2 : List SlV} {l1 l2 : List (List α)} {q : SlV} {x : List α} (h : d1.length = l1.length) : Sub (rows E R (d1 ++ q :: d2) (l1 ++ x :: l2) :: L) (own E R (.slice q.1 q.2.1 q.2.2) x :: rows E R (d1 ++ d2) (l1 ++ l2) :: L) := by
  unfold rows
  rw [zip_mid h, List.zipWith_append h]
  refine Sub.trans sub_open ?_
  refine Sub.trans (sub_perm (L' := rwF E R q x :: ((List.zipWith (rwF E R) d1 l1 ++ List.zipWith (rwF E R) d2 l2) ++ L)) ?_) (sub_skip sub_close)
  rw [List.append_assoc, List.append_assoc]
  exact List.perm_middle
theorem sub_rowsIn {α : Type} {E : TypeId} {R : Enc α} {d1 d2 : List SlV} {l1 l2 : List (List α)} {A : Option Addr} {n c : Nat} {x : List α} (h : d1.length = l1.length) : Sub (own E R (.slice A n c) x :: rows E R (d1 ++ d2) (l1 ++ l2) :: L) (rows E R (d1 ++ (A, n, c) :: d2) (l1 ++ x :: l2) :: L) := by
  unfold rows
  rw [zip_mid h, List.zipWith_append h]
  refine Sub.trans (sub_skip sub_open) ?_
  refine Sub.trans (sub_perm (L' := (List.zipWith (rwF E R) d1 l1 ++ rwF E R (A, n, c) x :: List.zipWith (rwF E R) d2 l2) ++ L) ?_) sub_close
  rw [List.append_assoc, List.append_assoc]
  exact List.perm_middle.symm
theorem sub_rowsSnoc {α : Type} {E : TypeId} {R : Enc α} {vs : List SlV} {ls : List (List α)} {A : Option Addr} {n c : Nat} {x : List α} (h : vs.length = ls.length) : Sub (own E R (.slice A n c) x :: rows E R vs ls :: L) (rows E R (vs ++ [(A, n, c)]) (ls ++ [x]) :: L) := by
  have := sub_rowsIn (L := L) (E := E) (R := R) (d2 := []) (l2 := []) (A := A) (n := n) (c := c) (x := x) h
  rw [List.append_nil, List.append_nil] at this
  exact this
theorem St.frzRows {α : Type} {E : TypeId} {R : Enc α} : ∀ {vs : List SlV} {ls : List (List α)} {L : List HP}, vs.length = ls.length → St W0 w (rows E R vs ls :: L) → St W0 w (faS R vs ls :: L)
  | [], [], L, _, s => s.weak fun m h k => sub_fa0 m h k.tail
  | q :: vs, x :: ls, L, h, s => by
    have s1 := s.weak (sub_rowsOut (d1 := []) (l1 := []) (q := q) (x := x) rfl)
    have s2 := s1.own_rd
    have s3 : St W0 w (rows E R vs ls :: Go.Proofs.Ytlmabajgnjiigaa.rd R (.slice q.1 q.2.1 q.2.2) x :: L) := s2.weak fun m h k => k.swap
    have s4 := St.frzRows (by simpa using h) s3
    refine s4.weak ?_
    rintro m h ⟨a, b, d, ha, hb, hA, c9, e, d2, hc, he, hB, hL⟩
    have hA' : All2 (fun q l => Sl m R (.slice q.1 q.2.1 q.2.2) l) vs ls := hA
    have hB' : Sl m R (.slice q.1 q.2.1 q.2.2) x := hB
    exact ⟨Hp.none, e, Hp.none_dj _, Hp.none_le _, he.trans hb, ⟨hB', hA'⟩, hL⟩
theorem C_frzRows {α : Type} {E : TypeId} {R : Enc α} {vs : List SlV} {ls : List (List α)} {c : Code} {a : Act} {Q : Exit → Act → World → Prop} (h : vs.length = ls.length) (k : CL P W0 (faS R vs ls :: L) c Q a) : CL P W0 (rows E R vs ls :: L) c Q a := ⟨fun w s => k.run w (s.frzRows h)⟩
theorem O_frzRows {α : Type} {E : TypeId} {R : Enc α} {vs : List SlV} {ls : List (List α)} {ops : Array Oper} {rest : List Oper} {a : Act} {Q : Exit → Act → World → Prop} (h : vs.length = ls.length) (k : OL P W0 (faS R vs ls :: L) ops Q rest a) : OL P W0 (rows E R vs ls :: L) ops Q rest a := ⟨fun w s => k.run w (s.frzRows h)⟩
theorem O_openX {α : Type} {Re : Enc α} {ops : Array Oper} {rest : List Oper} {a : Act} {Q : Exit → Act → World → Prop} {v : Value} {l : List (List α)} (hv : rd (eSl Re) v l ∈ L) (k : ∀ l' : List (SX α), l'.map SX.b = l → OL P W0 (rd (eSX Re) v l' :: L) ops Q rest a) : OL P W0 L ops Q rest a := ⟨fun w s => by
  obtain ⟨h1, h2, h3, h4, m, h, hm, hw, hh, d, hL⟩ := s
  obtain ⟨a, _, hs⟩ := hL.mem hv
  obtain ⟨l', e, hs'⟩ := Sl.openX hs
  exact (k l' e).run w ⟨h1, h2, h3, h4, m, h, hm, hw, hh, d, Hp.none, h, Hp.none_dj _, Hp.none_le _, Hp.le_refl _, hs', hL⟩⟩
end
end Go.Proofs.Ytlmabajgnjiigaa
