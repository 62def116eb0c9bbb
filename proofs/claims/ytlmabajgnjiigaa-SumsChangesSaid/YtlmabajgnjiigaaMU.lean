/-
  Package sums: faces.
-/
import Derived.Test.YtlmabajgnjiigaaMT
import Derived.Test.YtlmabajgnjiigaaMQ
namespace Go.Proofs.Ytlmabajgnjiigaa
open Go Go.RowKit
set_option linter.unusedVariables false
set_option linter.unusedSimpArgs false
set_option maxRecDepth 20000
set_option synthInstance.maxSize 100000
set_option synthInstance.maxHeartbeats 400000
theorem facF_foldl : ∀ (l : List Int) (n : Int), n ≤ l.foldl (fun n x => max n (x + 1)) n ∧ (∀ f ∈ l, f + 1 ≤ l.foldl (fun n x => max n (x + 1)) n) ∧ ∀ b, n ≤ b → (∀ f ∈ l, f + 1 ≤ b) → l.foldl (fun n x => max n (x + 1)) n ≤ b
  | [], n => ⟨Int.le_refl _, fun _ h => (by cases h), fun b h _ => h⟩
  | x :: r, n => by
    obtain ⟨h1, h2, h3⟩ := facF_foldl r (max n (x + 1))
    rw [List.foldl_cons]
    refine ⟨by omega, fun f hf => ?_, fun b hb hr => h3 b ?_ fun f hf => hr f (.tail _ hf)⟩
    · rcases List.mem_cons.1 hf with rfl | hf
      · omega
      · exact h2 f hf
    · have := hr x (.head _)
      omega
theorem facF_ge {l : List Int} {f : Int} (h : f ∈ l) : f + 1 ≤ facF l := (facF_foldl l 0).2.1 f h
theorem facF_le2 {l : List Int} {b : Int} (h0 : 0 ≤ b) (h : ∀ f ∈ l, f + 1 ≤ b) : facF l ≤ b := (facF_foldl l 0).2.2 b h0 h
theorem facF_nn {l : List Int} : 0 ≤ facF l := (facF_foldl l 0).1
/-- each face has an atom -/
def FacOk (F : List Int) : Prop := (∀ f ∈ F, 0 ≤ f) ∧ ∀ n : Nat, (n : Int) < facF F → (n : Int) ∈ F
/-- the list is 0, 1, .. -/
def Rng (dd : List Int) : Prop := ∀ (i : Nat) (x : Int), dd[i]? = some x → x = (i : Int)
theorem rng_ends {dd : List Int} {n : Nat} {a b : Int} (h : dd.Pairwise (· < ·)) (hn : dd.length = n + 1) (ha : dd[0]? = some a) (hb : dd[n]? = some b) : (a = 0 ∧ b = (n : Int)) ↔ Rng dd := by
  refine ⟨fun ⟨h1, h2⟩ i x hx => ?_, fun h => ⟨h 0 a ha, h n b hb⟩⟩
  have hi := (List.getElem?_eq_some_iff.1 hx).1
  have g1 := asc_gap h ha i x (by rw [Nat.zero_add]; exact hx)
  have g2 := asc_gap h hx (n - i) b (by rw [show i + (n - i) = n from by omega]; exact hb)
  omega
theorem rng_fac {dd F : List Int} (hm : ∀ x, x ∈ dd ↔ x ∈ F) (h : Rng dd) : FacOk F ∧ facF F = (dd.length : Int) := by
  have h0 : ∀ f ∈ F, 0 ≤ f ∧ f + 1 ≤ (dd.length : Int) := fun f hf => by
    obtain ⟨i, hi⟩ := List.getElem?_of_mem ((hm f).2 hf)
    have := h i f hi
    have := (List.getElem?_eq_some_iff.1 hi).1
    omega
  have h1 : ∀ n : Nat, n < dd.length → (n : Int) ∈ F := fun n hn => by
    have hx : dd[n]? = some dd[n] := List.getElem?_eq_getElem hn
    rw [← hm, ← h n _ hx]
    exact List.mem_of_getElem? hx
  have h2 := facF_le2 (b := (dd.length : Int)) (by omega) fun f hf => (h0 f hf).2
  have h3 : (dd.length : Int) ≤ facF F := by
    cases hd : dd.length with
    | zero => have := facF_nn (l := F); omega
    | succ n =>
      have := facF_ge (h1 n (by omega))
      omega
  exact ⟨⟨fun f hf => (h0 f hf).1, fun n hn => h1 n (by omega)⟩, by omega⟩
theorem fac_rng {dd F : List Int} (ho : dd.Pairwise (· < ·)) (hm : ∀ x, x ∈ dd ↔ x ∈ F) (h : FacOk F) : Rng dd := by
  intro i
  induction i using Nat.strongRecOn with
  | ind i ih =>
    intro x hx
    have hi := (List.getElem?_eq_some_iff.1 hx).1
    have hxF := (hm x).1 (List.mem_of_getElem? hx)
    have hx0 := h.1 x hxF
    have hxm := facF_ge hxF
    have hge : (i : Int) ≤ x := by
      have hz : dd[0]? = some dd[0] := List.getElem?_eq_getElem (by omega)
      have := asc_gap ho hz i x (by rw [Nat.zero_add]; exact hx)
      have := h.1 _ ((hm _).1 (List.mem_of_getElem? hz))
      omega
    have hiF := (hm _).2 (h.2 i (by omega))
    obtain ⟨k, hk⟩ := List.getElem?_of_mem hiF
    by_cases hki : k < i
    · have := ih k hki _ hk
      omega
    · have := asc_gap ho hx (k - i) _ (by rw [show i + (k - i) = k from by omega]; exact hk)
      omega
section
variable {W0 : World} {L : List HP}
theorem faces_ct {A : Option Addr} {c : Nat} {F : List Int} (hv : rd eI (.slice A F.length c) F ∈ L) (hl : F.length ≤ 1000000) :
    CT Try.prog 40 #[.slice A F.length c] W0 L fun r L' => ∃ (n : Nat) (q : Bool), r = .tuple #[.int .i64 (n : Int), .bool q] ∧ (q = true ↔ FacOk F) ∧ (q = true → facF F = (n : Int)) ∧ n ≤ F.length ∧ L' = L := by
  refine CT_enter Try.func40 rfl ?_; (simp only [Try.ntmps40, List.size_toArray, List.length_cons, List.length_nil, Nat.reduceAdd, Nat.reduceSub, Array.replicate_succ, Array.replicate_zero, List.push_toArray, List.append_toArray, List.nil_append, List.cons_append])
  by_cases h0 : F.length = 0
  · obtain rfl := List.length_eq_zero_iff.1 h0
    have h1 : FacOk [] := ⟨fun _ h => (by cases h), fun n hn => by simp [facF] at hn; omega⟩
    repeat' (first | refine go ?_ | intro _ | (apply cG; first | refine cT ?_ | refine cF ?_ | refine cS (fun _ => ?_) fun _ => ?_) | (apply gW; refine sW ?_) | (apply gI; refine sI ?_) | (apply gE; refine sE ?_) | (apply gP; refine sP ?_) | (apply gC; refine sC ?_) | (apply gD; refine sD ?_) | fail)
    refine E_res2 (by rfl) (by rfl) ⟨0, true, rfl, ⟨fun _ => h1, fun _ => rfl⟩, fun _ => rfl, Nat.le_refl _, rfl⟩ Sb
  repeat' (first | refine go ?_ | intro _ | (apply cG; first | refine cT ?_ | refine cF ?_ | refine cS (fun _ => ?_) fun _ => ?_) | (apply gW; refine sW ?_) | (apply gI; refine sI ?_) | (apply gE; refine sE ?_) | (apply gP; refine sP ?_) | (apply gC; refine sC ?_) | (apply gD; refine sD ?_) | fail)
  refine O_d (dy_call ArgsI.pf (by first | exact rfl | trivial | (intro a b; rfl)) (Values_ct)) ?_; rintro _ _ ⟨_, ⟨bx, T, rfl, rfl⟩, rfl⟩; refine O_n ?_
  repeat' (first | refine go ?_ | intro _ | (apply cG; first | refine cT ?_ | refine cF ?_ | refine cS (fun _ => ?_) fun _ => ?_) | (apply gW; refine sW ?_) | (apply gI; refine sI ?_) | (apply gE; refine sE ?_) | (apply gP; refine sP ?_) | (apply gC; refine sC ?_) | (apply gD; refine sD ?_) | fail)
  have eg : Enters Try.prog 52 := by first | exact rfl | trivial | (intro a b; rfl)
  refine O_d (dy_call ArgsI.pf (by first | exact rfl | trivial | (intro a b; rfl)) (Sorted_ct (l := F) hl eg (values_gives hv hl))) ?_; rintro _ _ ⟨_, ⟨ys, A1, c1, hy, hys, rfl, rfl⟩, rfl⟩; refine O_n ?_
  have hyl := hy.length_eq
  repeat' (first | refine go ?_ | intro _ | (apply cG; first | refine cT ?_ | refine cF ?_ | refine cS (fun _ => ?_) fun _ => ?_) | (apply gW; refine sW ?_) | (apply gI; refine sI ?_) | (apply gE; refine sE ?_) | (apply gP; refine sP ?_) | (apply gC; refine sC ?_) | (apply gD; refine sD ?_) | fail)
  refine O_d (dy_call ArgsI.pf (by first | exact rfl | trivial | (intro a b; rfl)) (ICompact_ct (l := ys) hys (by omega))) ?_; rintro _ _ ⟨_, ⟨dd, hd1, hd2, hd3, rfl, rfl⟩, rfl⟩; refine O_n ?_
  have hm : ∀ x, x ∈ dd ↔ x ∈ F := fun x => (hd2 x).trans hy.mem_iff
  obtain ⟨m, hn⟩ : ∃ m, dd.length = m + 1 := by
    cases hd : dd with
    | nil =>
      obtain ⟨f, hf⟩ := List.exists_mem_of_ne_nil F (fun h => h0 (by rw [h]; rfl))
      have := (hm f).2 hf
      rw [hd] at this
      cases this
    | cons x r => exact ⟨r.length, rfl⟩
  obtain ⟨a, ha⟩ : ∃ x, dd[0]? = some x := ⟨_, List.getElem?_eq_getElem (by omega)⟩
  obtain ⟨b, hb⟩ : ∃ x, dd[m]? = some x := ⟨_, List.getElem?_eq_getElem (by omega)⟩
  have haa : At dd 0 a := ⟨ha⟩
  have en : (dd.length : Int) - 1 = (m : Int) := by omega
  have hay0 : At dd ((dd.length : Int) - 1).toNat b := ⟨by rw [en, Int.toNat_natCast]; exact hb⟩
  have hay1 := hay0
  unfold Int.toNat at hay1
  have hends := rng_ends hd1 hn ha hb
  have hfin : ∀ q : Bool, (q = true ↔ (a = 0 ∧ b = (m : Int))) → (q = true ↔ FacOk F) ∧ (q = true → facF F = (dd.length : Int)) := fun q hq =>
    ⟨⟨fun h => (rng_fac hm (hends.1 (hq.1 h))).1, fun h => hq.2 (hends.2 (fac_rng hd1 hm h))⟩, fun h => (rng_fac hm (hends.1 (hq.1 h))).2⟩
  repeat' (first | refine go ?_ | intro _ | (apply cG; first | refine cT ?_ | refine cF ?_ | refine cS (fun _ => ?_) fun _ => ?_) | (apply gW; refine sW ?_) | (apply gI; refine sI ?_) | (apply gE; refine sE ?_) | (apply gP; refine sP ?_) | (apply gC; refine sC ?_) | (apply gD; refine sD ?_) | fail)
  refine C_draw (n := 99) [own 3 eI (.slice A1 dd.length c1) dd] [(0, 1), (1, 1), (2, 1), (3, 1), (4, 1), (5, 1), (6, 1), (7, 1), (8, 1), (9, 1), (10, 1), (11, 1), (12, 1), (13, 1), (14, 1), (15, 1), (16, 1), (17, 1), (18, 1), (19, 1)] (by kernel_rfl) (by kernel_rfl) Sb ?_
  by_cases h1 : a = 0
  · subst h1
    by_cases h2 : b = (m : Int)
    · subst h2
      have hbb : (m : Int) = (dd.length : Int) - 1 := by omega
      obtain ⟨g1, g2⟩ := hfin true ⟨fun _ => ⟨rfl, rfl⟩, fun _ => rfl⟩
      repeat' (first | refine go ?_ | intro _ | (apply cG; first | refine cT ?_ | refine cF ?_ | refine cS (fun _ => ?_) fun _ => ?_) | (apply gW; refine sW ?_) | (apply gI; refine sI ?_) | (apply gE; refine sE ?_) | (apply gP; refine sP ?_) | (apply gC; refine sC ?_) | (apply gD; refine sD ?_) | fail)
      refine E_res2 (by rfl) (by rfl) ⟨dd.length, true, rfl, g1, g2, by omega, rfl⟩ Sb
    · have hbb : ¬ b = (dd.length : Int) - 1 := by omega
      obtain ⟨g1, g2⟩ := hfin false ⟨fun h => (by cases h), fun h => absurd h.2 h2⟩
      repeat' (first | refine go ?_ | intro _ | (apply cG; first | refine cT ?_ | refine cF ?_ | refine cS (fun _ => ?_) fun _ => ?_) | (apply gW; refine sW ?_) | (apply gI; refine sI ?_) | (apply gE; refine sE ?_) | (apply gP; refine sP ?_) | (apply gC; refine sC ?_) | (apply gD; refine sD ?_) | fail)
      refine E_res2 (by rfl) (by rfl) ⟨dd.length, false, rfl, g1, g2, by omega, rfl⟩ Sb
  · obtain ⟨g1, g2⟩ := hfin false ⟨fun h => (by cases h), fun h => absurd h.1 h1⟩
    repeat' (first | refine go ?_ | intro _ | (apply cG; first | refine cT ?_ | refine cF ?_ | refine cS (fun _ => ?_) fun _ => ?_) | (apply gW; refine sW ?_) | (apply gI; refine sI ?_) | (apply gE; refine sE ?_) | (apply gP; refine sP ?_) | (apply gC; refine sC ?_) | (apply gD; refine sD ?_) | fail)
    refine E_res2 (by rfl) (by rfl) ⟨dd.length, false, rfl, g1, g2, by omega, rfl⟩ Sb
end
end Go.Proofs.Ytlmabajgnjiigaa
namespace Go.Proofs.Ytlmabajgnjiigaa
open Go Go.RowKit
set_option linter.unusedVariables false
set_option linter.unusedSimpArgs false
set_option maxRecDepth 20000
set_option synthInstance.maxSize 100000
set_option synthInstance.maxHeartbeats 400000
/-- whether atom i is listed -/
def lstP (k : Int) (i : Nat) : Bool := decide (k / 2 ^ (i % 20) % 2 = 1) || decide (k % 7 = 0)
def lstF (k : Int) (n : Nat) : List Int := ((List.range n).filter (lstP k)).map fun (i : Nat) => (i : Int)
theorem lstF_succ {k : Int} {n : Nat} : lstF k (n + 1) = lstF k n ++ (if lstP k n = true then [(n : Int)] else []) := by
  unfold lstF
  rw [List.range_succ, List.filter_append, List.map_append]
  congr 1
  by_cases h : lstP k n = true
  · rw [List.filter_cons_of_pos h, if_pos h]
    rfl
  · rw [List.filter_cons_of_neg h, if_neg h]
    rfl
theorem lstF_len {k : Int} (n : Nat) : (lstF k n).length ≤ n := by
  unfold lstF
  rw [List.length_map]
  exact Nat.le_trans (List.length_filter_le _ _) (by simp)
theorem lstF_in {k : Int} {n : Nat} {x : Int} (h : x ∈ lstF k n) : 0 ≤ x ∧ x < (n : Int) := by
  obtain ⟨i, hi, rfl⟩ := List.mem_map.1 h
  have := List.mem_range.1 (List.mem_filter.1 hi).1
  omega
section
variable {W0 : World} {L : List HP}
theorem rList_ct {t : RT} {n : Int} (ht : RTin t L) (hU : t.U.length ≤ 1000000) (hn : -9223372036854775808 ≤ n ∧ n ≤ 9223372036854775807) :
    CT Try.prog 18 #[.pointer (some ⟨t.p, 0, none⟩), .int .i64 n] W0 L fun r L' => ∃ A c, r = .slice A (lstF (around n 1048576) t.U.length).length c ∧ L' = own 3 eI (.slice A (lstF (around n 1048576) t.U.length).length c) (lstF (around n 1048576) t.U.length) :: L := by
  obtain ⟨p, A1, B1, C1, ca, cb, cc, U, F, xs⟩ := t
  obtain ⟨h1, h2, h3, h4⟩ := ht
  dsimp only at h1 h2 h3 h4 hU ⊢
  have hip : InC p L _ _ := ⟨h1⟩
  refine CT_enter Try.func18 rfl ?_; (simp only [Try.ntmps18, List.size_toArray, List.length_cons, List.length_nil, Nat.reduceAdd, Nat.reduceSub, Array.replicate_succ, Array.replicate_zero, List.push_toArray, List.append_toArray, List.nil_append, List.cons_append])
  repeat' (first | refine go ?_ | intro _ | (apply cG; first | refine cT ?_ | refine cF ?_ | refine cS (fun _ => ?_) fun _ => ?_) | (apply gW; refine sW ?_) | (apply gI; refine sI ?_) | (apply gE; refine sE ?_) | (apply gP; refine sP ?_) | (apply gC; refine sC ?_) | (apply gD; refine sD ?_) | fail)
  refine O_d (dy_call ArgsI.pf (by first | exact rfl | trivial | (intro a b; rfl)) (Around_ct (most := 1048576) hn.1 hn.2 (by decide) (by decide))) ?_; rintro _ _ ⟨_, ⟨rfl, hLL⟩, rfl⟩; replace hLL := hLL.symm; subst hLL; refine O_n ?_
  obtain ⟨hk1, hk2⟩ := around_in (n := n) (most := 1048576) (by decide)
  obtain ⟨kk, hk⟩ : ∃ k, around n 1048576 = k := ⟨_, rfl⟩
  rw [hk] at hk1 hk2 ⊢
  repeat' (first | refine go ?_ | intro _ | (apply cG; first | refine cT ?_ | refine cF ?_ | refine cS (fun _ => ?_) fun _ => ?_) | (apply gW; refine sW ?_) | (apply gI; refine sI ?_) | (apply gE; refine sE ?_) | (apply gP; refine sP ?_) | (apply gC; refine sC ?_) | (apply gD; refine sD ?_) | fail)
  refine C_ownnil 3 eI ?_
  refine C_loopS (κ := Nat × Option Addr × Nat) [false, false, false, false, false, false, true, true, false, false, true, true, true, true, true, true, true, true, true, true, true, true, true, true, true, true, true, true, true, true, true, true, true, true, true, false] (fun k => [(6, .slice k.2.1 (lstF kk k.1).length k.2.2), (7, .int .i64 (k.1 : Int))]) (fun k => [(0, own 3 eI (.slice k.2.1 (lstF kk k.1).length k.2.2) (lstF kk k.1))]) (fun k => k.1 ≤ U.length) (fun k => U.length - k.1) (0, none, 0) (Nat.zero_le _) ⟨rfl, rfl, trivial⟩ ?_
  rintro ⟨i, A2, c2⟩ u hi
  dsimp only at hi
  dsimp only
  ((try dsimp only); refine C_n ?_; (try simp only [Nat.reduceAdd, Nat.zero_add]))
  by_cases hil : i < U.length
  rotate_left
  · obtain rfl : i = U.length := by omega
    repeat' (first | refine go ?_ | intro _ | (apply cG; first | refine cT ?_ | refine cF ?_ | refine cS (fun _ => ?_) fun _ => ?_) | (apply gW; refine sW ?_) | (apply gI; refine sI ?_) | (apply gE; refine sE ?_) | (apply gP; refine sP ?_) | (apply gC; refine sC ?_) | (apply gD; refine sD ?_) | fail)
    refine E_res1 (by rfl) (by rfl) ⟨A2, c2, rfl, rfl⟩ Sb
  have hst := lstF_succ (k := kk) (n := i)
  have hlen := lstF_len (k := kk) i
  obtain ⟨o, ho⟩ : ∃ o, lstF kk i = o := ⟨_, rfl⟩
  rw [ho] at hst hlen ⊢
  repeat' (first | refine go ?_ | intro _ | (apply cG; first | refine cT ?_ | refine cF ?_ | refine cS (fun _ => ?_) fun _ => ?_) | (apply gW; refine sW ?_) | (apply gI; refine sI ?_) | (apply gE; refine sE ?_) | (apply gP; refine sP ?_) | (apply gC; refine sC ?_) | (apply gD; refine sD ?_) | fail)
  have hz0 : 0 ≤ kk / 2 ^ (i % 20) := Int.ediv_nonneg hk1 (by exact Int.le_of_lt (Int.pow_pos (by decide)))
  refine O_s (sv_shr (r := kk / 2 ^ (i % 20)) (hr := by congr 2)) ?_
  have hP : lstP kk i = (decide (kk / 2 ^ (i % 20) % 2 = 1) || decide (kk % 7 = 0)) := rfl
  obtain ⟨z, hz⟩ : ∃ z, kk / 2 ^ (i % 20) = z := ⟨_, rfl⟩
  rw [hz] at hz0 hP ⊢
  by_cases c1 : z % 2 = 1
  · rw [decide_eq_true c1, Bool.true_or] at hP
    rw [if_pos hP] at hst
    repeat' (first | refine go ?_ | intro _ | (apply cG; first | refine cT ?_ | refine cF ?_ | refine cS (fun _ => ?_) fun _ => ?_) | (apply gW; refine sW ?_) | (apply gI; refine sI ?_) | (apply gE; refine sE ?_) | (apply gP; refine sP ?_) | (apply gC; refine sC ?_) | (apply gD; refine sD ?_) | fail)
    refine O_d (dy_lit1 (R := eI) (i : Int) (hcs := by rfl) (hel := fun _ _ _ => by rfl)) ?_; rintro _ _ ⟨_, rfl, rfl⟩; refine O_n ?_
    repeat' (first | refine go ?_ | intro _ | (apply cG; first | refine cT ?_ | refine cF ?_ | refine cS (fun _ => ?_) fun _ => ?_) | (apply gW; refine sW ?_) | (apply gI; refine sI ?_) | (apply gE; refine sE ?_) | (apply gP; refine sP ?_) | (apply gC; refine sC ?_) | (apply gD; refine sD ?_) | fail)
    rename_i A3 c3
    exact E_round (i + 1, A3, c3) hil (by dsimp only; omega) ⟨by dsimp only; rw [hst, List.length_append]; rfl, rfl, trivial⟩ (by dsimp only; rw [hst, List.length_append]; exact Sb)
  by_cases c2' : kk % 7 = 0
  · rw [decide_eq_true c2', Bool.or_true] at hP
    rw [if_pos hP] at hst
    repeat' (first | refine go ?_ | intro _ | (apply cG; first | refine cT ?_ | refine cF ?_ | refine cS (fun _ => ?_) fun _ => ?_) | (apply gW; refine sW ?_) | (apply gI; refine sI ?_) | (apply gE; refine sE ?_) | (apply gP; refine sP ?_) | (apply gC; refine sC ?_) | (apply gD; refine sD ?_) | fail)
    refine O_d (dy_lit1 (R := eI) (i : Int) (hcs := by rfl) (hel := fun _ _ _ => by rfl)) ?_; rintro _ _ ⟨_, rfl, rfl⟩; refine O_n ?_
    repeat' (first | refine go ?_ | intro _ | (apply cG; first | refine cT ?_ | refine cF ?_ | refine cS (fun _ => ?_) fun _ => ?_) | (apply gW; refine sW ?_) | (apply gI; refine sI ?_) | (apply gE; refine sE ?_) | (apply gP; refine sP ?_) | (apply gC; refine sC ?_) | (apply gD; refine sD ?_) | fail)
    rename_i A3 c3
    exact E_round (i + 1, A3, c3) hil (by dsimp only; omega) ⟨by dsimp only; rw [hst, List.length_append]; rfl, rfl, trivial⟩ (by dsimp only; rw [hst, List.length_append]; exact Sb)
  · rw [decide_eq_false c1, decide_eq_false c2'] at hP
    rw [if_neg (by rw [hP]; decide), List.append_nil] at hst
    repeat' (first | refine go ?_ | intro _ | (apply cG; first | refine cT ?_ | refine cF ?_ | refine cS (fun _ => ?_) fun _ => ?_) | (apply gW; refine sW ?_) | (apply gI; refine sI ?_) | (apply gE; refine sE ?_) | (apply gP; refine sP ?_) | (apply gC; refine sC ?_) | (apply gD; refine sD ?_) | fail)
    exact E_round (i + 1, A2, c2) hil (by dsimp only; omega) ⟨by dsimp only; rw [hst]; rfl, rfl, trivial⟩ (by dsimp only; rw [hst]; exact Sb)
end
end Go.Proofs.Ytlmabajgnjiigaa
namespace Go.Proofs.Ytlmabajgnjiigaa
open Go Go.RowKit
set_option linter.unusedVariables false
set_option linter.unusedSimpArgs false
set_option maxRecDepth 20000
set_option synthInstance.maxSize 100000
set_option synthInstance.maxHeartbeats 400000
/-- the error of Change -/
def chgE (U : List Int) (a u : Int) : Int :=
  if a < 0 ∨ (U.length : Int) ≤ a then 7 else if u < 0 ∨ 1099511627776 < u then 5 else if sumL U - U.getD a.toNat 0 + u > 1099511627776 then 4 else 0
/-- the units then -/
def chgU (U : List Int) (a u : Int) : List Int := if chgE U a u = 0 then U.set a.toNat u else U
/-- how many sums change -/
def chgN (U : List Int) (s : Nat) (a u : Int) : Int := if chgE U a u = 0 ∧ U.getD a.toNat 0 ≠ u then 1 + (s : Int) else 0
theorem chgU_len {U : List Int} {a u : Int} : (chgU U a u).length = U.length := by
  unfold chgU
  split
  · rw [List.length_set]
  · rfl
section
variable {W0 : World} {L : List HP}
theorem rChange_ct {p : Nat} {A1 B1 C1 : Option Addr} {ca cb cc nf ng : Nat} {U : List Int} {a u : Int} (hU : rd eI (.slice A1 U.length ca) U ∈ L) (hl : U.length ≤ 1000) (hu : ∀ x ∈ U, 0 ≤ x ∧ x ≤ 1099511627776) (hg : ng ≤ 1000000) (ha : -9223372036854775808 ≤ a ∧ a ≤ 9223372036854775807) (hn : -9223372036854775808 ≤ u ∧ u ≤ 9223372036854775807) :
    CT Try.prog 14 #[.pointer (some ⟨p, 0, none⟩), .int .i64 a, .int .i64 u] W0 (cel p [.slice A1 U.length ca, .slice B1 nf cb, .slice C1 ng cc] 32 :: L) fun r L' => ∃ A c, r = .tuple #[.int .i64 (chgN U ng a u), .int .i64 (chgE U a u)] ∧ L' = rd eI (.slice A U.length c) (chgU U a u) :: cel p [.slice A U.length c, .slice B1 nf cb, .slice C1 ng cc] 32 :: L := by
  refine CT.sub (S := cel p [.slice A1 U.length ca, .slice B1 nf cb, .slice C1 ng cc] 32 :: rd eI (.slice A1 U.length ca) U :: L) ?_ (sub_skip (sub_dup hU))
  have hN : chgN U ng a u = if chgE U a u = 0 ∧ U.getD a.toNat 0 ≠ u then 1 + (ng : Int) else 0 := rfl
  have hC : chgU U a u = if chgE U a u = 0 then U.set a.toNat u else U := rfl
  have hE : chgE U a u = if a < 0 ∨ (U.length : Int) ≤ a then 7 else if u < 0 ∨ 1099511627776 < u then 5 else if sumL U - U.getD a.toNat 0 + u > 1099511627776 then 4 else 0 := rfl
  obtain ⟨e, he⟩ : ∃ e, chgE U a u = e := ⟨_, rfl⟩
  obtain ⟨V, hV⟩ : ∃ e, chgU U a u = e := ⟨_, rfl⟩
  obtain ⟨N, hNN⟩ : ∃ e, chgN U ng a u = e := ⟨_, rfl⟩
  rw [he, hV] at hC
  rw [he, hNN] at hN
  rw [he] at hE
  rw [he, hV, hNN]
  clear he hV hNN
  obtain ⟨ha1, ha2⟩ := ha
  obtain ⟨hn1, hn2⟩ := hn
  refine CT_enter Try.func14 rfl ?_; (simp only [Try.ntmps14, List.size_toArray, List.length_cons, List.length_nil, Nat.reduceAdd, Nat.reduceSub, Array.replicate_succ, Array.replicate_zero, List.push_toArray, List.append_toArray, List.nil_append, List.cons_append])
  by_cases h7 : a < 0 ∨ (U.length : Int) ≤ a
  · rw [if_pos h7] at hE
    subst hE
    rw [if_neg (by decide)] at hC
    rw [if_neg (by simp)] at hN
    subst hC hN
    by_cases h0 : a < 0
    · repeat' (first | refine go ?_ | intro _ | (apply cG; first | refine cT ?_ | refine cF ?_ | refine cS (fun _ => ?_) fun _ => ?_) | (apply gW; refine sW ?_) | (apply gI; refine sI ?_) | (apply gE; refine sE ?_) | (apply gP; refine sP ?_) | (apply gC; refine sC ?_) | (apply gD; refine sD ?_) | fail)
      refine E_res2 (by rfl) (by rfl) ⟨A1, ca, rfl, rfl⟩ Sb
    · have : (V.length : Int) ≤ a := by omega
      repeat' (first | refine go ?_ | intro _ | (apply cG; first | refine cT ?_ | refine cF ?_ | refine cS (fun _ => ?_) fun _ => ?_) | (apply gW; refine sW ?_) | (apply gI; refine sI ?_) | (apply gE; refine sE ?_) | (apply gP; refine sP ?_) | (apply gC; refine sC ?_) | (apply gD; refine sD ?_) | fail)
      refine E_res2 (by rfl) (by rfl) ⟨A1, ca, rfl, rfl⟩ Sb
  rw [if_neg h7] at hE
  obtain ⟨n, rfl⟩ : ∃ n : Nat, a = (n : Int) := ⟨a.toNat, by omega⟩
  rw [Int.toNat_natCast] at hE hC hN
  obtain ⟨x, hx⟩ : ∃ x, U[n]? = some x := ⟨_, List.getElem?_eq_getElem (by omega)⟩
  have hax : At U n x := ⟨hx⟩
  have hxd : U.getD n 0 = x := by rw [List.getD_eq_getElem?_getD, hx, Option.getD_some]
  have hx2 := hu x (List.mem_of_getElem? hx)
  rw [hxd] at hE hN
  have hnl : n < U.length := (List.getElem?_eq_some_iff.1 hx).1
  by_cases h5 : u < 0 ∨ 1099511627776 < u
  · rw [if_pos h5] at hE
    subst hE
    rw [if_neg (by decide)] at hC
    rw [if_neg (by simp)] at hN
    subst hC hN
    by_cases h0 : u < 0
    · repeat' (first | refine go ?_ | intro _ | (apply cG; first | refine cT ?_ | refine cF ?_ | refine cS (fun _ => ?_) fun _ => ?_) | (apply gW; refine sW ?_) | (apply gI; refine sI ?_) | (apply gE; refine sE ?_) | (apply gP; refine sP ?_) | (apply gC; refine sC ?_) | (apply gD; refine sD ?_) | fail)
      refine E_res2 (by rfl) (by rfl) ⟨A1, ca, rfl, rfl⟩ Sb
    · have : 1099511627776 < u := by omega
      repeat' (first | refine go ?_ | intro _ | (apply cG; first | refine cT ?_ | refine cF ?_ | refine cS (fun _ => ?_) fun _ => ?_) | (apply gW; refine sW ?_) | (apply gI; refine sI ?_) | (apply gE; refine sE ?_) | (apply gP; refine sP ?_) | (apply gC; refine sC ?_) | (apply gD; refine sD ?_) | fail)
      refine E_res2 (by rfl) (by rfl) ⟨A1, ca, rfl, rfl⟩ Sb
  rw [if_neg h5] at hE
  have hs := sumL_le hu U.length
  rw [List.take_length] at hs
  repeat' (first | refine go ?_ | intro _ | (apply cG; first | refine cT ?_ | refine cF ?_ | refine cS (fun _ => ?_) fun _ => ?_) | (apply gW; refine sW ?_) | (apply gI; refine sI ?_) | (apply gE; refine sE ?_) | (apply gP; refine sP ?_) | (apply gC; refine sC ?_) | (apply gD; refine sD ?_) | fail)
  refine C_draw (n := 99) [cel p [.slice A1 U.length ca, .slice B1 nf cb, .slice C1 ng cc] 32, rd eI (.slice A1 U.length ca) U] [(0, 1), (2, 1), (3, 1), (4, 1), (5, 1), (6, 1), (7, 1), (8, 1), (10, 1), (1, 0), (9, 1), (11, 1), (12, 1)] (by kernel_rfl) (by kernel_rfl) Sb ?_
  repeat' (first | refine go ?_ | intro _ | (apply cG; first | refine cT ?_ | refine cF ?_ | refine cS (fun _ => ?_) fun _ => ?_) | (apply gW; refine sW ?_) | (apply gI; refine sI ?_) | (apply gE; refine sE ?_) | (apply gP; refine sP ?_) | (apply gC; refine sC ?_) | (apply gD; refine sD ?_) | fail)
  refine D_op rfl ?_; refine X_d (dy_call ArgsI.pf (by first | exact rfl | trivial | (intro a b; rfl)) (rTotal_ct (U := U) (.head _) (.tail _ (.head _)) hl hu)) ?_; rintro _ _ ⟨_, ⟨rfl, hLL⟩, rfl⟩; replace hLL := hLL.symm; subst hLL; refine ⟨(by first | exact .inl rfl | exact .inr Sb), D_n ?_⟩
  by_cases h4 : sumL U - x + u > 1099511627776
  · rw [if_pos h4] at hE
    subst hE
    rw [if_neg (by decide)] at hC
    rw [if_neg (by simp)] at hN
    subst hC hN
    repeat' (first | refine go ?_ | intro _ | (apply cG; first | refine cT ?_ | refine cF ?_ | refine cS (fun _ => ?_) fun _ => ?_) | (apply gW; refine sW ?_) | (apply gI; refine sI ?_) | (apply gE; refine sE ?_) | (apply gP; refine sP ?_) | (apply gC; refine sC ?_) | (apply gD; refine sD ?_) | fail)
    refine E_res2 (by rfl) (by rfl) ⟨A1, ca, rfl, rfl⟩ Sb
  rw [if_neg h4] at hE
  subst hE
  rw [if_pos rfl] at hC
  by_cases hxu : x = u
  · rw [if_neg (fun h => h.2 hxu)] at hN
    have : U.set n u = U := by
      refine List.ext_getElem? fun i => ?_
      by_cases hi : n = i
      · subst hi
        rw [List.getElem?_set_self hnl, hx, hxu]
      · rw [List.getElem?_set_ne hi]
    rw [this] at hC
    subst hC hN
    repeat' (first | refine go ?_ | intro _ | (apply cG; first | refine cT ?_ | refine cF ?_ | refine cS (fun _ => ?_) fun _ => ?_) | (apply gW; refine sW ?_) | (apply gI; refine sI ?_) | (apply gE; refine sE ?_) | (apply gP; refine sP ?_) | (apply gC; refine sC ?_) | (apply gD; refine sD ?_) | fail)
    refine E_res2 (by rfl) (by rfl) ⟨A1, ca, rfl, rfl⟩ Sb
  rw [if_pos ⟨rfl, hxu⟩] at hN
  subst hC hN
  repeat' (first | refine go ?_ | intro _ | (apply cG; first | refine cT ?_ | refine cF ?_ | refine cS (fun _ => ?_) fun _ => ?_) | (apply gW; refine sW ?_) | (apply gI; refine sI ?_) | (apply gE; refine sE ?_) | (apply gP; refine sP ?_) | (apply gC; refine sC ?_) | (apply gD; refine sD ?_) | fail)
  refine O_d (dy_lit0 eI rfl) ?_; rintro _ _ ⟨_, rfl, rfl⟩; refine O_n ?_
  repeat' (first | refine go ?_ | intro _ | (apply cG; first | refine cT ?_ | refine cF ?_ | refine cS (fun _ => ?_) fun _ => ?_) | (apply gW; refine sW ?_) | (apply gI; refine sI ?_) | (apply gE; refine sE ?_) | (apply gP; refine sP ?_) | (apply gC; refine sC ?_) | (apply gD; refine sD ?_) | fail)
  rename_i A9 c9
  rw [List.nil_append]
  refine O_d (dy_storeE (f := iv) (hf := fun _ => rfl) (n := U.length) (c := c9) u (hy := Ev.pf) (hj := by omega)) ?_; rintro _ _ ⟨rfl, hLL⟩; replace hLL := hLL.trans SAt.pf; subst hLL; refine O_n ?_
  repeat' (first | refine go ?_ | intro _ | (apply cG; first | refine cT ?_ | refine cF ?_ | refine cS (fun _ => ?_) fun _ => ?_) | (apply gW; refine sW ?_) | (apply gI; refine sI ?_) | (apply gE; refine sE ?_) | (apply gP; refine sP ?_) | (apply gC; refine sC ?_) | (apply gD; refine sD ?_) | fail)
  refine E_frz 0 ?_
  refine E_res2 (by rfl) (by rfl) ⟨A9, c9, rfl, rfl⟩ Sb
end
end Go.Proofs.Ytlmabajgnjiigaa
