/-
  Walks: the program's Place.
-/
import Derived.Test.YteeapkfakehocaaMT
namespace Go.Proofs.Yteeapkfakehocaa
open Go Go.RowKit
set_option linter.unusedVariables false
set_option linter.unusedSimpArgs false
set_option maxRecDepth 20000
set_option synthInstance.maxSize 100000
set_option synthInstance.maxHeartbeats 400000
/-- what Place returns -/
def placeF (l : List AK) (t : List BX) (fuel : Int) : List Int × Int × Int :=
  if checkF l t = 0 then (if ((enterR t l 0 [] [] ⟨[], -1, 0⟩).steps : Int) ≤ fuel then ((enterR t l 0 [] [] ⟨[], -1, 0⟩).best, (enterR t l 0 [] [] ⟨[], -1, 0⟩).most, 0) else ([], 0, 19)) else ([], 0, checkF l t)
theorem enterP_neg {t : List BX} {fuel : Int} (hf : fuel < 0) : ∀ {l : List AK} {w : Int} {s : SrS}, l ≠ [] → enterP t fuel l w [] [] s = none
  | [], _, _, h => absurd rfl h
  | a :: ls, w, s, _ => by
    rw [enterP_cons, if_pos (by omega)]
/-- the search from its beginning, and the test after it -/
theorem place_enter (t : List BX) (fuel : Int) (l : List AK) : (match enterP t fuel l 0 [] [] ⟨[], -1, 0⟩ with
    | some s => if (s.steps : Int) > fuel then none else some s
    | none => none) = if ((enterR t l 0 [] [] ⟨[], -1, 0⟩).steps : Int) ≤ fuel then some (enterR t l 0 [] [] ⟨[], -1, 0⟩) else none := by
  by_cases hf : 0 ≤ fuel
  · rw [enter_agree t fuel l 0 [] [] ⟨[], -1, 0⟩ (by exact hf)]
    by_cases h : ((enterR t l 0 [] [] ⟨[], -1, 0⟩).steps : Int) ≤ fuel
    · rw [if_pos h]
      dsimp only
      rw [if_neg (by omega)]
    · rw [if_neg h]
  · rw [if_neg (by omega)]
    cases l with
    | nil =>
      show (if _ then _ else _) = _
      rw [if_pos]
      show ((if _ then _ else _ : SrS).steps : Int) > fuel
      split <;> (dsimp only; omega)
    | cons a ls => rw [enterP_neg (by omega) (by simp)]
theorem checkF_0 {l : List AK} {t : List BX} (h : checkF l t = 0) : l.length ≤ 64 ∧ t.length ≤ 256 ∧ (∀ a ∈ l, a.good) ∧ ∀ b ∈ t, b.good := by
  unfold checkF at h
  split at h
  · cases h
  rename_i h1
  split at h
  · rename_i h2
    split at h
    · rename_i h3
      exact ⟨by omega, by omega, h2, h3⟩
    · cases h
  · cases h
theorem restF_le : ∀ {ls : List AK}, (∀ a ∈ ls, a.good) → 0 ≤ restF ls ∧ restF ls ≤ ls.length * 1048576
  | [], _ => ⟨Int.le_refl _, Int.le_refl _⟩
  | a :: ls, h => by
    have h1 := restF_le (ls := ls) fun b hb => h b (.tail _ hb)
    have h2 := (h a (.head _)).2.2.2.2
    rw [restF_cons, List.length_cons]
    omega
section
variable {W0 : World} {L : List HP}
theorem Place_ct {A A2 : Option Addr} {c c2 : Nat} {l : List AK} {t : List BX} {fuel : Int} (hv : rd eAK (.slice A l.length c) l ∈ L) (hv2 : rd eBX (.slice A2 t.length c2) t ∈ L) (hf : I64 fuel) (h7 : l.length ≤ 7 ∨ checkF l t ≠ 0) :
    CT Try.prog 18 #[.slice A l.length c, .slice A2 t.length c2, .int .i64 fuel] W0 L fun r L' => ∃ A3 c3, r = .tuple #[.slice A3 (placeF l t fuel).1.length c3, .int .i64 (placeF l t fuel).2.1, .int .i64 (placeF l t fuel).2.2] ∧ L' = rd eI (.slice A3 (placeF l t fuel).1.length c3) (placeF l t fuel).1 :: L := by
  refine CT.sub ?_ (sub_dup hv2)
  refine CT.sub ?_ (sub_dup (.tail _ hv))
  by_cases hc : checkF l t = 0
  rotate_left
  · have hp : placeF l t fuel = ([], 0, checkF l t) := by unfold placeF; rw [if_neg hc]
    rw [hp]
    refine CT_enter Try.func18 rfl ?_; (simp only [Try.ntmps18, List.size_toArray, List.length_cons, List.length_nil, Nat.reduceAdd, Nat.reduceSub, Array.replicate_succ, Array.replicate_zero, List.push_toArray, List.append_toArray, List.nil_append, List.cons_append])
    repeat' (first | refine go ?_ | intro _ | (apply cG; first | refine cT ?_ | refine cF ?_ | refine cS (fun _ => ?_) fun _ => ?_) | (apply gW; refine sW ?_) | (apply gI; refine sI ?_) | (apply gE; refine sE ?_) | (apply gP; refine sP ?_) | (apply gC; refine sC ?_) | (apply gD; refine sD ?_) | fail)
    refine O_d (dy_call ArgsI.pf (by first | exact rfl | trivial | (intro a b; rfl)) (check_ct (l := l) (t := t) (by repeat (first | exact .head _ | refine .tail _ ?_)) (by repeat (first | exact .head _ | refine .tail _ ?_)))) ?_; rintro _ _ ⟨_, ⟨rfl, hLL⟩, rfl⟩; replace hLL := hLL.symm; subst hLL; refine O_n ?_
    repeat' (first | refine go ?_ | intro _ | (apply cG; first | refine cT ?_ | refine cF ?_ | refine cS (fun _ => ?_) fun _ => ?_) | (apply gW; refine sW ?_) | (apply gI; refine sI ?_) | (apply gE; refine sE ?_) | (apply gP; refine sP ?_) | (apply gC; refine sC ?_) | (apply gD; refine sD ?_) | fail)
    refine E_rdnil eI none 0 ?_
    refine E_res3 (by rfl) (by rfl) ⟨none, 0, rfl, rfl⟩ Sb
  replace h7 : l.length ≤ 7 := h7.resolve_right (fun h => h hc)
  obtain ⟨_, ht256, hg, _⟩ := checkF_0 hc
  have hp : placeF l t fuel = match (match enterP t fuel l 0 [] [] ⟨[], -1, 0⟩ with
    | some s => if (s.steps : Int) > fuel then none else some s
    | none => none) with
    | some s => (s.best, s.most, 0)
    | none => ([], 0, 19) := by
    rw [place_enter]
    unfold placeF
    rw [if_pos hc]
    split <;> rfl
  rw [hp]
  refine CT_enter Try.func18 rfl ?_; (simp only [Try.ntmps18, List.size_toArray, List.length_cons, List.length_nil, Nat.reduceAdd, Nat.reduceSub, Array.replicate_succ, Array.replicate_zero, List.push_toArray, List.append_toArray, List.nil_append, List.cons_append])
  repeat' (first | refine go ?_ | intro _ | (apply cG; first | refine cT ?_ | refine cF ?_ | refine cS (fun _ => ?_) fun _ => ?_) | (apply gW; refine sW ?_) | (apply gI; refine sI ?_) | (apply gE; refine sE ?_) | (apply gP; refine sP ?_) | (apply gC; refine sC ?_) | (apply gD; refine sD ?_) | fail)
  refine O_d (dy_call ArgsI.pf (by first | exact rfl | trivial | (intro a b; rfl)) (check_ct (l := l) (t := t) (by repeat (first | exact .head _ | refine .tail _ ?_)) (by repeat (first | exact .head _ | refine .tail _ ?_)))) ?_; rintro _ _ ⟨_, ⟨rfl, hLL⟩, rfl⟩; replace hLL := hLL.symm; subst hLL; refine O_n ?_
  rw [hc]
  repeat' (first | refine go ?_ | intro _ | (apply cG; first | refine cT ?_ | refine cF ?_ | refine cS (fun _ => ?_) fun _ => ?_) | (apply gW; refine sW ?_) | (apply gI; refine sI ?_) | (apply gE; refine sE ?_) | (apply gP; refine sP ?_) | (apply gC; refine sC ?_) | (apply gD; refine sD ?_) | fail)
  rename_i pl pf pr
  refine C_sub (S := cel pr (List.replicate 65 (.int .i64 0)) 74 :: cel pf [.int .i64 fuel] 3 :: cel pl [.slice A l.length c] 27 :: rd eAK (.slice A l.length c) l :: rd eBX (.slice A2 t.length c2) t :: L) (Sub.refl _) ?_
  refine C_loopS (κ := Nat × List Value) [false, false, false, false, false, false, false, false, false, false, false, true, false, false, false, false, false, false, false, false, false, false, false, false, false, false, false, false, true, true, true, true, true, true, true, true, true, true, true, true, true, true, true, true, false, false, false, false, false, false, false, false, false, false, false, false, false, false, false, false, false] (fun k => [(11, .int .i64 ((k.1 : Int) - 1))]) (fun k => [(0, cel pr k.2 74)]) (fun k => k.1 ≤ l.length ∧ k.2.length = 65 ∧ ∀ j, k.1 ≤ j → j ≤ l.length → k.2[j]? = some (.int .i64 (restF (l.drop j)))) (fun k => k.1) (l.length, List.replicate 65 (.int .i64 0)) ⟨Nat.le_refl _, rfl, fun j h1 h2 => by obtain rfl : j = l.length := Nat.le_antisymm h2 h1; rw [List.drop_length, List.getElem?_replicate, if_pos (by omega)]; rfl⟩ ⟨rfl, trivial⟩ ?_
  rintro ⟨m, rs⟩ u ⟨hm, hrl, hrs⟩
  dsimp only at hm hrl hrs
  dsimp only
  ((try dsimp only); refine C_n ?_; (try simp only [Nat.reduceAdd, Nat.zero_add]))
  cases m with
  | succ m =>
    obtain ⟨x, hx⟩ : ∃ x, l[m]? = some x := ⟨_, List.getElem?_eq_getElem (by omega)⟩
    have hax : At l m x := ⟨hx⟩
    have hgr : GA rs (m + 1) (.int .i64 (restF (l.drop (m + 1)))) := ⟨hrs (m + 1) (Nat.le_refl _) hm⟩
    have hb := restF_le (ls := l.drop (m + 1)) fun a ha => hg a (List.mem_of_mem_drop ha)
    have hxg := (hg x (List.mem_of_getElem? hx)).2.2.2.2
    have hbl : (l.drop (m + 1)).length ≤ 7 := by rw [List.length_drop]; omega
    have hdr : restF (l.drop m) = x.g + restF (l.drop (m + 1)) := by
      rw [List.drop_eq_getElem_cons (by omega : m < l.length), (List.getElem?_eq_some_iff.1 hx).2]
      exact restF_cons
    rw [show ((m + 1 : Nat) : Int) - 1 = (m : Int) by omega]
    repeat' (first | refine go ?_ | intro _ | (apply cG; first | refine cT ?_ | refine cF ?_ | refine cS (fun _ => ?_) fun _ => ?_) | (apply gW; refine sW ?_) | (apply gI; refine sI ?_) | (apply gE; refine sE ?_) | (apply gP; refine sP ?_) | (apply gC; refine sC ?_) | (apply gD; refine sD ?_) | fail)
    refine C_draw (n := 12) [cel pr rs 74, cel pl [.slice A l.length c] 27, rd eAK (.slice A l.length c) l] [(0, 1), (1, 1), (2, 1), (3, 1), (4, 1), (5, 1), (6, 1), (7, 1), (8, 1), (9, 1), (10, 1), (11, 1), (12, 0)] (by kernel_rfl) (by kernel_rfl) Sb ?_
    repeat' (first | refine go ?_ | intro _ | (apply cG; first | refine cT ?_ | refine cF ?_ | refine cS (fun _ => ?_) fun _ => ?_) | (apply gW; refine sW ?_) | (apply gI; refine sI ?_) | (apply gE; refine sE ?_) | (apply gP; refine sP ?_) | (apply gC; refine sC ?_) | (apply gD; refine sD ?_) | fail)
    refine D_op rfl ?_; refine X_s (sv_idxA (len := 65) (e := 3) (size := 1) (off := 0) (o2 := m + 1) (k := .i64) (i := (m : Int) + 1) (by kernel_rfl) (fun w => by kernel_rfl) Ev.pf Ev.pf (by omega) (by omega) (by omega)) ?_
    repeat' (first | refine go ?_ | intro _ | (apply cG; first | refine cT ?_ | refine cF ?_ | refine cS (fun _ => ?_) fun _ => ?_) | (apply gW; refine sW ?_) | (apply gI; refine sI ?_) | (apply gE; refine sE ?_) | (apply gP; refine sP ?_) | (apply gC; refine sC ?_) | (apply gD; refine sD ?_) | fail)
    refine D_op rfl ?_; refine X_s (sv_idxA (len := 65) (e := 3) (size := 1) (off := 0) (o2 := m) (k := .i64) (i := (m : Int)) (by kernel_rfl) (fun w => by kernel_rfl) Ev.pf Ev.pf (by omega) (by omega) (by omega)) ?_
    repeat' (first | refine go ?_ | intro _ | (apply cG; first | refine cT ?_ | refine cF ?_ | refine cS (fun _ => ?_) fun _ => ?_) | (apply gW; refine sW ?_) | (apply gI; refine sI ?_) | (apply gE; refine sE ?_) | (apply gP; refine sP ?_) | (apply gC; refine sC ?_) | (apply gD; refine sD ?_) | fail)
    refine D_op rfl ?_; refine X_d (dy_store (hlt := by omega) (hcs := rfl)) ?_; rintro _ _ ⟨rfl, hLL⟩; replace hLL := hLL.trans SAt.pf; subst hLL; refine ⟨(by first | exact .inl rfl | exact .inr Sb), D_n ?_⟩
    repeat' (first | refine go ?_ | intro _ | (apply cG; first | refine cT ?_ | refine cF ?_ | refine cS (fun _ => ?_) fun _ => ?_) | (apply gW; refine sW ?_) | (apply gI; refine sI ?_) | (apply gE; refine sE ?_) | (apply gP; refine sP ?_) | (apply gC; refine sC ?_) | (apply gD; refine sD ?_) | fail)
    refine E_round (m, rs.set m (.int .i64 (restF (l.drop (m + 1)) + x.g))) ⟨by dsimp only; omega, by dsimp only; rw [List.length_set]; exact hrl, fun j h1 h2 => ?_⟩ (by dsimp only; omega) ⟨rfl, trivial⟩ Sb
    dsimp only at h1 h2 ⊢
    rw [List.getElem?_set]
    by_cases hj : m = j
    · subst hj
      rw [if_pos rfl, if_pos (by omega), hdr, Int.add_comm]
    · rw [if_neg hj]
      exact hrs j (by omega) h2
  | zero =>
    repeat' (first | refine go ?_ | intro _ | (apply cG; first | refine cT ?_ | refine cF ?_ | refine cS (fun _ => ?_) fun _ => ?_) | (apply gW; refine sW ?_) | (apply gI; refine sI ?_) | (apply gE; refine sE ?_) | (apply gP; refine sP ?_) | (apply gC; refine sC ?_) | (apply gD; refine sD ?_) | fail)
    refine O_d (dy_call ArgsI.pf (by first | exact rfl | trivial | (intro a b; rfl)) (choices_ct (l := l) (t := t) (by repeat (first | exact .head _ | refine .tail _ ?_)) (by repeat (first | exact .head _ | refine .tail _ ?_)) (by omega) (by omega))) ?_; rintro _ _ ⟨_, ⟨A7, c7, rfl, rfl⟩, rfl⟩; refine O_n ?_
    repeat' (first | refine go ?_ | intro _ | (apply cG; first | refine cT ?_ | refine cF ?_ | refine cS (fun _ => ?_) fun _ => ?_) | (apply gW; refine sW ?_) | (apply gI; refine sI ?_) | (apply gE; refine sE ?_) | (apply gP; refine sP ?_) | (apply gC; refine sC ?_) | (apply gD; refine sD ?_) | fail)
    refine O_d (dy_make0 (n := l.length) eI) ?_; rintro _ _ ⟨g, rfl, rfl⟩; refine O_n ?_
    repeat' (first | refine go ?_ | intro _ | (apply cG; first | refine cT ?_ | refine cF ?_ | refine cS (fun _ => ?_) fun _ => ?_) | (apply gW; refine sW ?_) | (apply gI; refine sI ?_) | (apply gE; refine sE ?_) | (apply gP; refine sP ?_) | (apply gC; refine sC ?_) | (apply gD; refine sD ?_) | fail)
    rename_i bp bb bm bs bn bq
    refine O_d (dy_alloc (cs := [.nilFunc]) (by rfl)) ?_; rintro _ _ ⟨be, rfl, rfl⟩; refine O_n ?_
    repeat' (first | refine go ?_ | intro _ | (apply cG; first | refine cT ?_ | refine cF ?_ | refine cS (fun _ => ?_) fun _ => ?_) | (apply gW; refine sW ?_) | (apply gI; refine sI ?_) | (apply gE; refine sE ?_) | (apply gP; refine sP ?_) | (apply gC; refine sC ?_) | (apply gD; refine sD ?_) | fail)
    refine O_rdnil eI none 0 ?_
    refine O_rdnil eBX none 0 ?_
    refine O_sub (S := cel pl [.slice A l.length c] 27 :: cel bm [.int .i64 (-1)] 3 :: cel bn [.slice (some ⟨g, 0, none⟩) ([] : List Int).length l.length] 22 :: cel bb [.slice none ([] : List Int).length 0] 22 :: cel bs [.int .i64 ((0 : Nat) : Int)] 3 :: cel pf [.int .i64 fuel] 3 :: cel pr rs 74 :: cel bq [.slice none ([] : List BX).length 0] 42 :: cel bp [.slice A7 l.length c7] 75 :: cel be [.func (.func 40) #[] #[.pointer (some ⟨pl, 0, none⟩), .pointer (some ⟨bm, 0, none⟩), .pointer (some ⟨bn, 0, none⟩), .pointer (some ⟨bb, 0, none⟩), .pointer (some ⟨bs, 0, none⟩), .pointer (some ⟨pf, 0, none⟩), .pointer (some ⟨pr, 0, none⟩), .pointer (some ⟨bq, 0, none⟩), .pointer (some ⟨bp, 0, none⟩), .pointer (some ⟨be, 0, none⟩)]] 77 :: own 3 eI (.slice (some ⟨g, 0, none⟩) ([] : List Int).length l.length) ([] : List Int) :: rd eI (.slice none ([] : List Int).length 0) ([] : List Int) :: rd eBX (.slice none ([] : List BX).length 0) ([] : List BX) :: rd (eSl eCH) (.slice A7 l.length c7) (l.map fun a => choF a t) :: rd eAK (.slice A l.length c) l :: rd eBX (.slice A2 t.length c2) t :: L) Sb ?_
    have hmono : stepsB l.length ≤ 100000 := by
      have : ∀ n : Fin 8, stepsB n.val ≤ 100000 := by decide
      exact this ⟨l.length, by omega⟩
    have hrb := restF_le hg
    have hct := enter_ct (W0 := W0) (t := t) (rs := rs) (Al := A) (Ap := A7) (cl := c) (cp := c7) (bl := pl) (bm := bm) (bn := bn) (bb := bb) (bs := bs) (bf := pf) (br := pr) (bq := bq) (bp := bp) (be := be) h7 hg (fun j hj => hrs j (Nat.zero_le _) hj) hf l 0 (rd (eSl eCH) (.slice A7 l.length c7) (l.map fun a => choF a t) :: rd eAK (.slice A l.length c) l :: rd eBX (.slice A2 t.length c2) t :: L) rfl (Nat.zero_add _) (.tail _ (.head _)) (.head _) 0 [] [] ⟨[], -1, 0⟩ (some ⟨g, 0, none⟩) l.length none 0 none 0 rfl (Nat.le_refl _) (fun _ => rfl) (Nat.le_refl _) (Int.le_refl _) (by omega) (by dsimp only; omega)
    refine O_d (dy_callv (B := #[.pointer (some ⟨pl, 0, none⟩), .pointer (some ⟨bm, 0, none⟩), .pointer (some ⟨bn, 0, none⟩), .pointer (some ⟨bb, 0, none⟩), .pointer (some ⟨bs, 0, none⟩), .pointer (some ⟨pf, 0, none⟩), .pointer (some ⟨pr, 0, none⟩), .pointer (some ⟨bq, 0, none⟩), .pointer (some ⟨bp, 0, none⟩), .pointer (some ⟨be, 0, none⟩)]) Ev.pf ArgsI.pf (by simp only [List.append_toArray, List.nil_append, List.append_nil, List.cons_append] <;> exact rfl) (by first | exact rfl | trivial | (intro a b; rfl)) hct) ?_; rintro _ L9 ⟨v9, hR, rfl⟩
    cases hq : enterP t fuel l 0 [] [] ⟨[], -1, 0⟩ with
    | none =>
      rw [hq] at hR
      obtain ⟨rfl, rfl⟩ := hR
      refine O_n ?_
      repeat' (first | refine go ?_ | intro _ | (apply cG; first | refine cT ?_ | refine cF ?_ | refine cS (fun _ => ?_) fun _ => ?_) | (apply gW; refine sW ?_) | (apply gI; refine sI ?_) | (apply gE; refine sE ?_) | (apply gP; refine sP ?_) | (apply gC; refine sC ?_) | (apply gD; refine sD ?_) | fail)
      refine E_rdnil eI none 0 ?_
      refine E_res3 (by rfl) (by rfl) ⟨none, 0, rfl, rfl⟩ Sb
    | some s3 =>
      rw [hq] at hR
      obtain ⟨rfl, An3, cn3, nl3, Ab3, cb3, Aq3, nq3, cq3, g1, g2, g3, rfl⟩ := hR
      refine O_n ?_
      by_cases hst : (s3.steps : Int) > fuel
      · dsimp only
        rw [if_pos hst]
        repeat' (first | refine go ?_ | intro _ | (apply cG; first | refine cT ?_ | refine cF ?_ | refine cS (fun _ => ?_) fun _ => ?_) | (apply gW; refine sW ?_) | (apply gI; refine sI ?_) | (apply gE; refine sE ?_) | (apply gP; refine sP ?_) | (apply gC; refine sC ?_) | (apply gD; refine sD ?_) | fail)
        refine E_rdnil eI none 0 ?_
        refine E_res3 (by rfl) (by rfl) ⟨none, 0, rfl, rfl⟩ Sb
      · dsimp only
        rw [if_neg hst]
        repeat' (first | refine go ?_ | intro _ | (apply cG; first | refine cT ?_ | refine cF ?_ | refine cS (fun _ => ?_) fun _ => ?_) | (apply gW; refine sW ?_) | (apply gI; refine sI ?_) | (apply gE; refine sE ?_) | (apply gP; refine sP ?_) | (apply gC; refine sC ?_) | (apply gD; refine sD ?_) | fail)
        refine C_draw (n := 99) [cel bm [.int .i64 s3.most] 3, cel bb [.slice Ab3 s3.best.length cb3] 22] [(0, 1), (1, 1), (2, 1), (3, 1), (4, 1)] (by kernel_rfl) (by kernel_rfl) Sb ?_
        repeat' (first | refine go ?_ | intro _ | (apply cG; first | refine cT ?_ | refine cF ?_ | refine cS (fun _ => ?_) fun _ => ?_) | (apply gW; refine sW ?_) | (apply gI; refine sI ?_) | (apply gE; refine sE ?_) | (apply gP; refine sP ?_) | (apply gC; refine sC ?_) | (apply gD; refine sD ?_) | fail)
        refine E_res3 (by rfl) (by rfl) ⟨Ab3, cb3, rfl, rfl⟩ Sb
end
end Go.Proofs.Yteeapkfakehocaa
