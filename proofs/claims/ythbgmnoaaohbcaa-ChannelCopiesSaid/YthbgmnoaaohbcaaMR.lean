/-
  Walks of package channel: Out.
-/
import Derived.Test.YthbgmnoaaohbcaaMQ
import Derived.Test.YthbgmnoaaohbcaaMN
namespace Go.Proofs.Ythbgmnoaaohbcaa
open Go Go.RowKit
set_option linter.unusedVariables false
set_option linter.unusedSimpArgs false
set_option maxRecDepth 20000
set_option synthInstance.maxSize 100000
set_option synthInstance.maxHeartbeats 400000
def pkL (acked got : Int) : Nat → List (List UInt8) → List (Int × Int × List UInt8)
  | _, [] => []
  | i, b :: r => (acked + i + 1, got, b) :: pkL acked got (i + 1) r
theorem pkL_snoc (acked got : Int) : ∀ (xs : List (List UInt8)) (i : Nat) (x : List UInt8), pkL acked got i (xs ++ [x]) = pkL acked got i xs ++ [(acked + ((i + xs.length : Nat) : Int) + 1, got, x)]
  | [], i, x => rfl
  | y :: r, i, x => by
    show _ :: pkL acked got (i + 1) (r ++ [x]) = _ :: (pkL acked got (i + 1) r ++ _)
    rw [pkL_snoc acked got r (i + 1) x, List.length_cons]
    have : i + 1 + r.length = i + (r.length + 1) := by omega
    rw [this]
theorem pkL_len (acked got : Int) : ∀ (xs : List (List UInt8)) (i : Nat), (pkL acked got i xs).length = xs.length
  | [], _ => rfl
  | _ :: r, i => by simp only [pkL, List.length_cons, pkL_len acked got r (i + 1)]
/-- what Out returns -/
def outP (w acked got : Int) (wait : List (List UInt8)) (ow : Bool) : List (Int × Int × List UInt8) :=
  if wait = [] ∧ ow = true then [(0, got, [])] else pkL acked got 0 (wait.take w.toNat)
theorem outP_len {w acked got : Int} {wait : List (List UInt8)} {ow : Bool} (hw : w ≤ 16) : (outP w acked got wait ow).length ≤ 16 := by
  unfold outP
  split
  · simp
  · rw [pkL_len, List.length_take]; omega
theorem pkL_get {acked got : Int} : ∀ {xs : List (List UInt8)} {i j : Nat}, (pkL acked got i xs)[j]? = (xs[j]?).map fun b => (acked + ((i + j : Nat) : Int) + 1, got, b)
  | [], i, j => by simp [pkL]
  | x :: r, i, 0 => by simp [pkL]
  | x :: r, i, j + 1 => by
    show (pkL acked got (i + 1) r)[j]? = (r[j]?).map _
    rw [pkL_get]
    have : i + 1 + j = i + (j + 1) := by omega
    rw [this]
theorem outP_get {l : List PK} {w acked got : Int} {wait : List (List UInt8)} {ow : Bool} {j : Nat} {x : PK} (h : l.map PK.p = outP w acked got wait ow) (hw : wait ≠ [] ∨ ow = false) (hx : l[j]? = some x) : x.s = acked + (j : Int) + 1 ∧ x.a = got ∧ wait[j]? = some x.b := by
  have h1 : (l.map PK.p)[j]? = some (x.s, x.a, x.b) := by rw [List.getElem?_map, hx]; rfl
  have hn : ¬ (wait = [] ∧ ow = true) := fun hh => by
    rcases hw with h | h
    · exact h hh.1
    · rw [h] at hh; cases hh.2
  rw [h, outP, if_neg hn, pkL_get, List.getElem?_take] at h1
  split at h1
  · cases hb : wait[j]? with
    | none => rw [hb] at h1; cases h1
    | some b =>
      rw [hb] at h1
      simp only [Option.map_some, Option.some.injEq, Prod.mk.injEq, Nat.zero_add] at h1
      exact ⟨h1.1.symm, h1.2.1.symm, by rw [h1.2.2]⟩
  · cases h1
theorem outP_length {l : List PK} {w acked got : Int} {wait : List (List UInt8)} {ow : Bool} (h : l.map PK.p = outP w acked got wait ow) (hw : wait ≠ [] ∨ ow = false) : l.length = min w.toNat wait.length := by
  have hn : ¬ (wait = [] ∧ ow = true) := fun hh => by
    rcases hw with h | h
    · exact h hh.1
    · rw [h] at hh; cases hh.2
  have := congrArg List.length h
  rw [List.length_map, outP, if_neg hn, pkL_len, List.length_take] at this
  exact this
theorem Out_ct {W0 : World} {L : List HP} {p : Nat} {w acked got : Int} {wait : List (List UInt8)} {held : List (Int × SB)} {ow : Bool} (h1 : 1 ≤ w) (h2 : w ≤ 16) (hw : wait.length ≤ 1000) (hb : ∀ x ∈ wait, x.length ≤ 65536) (ha1 : 0 ≤ acked) (ha2 : acked ≤ 1000000000000) (hg1 : 0 ≤ got) (hg2 : got ≤ 1000000000000) :
    CT Try.prog 15 #[.pointer (some ⟨p, 0, none⟩)] W0 (endo p w acked got wait held ow :: L) fun r L' => ∃ A c l, l.map PK.p = outP w acked got wait ow ∧ r = .slice A l.length c ∧ L' = own 44 ePK (.slice A l.length c) l :: endo p w acked got wait held false :: L := by
  refine endo_ct fun A c bm hc => ?_
  obtain ⟨N, hN⟩ : ∃ N, min wait.length w.toNat = N := ⟨_, rfl⟩
  have hNm : (if w < (wait.length : Int) then w else (wait.length : Int)) = (N : Int) := by split <;> omega
  refine CT_enter Try.func15 rfl ?_; (simp only [Try.ntmps15, List.size_toArray, List.length_cons, List.length_nil, Nat.reduceAdd, Nat.reduceSub, Array.replicate_succ, Array.replicate_zero, List.push_toArray, List.append_toArray, List.nil_append, List.cons_append])
  repeat' (first | refine go ?_ | intro _ | (apply cG; first | refine cT ?_ | refine cF ?_ | refine cS (fun _ => ?_) fun _ => ?_) | (apply gW; refine sW ?_) | (apply gI; refine sI ?_) | (apply gE; refine sE ?_) | (apply gP; refine sP ?_) | (apply gC; refine sC ?_) | (apply gD; refine sD ?_) | fail)
  refine C_draw (n := 99) [cel p [.int .i64 w, .slice A wait.length c, .int .i64 acked, .int .i64 got, .map (some bm), .bool ow] 85] [(0, 1), (1, 1), (2, 1), (3, 1), (4, 1), (5, 1), (6, 1), (7, 1), (8, 1), (9, 1), (10, 1), (11, 1), (12, 1), (13, 1), (14, 1), (15, 1), (16, 1)] (by kernel_rfl) (by kernel_rfl) Sb ?_
  repeat' (first | refine go ?_ | intro _ | (apply cG; first | refine cT ?_ | refine cF ?_ | refine cS (fun _ => ?_) fun _ => ?_) | fail)
  apply gW; refine sW (r := (N : Int)) ?_ hNm
  repeat' (first | refine go ?_ | intro _ | (apply cG; first | refine cT ?_ | refine cF ?_ | refine cS (fun _ => ?_) fun _ => ?_) | (apply gW; refine sW ?_) | (apply gI; refine sI ?_) | (apply gE; refine sE ?_) | (apply gP; refine sP ?_) | (apply gC; refine sC ?_) | (apply gD; refine sD ?_) | fail)
  refine D_op rfl ?_; refine X_s (sv_slice (l' := 0) (h' := N) (l := 0) (h := N)) ?_
  rw [cutA0, Nat.sub_zero]
  repeat' (first | refine go ?_ | intro _ | (apply cG; first | refine cT ?_ | refine cF ?_ | refine cS (fun _ => ?_) fun _ => ?_) | (apply gW; refine sW ?_) | (apply gI; refine sI ?_) | (apply gE; refine sE ?_) | (apply gP; refine sP ?_) | (apply gC; refine sC ?_) | (apply gD; refine sD ?_) | fail)
  refine C_ownnil 44 ePK ?_
  refine C_loopS (κ := Nat × Value × List PK) [false, false, false, true, true, true, false, false, false, false, false, false, false, false, false, false, false, false, false, false, false, false, true, true, true, true, true, true, true, true, true, true, true, true, true, true, true, true, true, true, true, true, true, true, true, false, false, false, false, false, false, false, false, false, false, false, false, false, false, false, false, false, false, false, false, false] (fun k => [(3, k.2.1), (22, .int .i64 (k.1 : Int))]) (fun k => [(0, own 44 ePK k.2.1 k.2.2)]) (fun k => k.1 ≤ N ∧ k.2.2.length = k.1 ∧ k.2.2.map PK.p = pkL acked got 0 (wait.take k.1) ∧ ∃ A c, k.2.1 = .slice A k.1 c) (fun k => N - k.1) (0, .slice none 0 0, []) ⟨Nat.zero_le _, rfl, rfl, none, 0, rfl⟩ ⟨rfl, rfl, trivial⟩ ?_
  rintro ⟨i, va, out⟩ u ⟨hi, hol, hout, A6, c6, hva⟩
  dsimp only at hi hol hout hva
  subst hva
  ((try dsimp only); refine C_n ?_; (try simp only [Nat.reduceAdd, Nat.zero_add]))
  by_cases hlt : i < N
  · obtain ⟨y, hy⟩ : ∃ y, wait[i]? = some y := ⟨_, List.getElem?_eq_getElem (by omega)⟩
    have hay : At wait i y := ⟨hy⟩
    have hyl := hb y (List.mem_of_getElem? hy)
    repeat' (first | refine go ?_ | intro _ | (apply cG; first | refine cT ?_ | refine cF ?_ | refine cS (fun _ => ?_) fun _ => ?_) | (apply gW; refine sW ?_) | (apply gI; refine sI ?_) | (apply gE; refine sE ?_) | (apply gP; refine sP ?_) | (apply gC; refine sC ?_) | (apply gD; refine sD ?_) | fail)
    refine O_s (sv_idx (R := eSl eB) (l := wait.take N) (j := i) Ev.pf Ev.pf (fun w s => Sl.cut0 (Src.sl (.inr ⟨_, .tail _ (.tail _ (.head _))⟩) s) (by omega))) ?_
    repeat' (first | refine go ?_ | intro _ | (apply cG; first | refine cT ?_ | refine cF ?_ | refine cS (fun _ => ?_) fun _ => ?_) | (apply gW; refine sW ?_) | (apply gI; refine sI ?_) | (apply gE; refine sE ?_) | (apply gP; refine sP ?_) | (apply gC; refine sC ?_) | (apply gD; refine sD ?_) | fail)
    rename_i A7 c7
    refine C_draw (n := 99) [cel p [.int .i64 w, .slice A wait.length c, .int .i64 acked, .int .i64 got, .map (some bm), .bool ow] 85] [(0, 1), (1, 1), (2, 1), (3, 1), (4, 1), (5, 1), (6, 1), (7, 1), (8, 1), (9, 1), (10, 1), (11, 1), (12, 1), (13, 0), (14, 1), (15, 0), (16, 0), (17, 1)] (by kernel_rfl) (by kernel_rfl) Sb ?_
    repeat' (first | refine go ?_ | intro _ | (apply cG; first | refine cT ?_ | refine cF ?_ | refine cS (fun _ => ?_) fun _ => ?_) | (apply gW; refine sW ?_) | (apply gI; refine sI ?_) | (apply gE; refine sE ?_) | (apply gP; refine sP ?_) | (apply gC; refine sC ?_) | (apply gD; refine sD ?_) | fail)
    refine D_op rfl ?_; refine X_d (dy_call ArgsI.pf (by first | exact rfl | trivial | (intro a b; rfl)) (Clone_ct (l := y) Sc.pf (by omega))) ?_; rintro _ _ ⟨_, ⟨A8, c8, rfl, rfl⟩, rfl⟩; refine ⟨(by first | exact .inl rfl | exact .inr Sb), D_n ?_⟩
    refine D_fr0 0 rfl SAt.pf ?_
    repeat' (first | refine go ?_ | intro _ | (apply cG; first | refine cT ?_ | refine cF ?_ | refine cS (fun _ => ?_) fun _ => ?_) | (apply gW; refine sW ?_) | (apply gI; refine sI ?_) | (apply gE; refine sE ?_) | (apply gP; refine sP ?_) | (apply gC; refine sC ?_) | (apply gD; refine sD ?_) | fail)
    refine D_d rfl (dy_lit1 (R := ePK) ⟨acked + i + 1, got, .slice A8 y.length c8, y⟩ (hcs := by rfl) (hel := fun m h hs => ⟨rfl, rd_mem hs (by repeat (first | exact .head _ | refine .tail _ ?_))⟩)) ?_; rintro _ _ ⟨_, rfl, rfl⟩; refine ⟨(by first | exact .inl rfl | exact .inr Sb), D_n ?_⟩
    repeat' (first | refine go ?_ | intro _ | (apply cG; first | refine cT ?_ | refine cF ?_ | refine cS (fun _ => ?_) fun _ => ?_) | (apply gW; refine sW ?_) | (apply gI; refine sI ?_) | (apply gE; refine sE ?_) | (apply gP; refine sP ?_) | (apply gC; refine sC ?_) | (apply gD; refine sD ?_) | fail)
    rename_i A9 c9
    subst hol
    refine E_round (out.length + 1, .slice A9 (out.length + 1) c9, out ++ [⟨acked + out.length + 1, got, .slice A8 y.length c8, y⟩]) ⟨hlt, List.length_append, ?_, A9, c9, rfl⟩ (by show N - (out.length + 1) < N - out.length; omega) ⟨rfl, rfl, trivial⟩ Sb
    show _ = pkL acked got 0 (wait.take (out.length + 1))
    have ht : wait.take (out.length + 1) = wait.take out.length ++ [y] := by rw [List.take_add_one, hy]; rfl
    rw [ht, pkL_snoc, List.map_append, hout, List.length_take, Nat.min_eq_left (by omega), Nat.zero_add]
    rfl
  obtain rfl : i = N := by omega
  subst hol
  have hNw : wait.take out.length = wait.take w.toNat := by
    rw [← hN]
    rcases Nat.le_total wait.length w.toNat with h | h
    · rw [Nat.min_eq_left h, List.take_length, List.take_of_length_le h]
    · rw [Nat.min_eq_right h]
  rw [hNw] at hout
  by_cases h0 : out.length = 0
  · cases ow
    · repeat' (first | refine go ?_ | intro _ | (apply cG; first | refine cT ?_ | refine cF ?_ | refine cS (fun _ => ?_) fun _ => ?_) | (apply gW; refine sW ?_) | (apply gI; refine sI ?_) | (apply gE; refine sE ?_) | (apply gP; refine sP ?_) | (apply gC; refine sC ?_) | (apply gD; refine sD ?_) | fail)
      refine E_sub (S := own 44 ePK (.slice A6 out.length c6) out :: cel p [.int .i64 w, .slice A wait.length c, .int .i64 acked, .int .i64 got, .map (some bm), .bool false] 85 :: own 31 (eSl eB) (.slice A wait.length c) wait :: mapo mSB bm held :: L) Sb ?_
      refine E_sub (sub_skip endo_sub) ?_
      refine E_res1 (by rfl) (by rfl) ⟨_, _, out, by unfold outP; rw [if_neg (fun h => by cases h.2), hout], rfl, rfl⟩ Sb
    · have he : out = [] := List.length_eq_zero_iff.1 h0
      subst he
      have hw0 : wait = [] := List.length_eq_zero_iff.1 (by simp only [List.length_nil] at hN; omega)
      repeat' (first | refine go ?_ | intro _ | (apply cG; first | refine cT ?_ | refine cF ?_ | refine cS (fun _ => ?_) fun _ => ?_) | (apply gW; refine sW ?_) | (apply gI; refine sI ?_) | (apply gE; refine sE ?_) | (apply gP; refine sP ?_) | (apply gC; refine sC ?_) | (apply gD; refine sD ?_) | fail)
      refine O_d (dy_lit1 (R := ePK) ⟨0, got, .slice none 0 0, []⟩ (hcs := by rfl) (hel := fun m h hs => ⟨rfl, Sl.nil _ _ _ _⟩)) ?_; rintro _ _ ⟨_, rfl, rfl⟩; refine O_n ?_
      refine O_d dy_append ?_; rintro _ _ ⟨A9, c9, rfl, rfl⟩; refine O_n ?_
      repeat' (first | refine go ?_ | intro _ | (apply cG; first | refine cT ?_ | refine cF ?_ | refine cS (fun _ => ?_) fun _ => ?_) | (apply gW; refine sW ?_) | (apply gI; refine sI ?_) | (apply gE; refine sE ?_) | (apply gP; refine sP ?_) | (apply gC; refine sC ?_) | (apply gD; refine sD ?_) | fail)
      refine E_sub (S := own 44 ePK (.slice A9 1 c9) [⟨0, got, .slice none 0 0, []⟩] :: cel p [.int .i64 w, .slice A wait.length c, .int .i64 acked, .int .i64 got, .map (some bm), .bool false] 85 :: own 31 (eSl eB) (.slice A wait.length c) wait :: mapo mSB bm held :: L) Sb ?_
      refine E_sub (sub_skip endo_sub) ?_
      refine E_res1 (by rfl) (by rfl) ⟨A9, c9, [⟨0, got, .slice none 0 0, []⟩], by unfold outP; rw [if_pos ⟨hw0, rfl⟩]; rfl, rfl, rfl⟩ Sb
  · have hw0 : wait ≠ [] := fun h => by rw [h] at hN; simp at hN; exact h0 (by rw [← hN])
    repeat' (first | refine go ?_ | intro _ | (apply cG; first | refine cT ?_ | refine cF ?_ | refine cS (fun _ => ?_) fun _ => ?_) | (apply gW; refine sW ?_) | (apply gI; refine sI ?_) | (apply gE; refine sE ?_) | (apply gP; refine sP ?_) | (apply gC; refine sC ?_) | (apply gD; refine sD ?_) | fail)
    refine E_sub (S := own 44 ePK (.slice A6 out.length c6) out :: cel p [.int .i64 w, .slice A wait.length c, .int .i64 acked, .int .i64 got, .map (some bm), .bool false] 85 :: own 31 (eSl eB) (.slice A wait.length c) wait :: mapo mSB bm held :: L) Sb ?_
    refine E_sub (sub_skip endo_sub) ?_
    refine E_res1 (by rfl) (by rfl) ⟨_, _, out, by unfold outP; rw [if_neg (fun h => hw0 h.1), hout], rfl, rfl⟩ Sb
end Go.Proofs.Ythbgmnoaaohbcaa
namespace Go.Proofs.Ythbgmnoaaohbcaa
open Go Go.RowKit
set_option linter.unusedVariables false
set_option linter.unusedSimpArgs false
theorem posM_none {α : Type} {k : Int} : ∀ {l : List (Int × α)} {i : Nat}, posM k l i = none ↔ ∀ p ∈ l, p.1 ≠ k
  | [], _ => by simp [posM]
  | p :: l, i => by
    unfold posM
    split
    · rename_i h
      simp [h]
    · rename_i h
      rw [posM_none]
      simp only [List.mem_cons, forall_eq_or_imp]
      exact ⟨fun g => ⟨fun e => h e.symm, g⟩, fun g => g.2⟩
/-- the element at k -/
def getM {α : Type} (k : Int) (l : List (Int × α)) : Option α := (posM k l 0).map Prod.snd
theorem getM_some {α : Type} {k : Int} {x : α} {l : List (Int × α)} (h : getM k l = some x) : (k, x) ∈ l := by
  unfold getM at h
  cases hp : posM k l 0 with
  | none => rw [hp] at h; cases h
  | some q =>
    rw [hp] at h
    injection h with h
    subst h
    exact List.mem_of_getElem? (posM_lt hp).2.2
theorem getM_none {α : Type} {k : Int} {l : List (Int × α)} : getM k l = none ↔ ∀ p ∈ l, p.1 ≠ k := by
  unfold getM
  rw [Option.map_eq_none_iff, posM_none]
theorem putM_new {α : Type} {k : Int} {x : α} {l : List (Int × α)} (h : getM k l = none) : putM k x l = l ++ [(k, x)] := by
  unfold getM at h
  rw [Option.map_eq_none_iff] at h
  unfold putM
  rw [h]
end Go.Proofs.Ythbgmnoaaohbcaa
namespace Go.Proofs.Ythbgmnoaaohbcaa
open Go Go.RowKit
set_option linter.unusedVariables false
set_option linter.unusedSimpArgs false
set_option maxRecDepth 20000
set_option synthInstance.maxSize 100000
set_option synthInstance.maxHeartbeats 400000
/-- an end, plain; the held messages with where they lie -/
structure PE where
  w : Int
  acked : Int
  got : Int
  wait : List (List UInt8)
  held : List (Int × SB)
  ow : Bool
abbrev ende (p : Nat) (e : PE) : HP := endo p e.w e.acked e.got e.wait e.held e.ow
def drain : Nat → Int → List (Int × SB) → Int × List (Int × SB) × List (List UInt8)
  | 0, g, h => (g, h, [])
  | n + 1, g, h => match posM (g + 1) h 0 with
    | none => (g, h, [])
    | some q => let r := drain n (g + 1) (delM (g + 1) h); (r.1, r.2.1, q.2.b :: r.2.2)
theorem delM_len {α : Type} {k : Int} {l : List (Int × α)} {q : Nat × α} (h : posM k l 0 = some q) : (delM k l).length + 1 = l.length := by
  have := posM_lt h
  unfold delM
  rw [h]
  dsimp only
  rw [List.length_eraseIdx]
  split <;> omega
def canP (e : PE) (s a : Int) (b : List UInt8) : Prop := (0 ≤ s ∧ 0 ≤ a ∧ b.length ≤ 65536 ∧ (0 < s ∨ b.length = 0)) ∧ a ≤ e.acked + e.wait.length ∧ s ≤ e.got + 16
instance {e : PE} {s a : Int} {b : List UInt8} : Decidable (canP e s a b) := by unfold canP; infer_instance
def heldP (e : PE) (s : Int) (x : SB) : List (Int × SB) := if e.got < s ∧ posM s e.held 0 = none then e.held ++ [(s, x)] else e.held
def inP (e : PE) (s a : Int) (x : SB) : PE × List (List UInt8) :=
  if canP e s a x.b then
    if s = 0 then ({ e with acked := max e.acked a, wait := e.wait.drop (a - e.acked).toNat }, [])
    else let r := drain (heldP e s x).length e.got (heldP e s x)
      ({ e with acked := max e.acked a, wait := e.wait.drop (a - e.acked).toNat, got := r.1, held := r.2.1, ow := true }, r.2.2)
  else (e, [])
section
variable {W0 : World} {L : List HP}
theorem In_no {p : Nat} {e : PE} {vb : Value} {b : List UInt8} {s a : Int} (hv : Src L eB vb b) (hno : ¬ canP e s a b) (ha1 : 0 ≤ e.acked) (ha2 : e.acked ≤ 1000000000000) (hg1 : 0 ≤ e.got) (hg2 : e.got ≤ 1000000000000) (hw : e.wait.length ≤ 1000) (hbl : b.length ≤ 1000000000) :
    CT Try.prog 19 #[.pointer (some ⟨p, 0, none⟩), .agg #[.int .i64 s, .int .i64 a, vb]] W0 (ende p e :: L) fun r L' => r = .slice none 0 0 ∧ L' = ende p e :: L := by
  have hv : Sc L vb eB b := ⟨hv⟩
  refine endo_ct fun A c bm hc => ?_
  refine CT_fact (fun w s => ((Sc.pf : Src _ eB vb b).sl s).form) ?_
  rintro ⟨A0, c0, rfl, hc0⟩
  unfold canP at hno
  obtain ⟨q, hq⟩ : ∃ q, decide (0 ≤ s ∧ 0 ≤ a ∧ b.length ≤ 65536 ∧ (0 < s ∨ b.length = 0)) = q := ⟨_, rfl⟩
  refine CT_enter Try.func19 rfl ?_; (simp only [Try.ntmps19, List.size_toArray, List.length_cons, List.length_nil, Nat.reduceAdd, Nat.reduceSub, Array.replicate_succ, Array.replicate_zero, List.push_toArray, List.append_toArray, List.nil_append, List.cons_append])
  repeat' (first | refine go ?_ | intro _ | (apply cG; first | refine cT ?_ | refine cF ?_ | refine cS (fun _ => ?_) fun _ => ?_) | (apply gW; refine sW ?_) | (apply gI; refine sI ?_) | (apply gE; refine sE ?_) | (apply gP; refine sP ?_) | (apply gC; refine sC ?_) | (apply gD; refine sD ?_) | fail)
  rename_i bx
  refine C_draw (n := 99) [cel bx [.int .i64 s, .int .i64 a, .slice A0 b.length c0] 44, cel p [.int .i64 e.w, .slice A e.wait.length c, .int .i64 e.acked, .int .i64 e.got, .map (some bm), .bool e.ow] 85] [(0, 1), (1, 0), (2, 1), (3, 1), (4, 1), (5, 1), (6, 1), (7, 1), (8, 1), (9, 1), (10, 1), (11, 1), (12, 1), (13, 1), (14, 1), (15, 1), (16, 1), (17, 1), (18, 1), (19, 1), (20, 1), (21, 1), (22, 1), (23, 1), (24, 1), (25, 1), (26, 1), (27, 1)] (by kernel_rfl) (by kernel_rfl) Sb ?_
  repeat' (first | refine go ?_ | intro _ | (apply cG; first | refine cT ?_ | refine cF ?_ | refine cS (fun _ => ?_) fun _ => ?_) | (apply gW; refine sW ?_) | (apply gI; refine sI ?_) | (apply gE; refine sE ?_) | (apply gP; refine sP ?_) | (apply gC; refine sC ?_) | (apply gD; refine sD ?_) | fail)
  refine D_op rfl ?_; refine X_d (dy_call ArgsI.pf (by first | exact rfl | trivial | (intro a b; rfl)) (valid_ct (b := b) Sc.pf hq)) ?_; rintro _ _ ⟨_, ⟨rfl, hLL⟩, rfl⟩; replace hLL := hLL.symm; subst hLL; refine ⟨(by first | exact .inl rfl | exact .inr Sb), D_n ?_⟩
  cases q
  · repeat' (first | refine go ?_ | intro _ | (apply cG; first | refine cT ?_ | refine cF ?_ | refine cS (fun _ => ?_) fun _ => ?_) | (apply gW; refine sW ?_) | (apply gI; refine sI ?_) | (apply gE; refine sE ?_) | (apply gP; refine sP ?_) | (apply gC; refine sC ?_) | (apply gD; refine sD ?_) | fail)
    repeat' (first | refine go ?_ | intro _ | (apply cG; first | refine cT ?_ | refine cF ?_ | refine cS (fun _ => ?_) fun _ => ?_) | (apply gW; refine sW ?_) | (apply gI; refine sI ?_) | (apply gE; refine sE ?_) | (apply gP; refine sP ?_) | (apply gC; refine sC ?_) | (apply gD; refine sD ?_) | fail)
    refine E_sub (S := cel p [.int .i64 e.w, .slice A e.wait.length c, .int .i64 e.acked, .int .i64 e.got, .map (some bm), .bool e.ow] 85 :: own 31 (eSl eB) (.slice A e.wait.length c) e.wait :: mapo mSB bm e.held :: L) Sb ?_
    refine E_sub endo_sub ?_
    refine E_res1 (by rfl) (by rfl) ⟨rfl, rfl⟩ Sb
  · have hq := of_decide_eq_true hq
    have hno2 : e.acked + e.wait.length < a ∨ e.got + 16 < s := by omega
    clear hno
    by_cases h1 : e.acked + e.wait.length < a
    · repeat' (first | refine go ?_ | intro _ | (apply cG; first | refine cT ?_ | refine cF ?_ | refine cS (fun _ => ?_) fun _ => ?_) | (apply gW; refine sW ?_) | (apply gI; refine sI ?_) | (apply gE; refine sE ?_) | (apply gP; refine sP ?_) | (apply gC; refine sC ?_) | (apply gD; refine sD ?_) | fail)
      repeat' (first | refine go ?_ | intro _ | (apply cG; first | refine cT ?_ | refine cF ?_ | refine cS (fun _ => ?_) fun _ => ?_) | (apply gW; refine sW ?_) | (apply gI; refine sI ?_) | (apply gE; refine sE ?_) | (apply gP; refine sP ?_) | (apply gC; refine sC ?_) | (apply gD; refine sD ?_) | fail)
      refine E_sub (S := cel p [.int .i64 e.w, .slice A e.wait.length c, .int .i64 e.acked, .int .i64 e.got, .map (some bm), .bool e.ow] 85 :: own 31 (eSl eB) (.slice A e.wait.length c) e.wait :: mapo mSB bm e.held :: L) Sb ?_
      refine E_sub endo_sub ?_
      refine E_res1 (by rfl) (by rfl) ⟨rfl, rfl⟩ Sb
    · have h2 : e.got + 16 < s := by omega
      repeat' (first | refine go ?_ | intro _ | (apply cG; first | refine cT ?_ | refine cF ?_ | refine cS (fun _ => ?_) fun _ => ?_) | (apply gW; refine sW ?_) | (apply gI; refine sI ?_) | (apply gE; refine sE ?_) | (apply gP; refine sP ?_) | (apply gC; refine sC ?_) | (apply gD; refine sD ?_) | fail)
      repeat' (first | refine go ?_ | intro _ | (apply cG; first | refine cT ?_ | refine cF ?_ | refine cS (fun _ => ?_) fun _ => ?_) | (apply gW; refine sW ?_) | (apply gI; refine sI ?_) | (apply gE; refine sE ?_) | (apply gP; refine sP ?_) | (apply gC; refine sC ?_) | (apply gD; refine sD ?_) | fail)
      refine E_sub (S := cel p [.int .i64 e.w, .slice A e.wait.length c, .int .i64 e.acked, .int .i64 e.got, .map (some bm), .bool e.ow] 85 :: own 31 (eSl eB) (.slice A e.wait.length c) e.wait :: mapo mSB bm e.held :: L) Sb ?_
      refine E_sub endo_sub ?_
      refine E_res1 (by rfl) (by rfl) ⟨rfl, rfl⟩ Sb
end
end Go.Proofs.Ythbgmnoaaohbcaa
