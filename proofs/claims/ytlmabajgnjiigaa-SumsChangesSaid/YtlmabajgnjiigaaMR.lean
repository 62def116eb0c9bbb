/-
  Package sums: callbacks over integers, the table, its groups from the last scale on.
-/
import Derived.Lib.Hide
import Derived.Test.YtlmabajgnjiigaaML
import Derived.Test.YtlmabajgnjiigaaMM
import Derived.Test.YtlmabajgnjiigaaMQ
import Derived.Test.YtlmabajgnjiigaaMJ
namespace Go.Proofs.Ytlmabajgnjiigaa
open Go Go.RowKit
set_option linter.unusedVariables false
set_option linter.unusedSimpArgs false
set_option maxRecDepth 20000
set_option synthInstance.maxSize 100000
set_option synthInstance.maxHeartbeats 400000
def idxF {α : Type} (φ : α → Bool) : List α → Int → Int
  | [], _ => -1
  | a :: l, i => if φ a then i else idxF φ l (i + 1)
theorem idxF_any {α : Type} {φ : α → Bool} : ∀ {l : List α} {i : Int}, 0 ≤ i → decide (idxF φ l i ≥ 0) = l.any φ
  | [], _, _ => rfl
  | a :: l, i, h => by
    unfold idxF
    rw [List.any_cons]
    by_cases ha : φ a = true
    · rw [if_pos ha, ha]
      exact decide_eq_true h
    · rw [if_neg ha, idxF_any (by omega)]
      simp [ha]
theorem idxF_drop {α : Type} {φ : α → Bool} {l : List α} {k : Nat} {a : α} (ha : l[k]? = some a) (i : Int) : idxF φ (l.drop k) i = if φ a then i else idxF φ (l.drop (k + 1)) (i + 1) := by
  have hk := (List.getElem?_eq_some_iff.1 ha).1
  rw [List.drop_eq_getElem_cons hk, (List.getElem?_eq_some_iff.1 ha).2]
  rfl
section
variable {W0 : World} {M : List HP}
theorem IdxIS_ct {A : Option Addr} {c : Nat} {l : List Int} {gf : FuncId} {B : Array Value} {φ : Int → Bool} (eg : Enters Try.prog gf) (hv : Src M eI (.slice A l.length c) l) (hl : l.length ≤ 9223372036854775807)
    (hcl : ∀ x ∈ l, CT Try.prog gf (#[.int .i64 x] ++ B) W0 M fun r L' => r = .bool (φ x) ∧ L' = M) :
    CT Try.prog 46 #[.slice A l.length c, .func (.func gf) #[] B] W0 M fun r L' => r = .int .i64 (idxF φ l 0) ∧ L' = M := by
  have hsc : ScA A M l.length c eI l := ⟨hv⟩
  have hsd : Sc M (.slice A l.length c) eI l := ⟨hv⟩
  refine CT_enter Try.func46 rfl ?_; (simp only [Try.ntmps46, List.size_toArray, List.length_cons, List.length_nil, Nat.reduceAdd, Nat.reduceSub, Array.replicate_succ, Array.replicate_zero, List.push_toArray, List.append_toArray, List.nil_append, List.cons_append])
  repeat' (first | refine go ?_ | intro _ | (apply cG; first | refine cT ?_ | refine cF ?_ | refine cS (fun _ => ?_) fun _ => ?_) | (apply gW; refine sW ?_) | (apply gI; refine sI ?_) | (apply gE; refine sE ?_) | (apply gP; refine sP ?_) | (apply gC; refine sC ?_) | (apply gD; refine sD ?_) | fail)
  refine C_loopS (κ := Nat) [false, false, false, false, true, true, false, false, true, true, true, true, true, true, true, true, true, true, true] (fun k => [(8, .int .i64 (k : Int))]) (fun k => []) (fun k => k ≤ l.length ∧ idxF φ l 0 = idxF φ (l.drop k) (k : Int)) (fun k => l.length - k) 0 ⟨Nat.zero_le _, rfl⟩ ⟨rfl, trivial⟩ ?_
  rintro i u ⟨hi, hx⟩
  ((try dsimp only); refine C_n ?_; (try simp only [Nat.reduceAdd, Nat.zero_add]))
  by_cases hlt : i < l.length
  · obtain ⟨x, hxi⟩ : ∃ x, l[i]? = some x := ⟨_, List.getElem?_eq_getElem hlt⟩
    have hax : At l i x := ⟨hxi⟩
    rw [idxF_drop hxi] at hx
    repeat' (first | refine go ?_ | intro _ | (apply cG; first | refine cT ?_ | refine cF ?_ | refine cS (fun _ => ?_) fun _ => ?_) | (apply gW; refine sW ?_) | (apply gI; refine sI ?_) | (apply gE; refine sE ?_) | (apply gP; refine sP ?_) | (apply gC; refine sC ?_) | (apply gD; refine sD ?_) | fail)
    refine O_d (dy_callv Ev.pf ArgsI.pf (by simp only [List.append_toArray, List.nil_append, List.append_nil, List.cons_append] <;> exact rfl) eg (hcl x (List.mem_of_getElem? hxi))) ?_; rintro _ _ ⟨_, ⟨rfl, hLL⟩, rfl⟩; replace hLL := hLL.symm; subst hLL; refine O_n ?_
    cases hφ : φ x
    · rw [hφ] at hx
      repeat' (first | refine go ?_ | intro _ | (apply cG; first | refine cT ?_ | refine cF ?_ | refine cS (fun _ => ?_) fun _ => ?_) | (apply gW; refine sW ?_) | (apply gI; refine sI ?_) | (apply gE; refine sE ?_) | (apply gP; refine sP ?_) | (apply gC; refine sC ?_) | (apply gD; refine sD ?_) | fail)
      exact E_round (i + 1) ⟨hlt, by rw [hx]; rfl⟩ (by omega) ⟨rfl, trivial⟩ Sb
    · rw [hφ] at hx
      rw [hx]
      repeat' (first | refine go ?_ | intro _ | (apply cG; first | refine cT ?_ | refine cF ?_ | refine cS (fun _ => ?_) fun _ => ?_) | (apply gW; refine sW ?_) | (apply gI; refine sI ?_) | (apply gE; refine sE ?_) | (apply gP; refine sP ?_) | (apply gC; refine sC ?_) | (apply gD; refine sD ?_) | fail)
      refine E_res1 (by rfl) (by rfl) ⟨rfl, rfl⟩ Sb
  obtain rfl : i = l.length := by omega
  rw [List.drop_length] at hx
  rw [hx]
  repeat' (first | refine go ?_ | intro _ | (apply cG; first | refine cT ?_ | refine cF ?_ | refine cS (fun _ => ?_) fun _ => ?_) | (apply gW; refine sW ?_) | (apply gI; refine sI ?_) | (apply gE; refine sE ?_) | (apply gP; refine sP ?_) | (apply gC; refine sC ?_) | (apply gD; refine sD ?_) | fail)
  refine E_res1 (by rfl) (by rfl) ⟨rfl, rfl⟩ Sb
theorem ConIS_ct {A : Option Addr} {c : Nat} {l : List Int} {gf : FuncId} {B : Array Value} {φ : Int → Bool} (eg : Enters Try.prog gf) (hv : Src M eI (.slice A l.length c) l) (hl : l.length ≤ 9223372036854775807)
    (hcl : ∀ x ∈ l, CT Try.prog gf (#[.int .i64 x] ++ B) W0 M fun r L' => r = .bool (φ x) ∧ L' = M) :
    CT Try.prog 32 #[.slice A l.length c, .func (.func gf) #[] B] W0 M fun r L' => r = .bool (l.any φ) ∧ L' = M := by
  have he := idxF_any (φ := φ) (l := l) (i := 0) (Int.le_refl _)
  obtain ⟨z, hz⟩ : ∃ z, idxF φ l 0 = z := ⟨_, rfl⟩
  refine CT_enter Try.func32 rfl ?_; (simp only [Try.ntmps32, List.size_toArray, List.length_cons, List.length_nil, Nat.reduceAdd, Nat.reduceSub, Array.replicate_succ, Array.replicate_zero, List.push_toArray, List.append_toArray, List.nil_append, List.cons_append])
  repeat' (first | refine go ?_ | intro _ | (apply cG; first | refine cT ?_ | refine cF ?_ | refine cS (fun _ => ?_) fun _ => ?_) | (apply gW; refine sW ?_) | (apply gI; refine sI ?_) | (apply gE; refine sE ?_) | (apply gP; refine sP ?_) | (apply gC; refine sC ?_) | (apply gD; refine sD ?_) | fail)
  refine O_d (dy_call ArgsI.pf (by first | exact rfl | trivial | (intro a b; rfl)) (IdxIS_ct (φ := φ) eg hv hl hcl)) ?_; rintro _ _ ⟨_, ⟨rfl, hLL⟩, rfl⟩; replace hLL := hLL.symm; subst hLL; refine O_n ?_
  rw [hz] at he ⊢
  rw [← he]
  by_cases h0 : z ≥ 0
  · rw [decide_eq_true h0]
    repeat' (first | refine go ?_ | intro _ | (apply cG; first | refine cT ?_ | refine cF ?_ | refine cS (fun _ => ?_) fun _ => ?_) | (apply gW; refine sW ?_) | (apply gI; refine sI ?_) | (apply gE; refine sE ?_) | (apply gP; refine sP ?_) | (apply gC; refine sC ?_) | (apply gD; refine sD ?_) | fail)
    refine E_res1 (by rfl) (by rfl) ⟨rfl, rfl⟩ Sb
  · rw [decide_eq_false h0]
    repeat' (first | refine go ?_ | intro _ | (apply cG; first | refine cT ?_ | refine cF ?_ | refine cS (fun _ => ?_) fun _ => ?_) | (apply gW; refine sW ?_) | (apply gI; refine sI ?_) | (apply gE; refine sE ?_) | (apply gP; refine sP ?_) | (apply gC; refine sC ?_) | (apply gD; refine sD ?_) | fail)
    refine E_res1 (by rfl) (by rfl) ⟨rfl, rfl⟩ Sb
theorem Idx29_ct {A : Option Addr} {c : Nat} {l : List Int} {v : Int} (hv : Src M eI (.slice A l.length c) l) (hl : l.length ≤ 9223372036854775807) :
    CT Try.prog 45 #[.slice A l.length c, .int .i64 v] W0 M fun r L' => r = .int .i64 (idxF (fun x => decide (v = x)) l 0) ∧ L' = M := by
  have hsc : ScA A M l.length c eI l := ⟨hv⟩
  refine CT_enter Try.func45 rfl ?_; (simp only [Try.ntmps45, List.size_toArray, List.length_cons, List.length_nil, Nat.reduceAdd, Nat.reduceSub, Array.replicate_succ, Array.replicate_zero, List.push_toArray, List.append_toArray, List.nil_append, List.cons_append])
  repeat' (first | refine go ?_ | intro _ | (apply cG; first | refine cT ?_ | refine cF ?_ | refine cS (fun _ => ?_) fun _ => ?_) | (apply gW; refine sW ?_) | (apply gI; refine sI ?_) | (apply gE; refine sE ?_) | (apply gP; refine sP ?_) | (apply gC; refine sC ?_) | (apply gD; refine sD ?_) | fail)
  refine C_loopS (κ := Nat) [false, false, false, false, true, true, false, false, true, true, true, true, true, true, true, true, true, true, true] (fun k => [(8, .int .i64 (k : Int))]) (fun k => []) (fun k => k ≤ l.length ∧ idxF (fun x => decide (v = x)) l 0 = idxF (fun x => decide (v = x)) (l.drop k) (k : Int)) (fun k => l.length - k) 0 ⟨Nat.zero_le _, rfl⟩ ⟨rfl, trivial⟩ ?_
  rintro i u ⟨hi, hx⟩
  ((try dsimp only); refine C_n ?_; (try simp only [Nat.reduceAdd, Nat.zero_add]))
  by_cases hlt : i < l.length
  · obtain ⟨x, hxi⟩ : ∃ x, l[i]? = some x := ⟨_, List.getElem?_eq_getElem hlt⟩
    have hax : At l i x := ⟨hxi⟩
    rw [idxF_drop hxi] at hx
    by_cases hvx : v = x
    · rw [if_pos (decide_eq_true hvx)] at hx
      rw [hx]
      repeat' (first | refine go ?_ | intro _ | (apply cG; first | refine cT ?_ | refine cF ?_ | refine cS (fun _ => ?_) fun _ => ?_) | (apply gW; refine sW ?_) | (apply gI; refine sI ?_) | (apply gE; refine sE ?_) | (apply gP; refine sP ?_) | (apply gC; refine sC ?_) | (apply gD; refine sD ?_) | fail)
      refine E_res1 (by rfl) (by rfl) ⟨rfl, rfl⟩ Sb
    · rw [if_neg (by simpa using hvx)] at hx
      repeat' (first | refine go ?_ | intro _ | (apply cG; first | refine cT ?_ | refine cF ?_ | refine cS (fun _ => ?_) fun _ => ?_) | (apply gW; refine sW ?_) | (apply gI; refine sI ?_) | (apply gE; refine sE ?_) | (apply gP; refine sP ?_) | (apply gC; refine sC ?_) | (apply gD; refine sD ?_) | fail)
      exact E_round (i + 1) ⟨hlt, by rw [hx]; rfl⟩ (by omega) ⟨rfl, trivial⟩ Sb
  obtain rfl : i = l.length := by omega
  rw [List.drop_length] at hx
  rw [hx]
  repeat' (first | refine go ?_ | intro _ | (apply cG; first | refine cT ?_ | refine cF ?_ | refine cS (fun _ => ?_) fun _ => ?_) | (apply gW; refine sW ?_) | (apply gI; refine sI ?_) | (apply gE; refine sE ?_) | (apply gP; refine sP ?_) | (apply gC; refine sC ?_) | (apply gD; refine sD ?_) | fail)
  refine E_res1 (by rfl) (by rfl) ⟨rfl, rfl⟩ Sb
theorem Con29_ct {A : Option Addr} {c : Nat} {l : List Int} {v : Int} (hv : Src M eI (.slice A l.length c) l) (hl : l.length ≤ 9223372036854775807) :
    CT Try.prog 31 #[.slice A l.length c, .int .i64 v] W0 M fun r L' => r = .bool (memB l v) ∧ L' = M := by
  have he := idxF_any (φ := fun x => decide (v = x)) (l := l) (i := 0) (Int.le_refl _)
  have hm : (l.any fun x => decide (v = x)) = memB l v := by
    unfold memB
    by_cases h : v ∈ l
    · rw [decide_eq_true h]
      exact List.any_eq_true.2 ⟨v, h, decide_eq_true rfl⟩
    · rw [decide_eq_false h, List.any_eq_false]
      intro x hx
      simp only [decide_eq_true_eq]
      rintro rfl
      exact h hx
  rw [hm] at he
  obtain ⟨z, hz⟩ : ∃ z, idxF (fun x => decide (v = x)) l 0 = z := ⟨_, rfl⟩
  refine CT_enter Try.func31 rfl ?_; (simp only [Try.ntmps31, List.size_toArray, List.length_cons, List.length_nil, Nat.reduceAdd, Nat.reduceSub, Array.replicate_succ, Array.replicate_zero, List.push_toArray, List.append_toArray, List.nil_append, List.cons_append])
  repeat' (first | refine go ?_ | intro _ | (apply cG; first | refine cT ?_ | refine cF ?_ | refine cS (fun _ => ?_) fun _ => ?_) | (apply gW; refine sW ?_) | (apply gI; refine sI ?_) | (apply gE; refine sE ?_) | (apply gP; refine sP ?_) | (apply gC; refine sC ?_) | (apply gD; refine sD ?_) | fail)
  refine O_d (dy_call ArgsI.pf (by first | exact rfl | trivial | (intro a b; rfl)) (Idx29_ct (v := v) hv hl)) ?_; rintro _ _ ⟨_, ⟨rfl, hLL⟩, rfl⟩; replace hLL := hLL.symm; subst hLL; refine O_n ?_
  rw [hz] at he ⊢
  rw [← he]
  by_cases h0 : z ≥ 0
  · rw [decide_eq_true h0]
    repeat' (first | refine go ?_ | intro _ | (apply cG; first | refine cT ?_ | refine cF ?_ | refine cS (fun _ => ?_) fun _ => ?_) | (apply gW; refine sW ?_) | (apply gI; refine sI ?_) | (apply gE; refine sE ?_) | (apply gP; refine sP ?_) | (apply gC; refine sC ?_) | (apply gD; refine sD ?_) | fail)
    refine E_res1 (by rfl) (by rfl) ⟨rfl, rfl⟩ Sb
  · rw [decide_eq_false h0]
    repeat' (first | refine go ?_ | intro _ | (apply cG; first | refine cT ?_ | refine cF ?_ | refine cS (fun _ => ?_) fun _ => ?_) | (apply gW; refine sW ?_) | (apply gI; refine sI ?_) | (apply gE; refine sE ?_) | (apply gP; refine sP ?_) | (apply gC; refine sC ?_) | (apply gD; refine sD ?_) | fail)
    refine E_res1 (by rfl) (by rfl) ⟨rfl, rfl⟩ Sb
end
/-! ### the table -/
def imT : Im := ⟨fun _ => True, fun _ h => h⟩
def mI : MEnc Int := ⟨.int .i64, fun _ => imT⟩
def mBo : MEnc Bool := ⟨.bool, fun _ => imT⟩
/-- a slice, and what it reads as -/
abbrev SR := SlV × List Int
def svV (p : SR) : Value := .slice p.1.1 p.1.2.1 p.1.2.2
def mS0 : MEnc SR := ⟨svV, fun _ => imT⟩
def mS : MEnc SR := ⟨svV, fun p => ⟨fun m => Sl m eI (svV p) p.2, fun hm h => h.mono hm⟩⟩
structure TT where
  q : Nat
  km : Nat
  ks : Nat
  UA : Option Addr
  GA : Option Addr
  uc : Nat
  gc : Nat
  U : List Int
  gs : List Int
  mm : List ((Int × Int) × SR)
  sl : List ((Int × Int) × Int)
  tot : Int
def tbc (t : TT) : HP := cel t.q [.slice t.UA t.U.length t.uc, .int .i64 (t.gs.length : Int), .map (some t.km), .map (some t.ks), .slice t.GA t.gs.length t.gc, .int .i64 t.tot] 64
def tbL (t : TT) : List HP := [tbc t, own 3 eI (.slice t.UA t.U.length t.uc) t.U, mapx kpr mS t.km t.mm, mapx kpr mI t.ks t.sl, rd eI (.slice t.GA t.gs.length t.gc) t.gs]
def tbl (t : TT) : HP := sp (tbL t)
section
variable {W0 : World} {L : List HP}
theorem tbl_ct {f : FuncId} {args : Array Value} {R : Value → List HP → Prop} {t : TT} (k : CT Try.prog f args W0 (tbc t :: own 3 eI (.slice t.UA t.U.length t.uc) t.U :: mapx kpr mS t.km t.mm :: mapx kpr mI t.ks t.sl :: rd eI (.slice t.GA t.gs.length t.gc) t.gs :: L) R) : CT Try.prog f args W0 (tbl t :: L) R := CT.sub k (sub_open (Ls := tbL t))
theorem tbl_sub {t : TT} : Sub (tbc t :: own 3 eI (.slice t.UA t.U.length t.uc) t.U :: mapx kpr mS t.km t.mm :: mapx kpr mI t.ks t.sl :: rd eI (.slice t.GA t.gs.length t.gc) t.gs :: L) (tbl t :: L) := sub_close (Ls := tbL t)
theorem Total_ct {t : TT} : CT Try.prog 15 #[.pointer (some ⟨t.q, 0, none⟩)] W0 (tbl t :: L) fun r L' => r = .int .i64 t.tot ∧ L' = tbl t :: L := by
  refine tbl_ct ?_
  unfold tbc
  refine CT_enter Try.func15 rfl ?_; (simp only [Try.ntmps15, List.size_toArray, List.length_cons, List.length_nil, Nat.reduceAdd, Nat.reduceSub, Array.replicate_succ, Array.replicate_zero, List.push_toArray, List.append_toArray, List.nil_append, List.cons_append])
  repeat' (first | refine go ?_ | intro _ | (apply cG; first | refine cT ?_ | refine cF ?_ | refine cS (fun _ => ?_) fun _ => ?_) | (apply gW; refine sW ?_) | (apply gI; refine sI ?_) | (apply gE; refine sE ?_) | (apply gP; refine sP ?_) | (apply gC; refine sC ?_) | (apply gD; refine sD ?_) | fail)
  refine E_res1 (by rfl) (by rfl) ⟨rfl, rfl⟩ ?_
  exact tbl_sub
/-- the sum of a group, or that there is none -/
def grpF (t : TT) (s g : Int) : Value := match gvX (s, g) t.mm with
  | none => .tuple #[.int .i64 0, .int .i64 7]
  | some _ => .tuple #[.int .i64 ((gvX (s, g) t.sl).getD 0), .int .i64 0]
theorem Group_ct {t : TT} {s g : Int} : CT Try.prog 25 #[.pointer (some ⟨t.q, 0, none⟩), .int .i64 s, .int .i64 g] W0 (tbl t :: L) fun r L' => r = grpF t s g ∧ L' = tbl t :: L := by
  refine tbl_ct ?_
  unfold tbc
  refine CT_enter Try.func25 rfl ?_; (simp only [Try.ntmps25, List.size_toArray, List.length_cons, List.length_nil, Nat.reduceAdd, Nat.reduceSub, Array.replicate_succ, Array.replicate_zero, List.push_toArray, List.append_toArray, List.nil_append, List.cons_append])
  repeat' (first | refine go ?_ | intro _ | (apply cG; first | refine cT ?_ | refine cF ?_ | refine cS (fun _ => ?_) fun _ => ?_) | (apply gW; refine sW ?_) | (apply gI; refine sI ?_) | (apply gE; refine sE ?_) | (apply gP; refine sP ?_) | (apply gC; refine sC ?_) | (apply gD; refine sD ?_) | fail)
  refine O_s (sv_lookP (K := kpr) (R := mS) (k := (s, g)) (by repeat (first | exact .head _ | refine .tail _ ?_)) Ev.pf Ev.pf rfl) ?_
  cases hg : gvX (s, g) t.mm with
  | none =>
    have e : grpF t s g = .tuple #[.int .i64 0, .int .i64 7] := by unfold grpF; rw [hg]
    rw [e]
    simp only [Option.isSome_none, Option.isSome_some, Option.map_none, Option.map_some, Option.getD_none, Option.getD_some]
    repeat' (first | refine go ?_ | intro _ | (apply cG; first | refine cT ?_ | refine cF ?_ | refine cS (fun _ => ?_) fun _ => ?_) | (apply gW; refine sW ?_) | (apply gI; refine sI ?_) | (apply gE; refine sE ?_) | (apply gP; refine sP ?_) | (apply gC; refine sC ?_) | (apply gD; refine sD ?_) | fail)
    refine E_res2 (by rfl) (by rfl) ⟨rfl, rfl⟩ ?_
    exact tbl_sub
  | some x =>
    have e : grpF t s g = .tuple #[.int .i64 ((gvX (s, g) t.sl).getD 0), .int .i64 0] := by unfold grpF; rw [hg]
    rw [e]
    simp only [Option.isSome_none, Option.isSome_some, Option.map_none, Option.map_some, Option.getD_none, Option.getD_some]
    repeat' (first | refine go ?_ | intro _ | (apply cG; first | refine cT ?_ | refine cF ?_ | refine cS (fun _ => ?_) fun _ => ?_) | (apply gW; refine sW ?_) | (apply gI; refine sI ?_) | (apply gE; refine sE ?_) | (apply gP; refine sP ?_) | (apply gC; refine sC ?_) | (apply gD; refine sD ?_) | fail)
    refine O_s (sv_lookN (K := kpr) (R := mI) (k := (s, g)) (by repeat (first | exact .head _ | refine .tail _ ?_)) Ev.pf Ev.pf rfl) ?_
    have e2 : ((gvX (s, g) t.sl).map mI.val).getD (.int .i64 0) = .int .i64 ((gvX (s, g) t.sl).getD 0) := by cases gvX (s, g) t.sl <;> rfl
    rw [e2]
    repeat' (first | refine go ?_ | intro _ | (apply cG; first | refine cT ?_ | refine cF ?_ | refine cS (fun _ => ?_) fun _ => ?_) | (apply gW; refine sW ?_) | (apply gI; refine sI ?_) | (apply gE; refine sE ?_) | (apply gP; refine sP ?_) | (apply gC; refine sC ?_) | (apply gD; refine sD ?_) | fail)
    refine E_res2 (by rfl) (by rfl) ⟨rfl, rfl⟩ ?_
    exact tbl_sub
end
end Go.Proofs.Ytlmabajgnjiigaa
namespace Go.Proofs.Ytlmabajgnjiigaa
open Go Go.RowKit
set_option linter.unusedVariables false
set_option linter.unusedSimpArgs false
set_option maxRecDepth 20000
set_option synthInstance.maxSize 100000
set_option synthInstance.maxHeartbeats 400000
def keyG (s : Int) (n : Nat) : List (Int × Int) := (List.range n).map fun (g : Nat) => (s, (g : Int))
def keyS (gs : List Int) : Nat → List (Int × Int)
  | 0 => []
  | n + 1 => keyG (n : Int) (gs.getD n 0).toNat ++ keyS gs n
theorem keyG_succ {s : Int} {n : Nat} : keyG s (n + 1) = keyG s n ++ [(s, (n : Int))] := by
  unfold keyG
  rw [List.range_succ, List.map_append]
  rfl
theorem keyG_split {s : Int} {n g : Nat} (h : g < n) : ∃ post, keyG s n = keyG s g ++ (s, (g : Int)) :: post := by
  induction n with
  | zero => omega
  | succ n ih =>
    rw [keyG_succ]
    by_cases hg : g = n
    · subst hg
      exact ⟨[], rfl⟩
    · obtain ⟨post, hp⟩ := ih (by omega)
      exact ⟨post ++ [(s, (n : Int))], by rw [hp]; simp⟩
section
variable {W0 : World} {L : List HP}
theorem coarsest_ct {q : Nat} : CT Try.prog 30 #[.pointer (some ⟨q, 0, none⟩)] W0 L fun r L' => ∃ bx T, r = .func (.func 44) #[] #[.pointer (some ⟨bx, 0, none⟩)] ∧ L' = cel bx [.pointer (some ⟨q, 0, none⟩)] T :: L := by
  refine CT_enter Try.func30 rfl ?_; (simp only [Try.ntmps30, List.size_toArray, List.length_cons, List.length_nil, Nat.reduceAdd, Nat.reduceSub, Array.replicate_succ, Array.replicate_zero, List.push_toArray, List.append_toArray, List.nil_append, List.cons_append])
  repeat' (first | refine go ?_ | intro _ | (apply cG; first | refine cT ?_ | refine cF ?_ | refine cS (fun _ => ?_) fun _ => ?_) | (apply gW; refine sW ?_) | (apply gI; refine sI ?_) | (apply gE; refine sE ?_) | (apply gP; refine sP ?_) | (apply gC; refine sC ?_) | (apply gD; refine sD ?_) | fail)
  refine E_res1 (by rfl) (by rfl) ⟨_, _, rfl, rfl⟩ Sb
theorem coarsest_gives {q bx : Nat} {UA GA : Option Addr} {nu uc gc : Nat} {km ks : Value} {gs : List Int} {tot : Int} {T : TypeId} {E0 : List HP} (hr : rd eI (.slice GA gs.length gc) gs ∈ E0) (hg : ∀ g ∈ gs, 0 ≤ g ∧ g ≤ 1000000) (hl : gs.length ≤ 1000000) :
    GivesR Try.prog 44 #[.pointer (some ⟨bx, 0, none⟩)] (fun (y : Int × Int) (k : Unit) => #[kpr y]) (fun _ _ => []) (keyS gs gs.length) (cel bx [.pointer (some ⟨q, 0, none⟩)] T :: cel q [.slice UA nu uc, .int .i64 (gs.length : Int), km, ks, .slice GA gs.length gc, .int .i64 tot] 64 :: E0) := by
  intro g W0 J hround
  refine CT_enter Try.func44 rfl ?_; (simp only [Try.ntmps44, List.size_toArray, List.length_cons, List.length_nil, Nat.reduceAdd, Nat.reduceSub, Array.replicate_succ, Array.replicate_zero, List.push_toArray, List.append_toArray, List.nil_append, List.cons_append])
  repeat' (first | refine go ?_ | intro _ | (apply cG; first | refine cT ?_ | refine cF ?_ | refine cS (fun _ => ?_) fun _ => ?_) | (apply gW; refine sW ?_) | (apply gI; refine sI ?_) | (apply gE; refine sE ?_) | (apply gP; refine sP ?_) | (apply gC; refine sC ?_) | (apply gD; refine sD ?_) | fail)
  refine C_loopS (κ := Nat × List (Int × Int)) [false, false, false, true, true, false, false, false, false, false, true, true, true, true, true, true, true, true, true, true, true, true, true, true, true, true, true, true, true, true, true] (fun k => [(3, .int .i64 ((k.1 : Int) - 1))]) (fun k => [(0, J k.2)]) (fun k => k.1 ≤ gs.length ∧ keyS gs gs.length = k.2 ++ keyS gs k.1) (fun k => k.1) (gs.length, []) ⟨Nat.le_refl _, rfl⟩ ⟨rfl, trivial⟩ ?_
  rintro ⟨s, pre⟩ u ⟨hs, hk⟩
  dsimp only at hs hk
  dsimp only
  ((try dsimp only); refine C_n ?_; (try simp only [Nat.reduceAdd, Nat.zero_add]))
  cases s with
  | zero =>
    have hk : keyS gs gs.length = pre := by rw [hk]; exact List.append_nil _
    have h0 : ¬ ((0 : Nat) : Int) - 1 ≥ 0 := by omega
    repeat' (first | refine go ?_ | intro _ | (apply cG; first | refine cT ?_ | refine cF ?_ | refine cS (fun _ => ?_) fun _ => ?_) | (apply gW; refine sW ?_) | (apply gI; refine sI ?_) | (apply gE; refine sE ?_) | (apply gP; refine sP ?_) | (apply gC; refine sC ?_) | (apply gD; refine sD ?_) | fail)
    rw [← hk]
    refine E_end0 (by first | exact .inl rfl | exact .inr rfl) (by rfl) (by rfl) rfl
  | succ m =>
    have en : ((m + 1 : Nat) : Int) - 1 = (m : Int) := by omega
    rw [en]
    have hsc : ScA GA (J pre :: cel bx [.pointer (some ⟨q, 0, none⟩)] T :: cel q [.slice UA nu uc, .int .i64 (gs.length : Int), km, ks, .slice GA gs.length gc, .int .i64 tot] 64 :: E0) gs.length gc eI gs := ⟨.inl (.tail _ (.tail _ (.tail _ hr)))⟩
    obtain ⟨x, hx⟩ : ∃ x, gs[m]? = some x := ⟨_, List.getElem?_eq_getElem (by omega)⟩
    have hax : At gs m x := ⟨hx⟩
    obtain ⟨hx0, hx1⟩ := hg x (List.mem_of_getElem? hx)
    obtain ⟨n, rfl⟩ : ∃ n : Nat, x = (n : Int) := ⟨x.toNat, by omega⟩
    have hks : keyS gs (m + 1) = keyG (m : Int) n ++ keyS gs m := by
      show keyG (m : Int) (gs.getD m 0).toNat ++ keyS gs m = _
      rw [List.getD_eq_getElem?_getD, hx]
      rfl
    rw [hks] at hk
    repeat' (first | refine go ?_ | intro _ | (apply cG; first | refine cT ?_ | refine cF ?_ | refine cS (fun _ => ?_) fun _ => ?_) | (apply gW; refine sW ?_) | (apply gI; refine sI ?_) | (apply gE; refine sE ?_) | (apply gP; refine sP ?_) | (apply gC; refine sC ?_) | (apply gD; refine sD ?_) | fail)
    refine C_loopS (κ := Nat) [false, false, false, false, true, false, false, false, false, false, false, false, false, false, false, false, false, false, false, false, false, true, true, true, true, true, true, true, true, true, true] (fun k => [(21, .int .i64 (k : Int))]) (fun k => [(0, J (pre ++ keyG (m : Int) k))]) (fun k => k ≤ n) (fun k => n - k) 0 (Nat.zero_le _) ⟨rfl, trivial⟩ ?_ (by show Sub (J pre :: _) (J (pre ++ []) :: _); rw [List.append_nil]; exact Sub.refl _)
    rintro i u2 hi
    ((try dsimp only); refine C_n ?_; (try simp only [Nat.reduceAdd, Nat.zero_add]))
    by_cases hin : i < n
    rotate_left
    · obtain rfl : i = n := by omega
      repeat' (first | refine go ?_ | intro _ | (apply cG; first | refine cT ?_ | refine cF ?_ | refine cS (fun _ => ?_) fun _ => ?_) | (apply gW; refine sW ?_) | (apply gI; refine sI ?_) | (apply gE; refine sE ?_) | (apply gP; refine sP ?_) | (apply gC; refine sC ?_) | (apply gD; refine sD ?_) | fail)
      exact E_round (m, pre ++ keyG (m : Int) i) ⟨by dsimp only; omega, by dsimp only; rw [hk, List.append_assoc]⟩ (by dsimp only; omega) ⟨rfl, trivial⟩ Sb
    obtain ⟨post, hpost⟩ := keyG_split (s := (m : Int)) hin
    repeat' (first | ((fail_if_success apply AtE); refine go ?_) | intro _ | (apply cG; first | refine cT ?_ | refine cF ?_ | refine cS (fun _ => ?_) fun _ => ?_) | (apply gW; refine sW ?_) | (apply gI; refine sI ?_) | (apply gE; refine sE ?_) | (apply gP; refine sP ?_) | (apply gC; refine sC ?_) | (apply gD; refine sD ?_) | fail)
    refine go ?_
    repeat' (first | ((fail_if_success apply AtE); refine go ?_) | intro _ | (apply cG; first | refine cT ?_ | refine cF ?_ | refine cS (fun _ => ?_) fun _ => ?_) | (apply gW; refine sW ?_) | (apply gI; refine sI ?_) | (apply gE; refine sE ?_) | (apply gP; refine sP ?_) | (apply gC; refine sC ?_) | (apply gD; refine sD ?_) | fail)
    refine go ?_
    refine go ?_
    repeat' (first | ((fail_if_success apply AtE); refine go ?_) | intro _ | (apply cG; first | refine cT ?_ | refine cF ?_ | refine cS (fun _ => ?_) fun _ => ?_) | (apply gW; refine sW ?_) | (apply gI; refine sI ?_) | (apply gE; refine sE ?_) | (apply gP; refine sP ?_) | (apply gC; refine sC ?_) | (apply gD; refine sD ?_) | fail)
    refine go ?_
    refine go ?_
    refine C_yieldB (l := g) (v4 := .agg #[.int .i64 (m : Int), .int .i64 (i : Int)]) (v1 := kpr ((m : Int), (i : Int))) (L' := J (pre ++ keyG (m : Int) i ++ [((m : Int), (i : Int))]) :: cel bx [.pointer (some ⟨q, 0, none⟩)] T :: cel q [.slice UA nu uc, .int .i64 (gs.length : Int), km, ks, .slice GA gs.length gc, .int .i64 tot] 64 :: E0)
      Ev.pf Put.pf Ev.pf Put.pf Ev.pf Put.pf (by exact svc) Put.pf Put.pf Put.pf Ev.pf Ev.pf Ev.pf ?_ ?_
    · intro w hw
      refine hround (pre ++ keyG (m : Int) i) ((m : Int), (i : Int)) (post ++ keyS gs m) () w ?_ hw
      rw [hk, hpost]
      simp
    repeat' (first | refine go ?_ | intro _ | (apply cG; first | refine cT ?_ | refine cF ?_ | refine cS (fun _ => ?_) fun _ => ?_) | (apply gW; refine sW ?_) | (apply gI; refine sI ?_) | (apply gE; refine sE ?_) | (apply gP; refine sP ?_) | (apply gC; refine sC ?_) | (apply gD; refine sD ?_) | fail)
    exact E_round (i + 1) hin (by omega) ⟨rfl, trivial⟩ (by rw [keyG_succ, ← List.append_assoc]; exact Sb)
end
end Go.Proofs.Ytlmabajgnjiigaa
namespace Go.Proofs.Ytlmabajgnjiigaa
open Go Go.RowKit
set_option linter.unusedVariables false
set_option linter.unusedSimpArgs false
section
variable {P : Program} {ops : Array Oper} {Q : Exit → Act → World → Prop} {rest : List Oper} {o : Oper} {a : Act} {W0 w : World} {L : List HP}
/-- An iterator's promise: it hands over one by one, each that nx lets come behind those before, and at the end fin holds of all. E: what it needs, and leaves. -/
def GivesP {β κ : Type} (P : Program) (gf : FuncId) (lb : Array Value) (arg : β → κ → Array Value) (hs : β → κ → List HP) (nx : List β → β → Prop) (fin : List β → Prop) (E : List HP) : Prop :=
  ∀ (l : Nat) (W0 : World) (J : List β → HP),
    (∀ pre y k W E1, nx pre y → St W0 W (hs y k ++ (J pre :: E1)) → Yields P l (arg y k) W fun e W' => e = .returned (.bool true) ∧ St W0 W' (J (pre ++ [y]) :: E1)) →
    CT P gf (#[.func (.yield l) #[] #[]] ++ lb) W0 (J [] :: E) fun r L' => ∃ ys, fin ys ∧ L' = J ys :: E
theorem C_rangeP {β κ : Type} {g : Operand} {ps : Array Tmp} {assign body : Code} {gf : FuncId} {lb : Array Value} (hg : a.eval g = .func (.func gf) #[] lb) (eg : Enters P gf)
    {arg : β → κ → Array Value} {hs : β → κ → List HP} {nx : List β → β → Prop} {fin : List β → Prop} {E : List HP} (hit : GivesP P gf lb arg hs nx fin E) (hps : ∀ y k, (arg y k).size = ps.size) (I : List β → List HP) (hL : Sub L (I [] ++ E))
    (hbody : ∀ (l D : Nat) (rec : Obj) (pre : List β) (y : β) (k : κ), nx pre y →
      ∃ a₁, (∀ W K, K a₁ W → assign.wpIn (Fr (some l)) 0 P (Exit.then K (fun _ _ _ => False)) { tmps := (ps.zip (arg y k)).foldl (fun t (p, v) => t.setIfInBounds p v) a.tmps, defers := [] } W) ∧
      ∀ W E, St W0 W (blk l rec :: blk D (.deferred (some [])) :: (I pre ++ (hs y k ++ E))) → body.wpIn (Fr (some l)) 0 P (fun e _ W' => e = .normal ∧ St W0 W' (blk l rec :: blk D (.deferred (some [])) :: (I (pre ++ [y]) ++ E))) a₁ W)
    (hdone : ∀ (D : Nat) (ys : List β), fin ys → EL W0 (blk D (.deferred (some [])) :: (I ys ++ E)) Q .normal { a with defers := { target := .collected D, args := #[] } :: a.defers }) :
    CL P W0 L (Code.rangeFunc g ps assign body) Q a := by
  refine ⟨fun w hS0 => ?_⟩
  have hS := hL.st hS0
  clear hS0
  refine (wpIn_wide (n := 0)).1 (wpIn_rangeFunc ?_)
  intro fn _
  obtain ⟨rec, hrec⟩ : ∃ rec : LoopState → Option Code → Loop, rec = fun st pe => { state := st, pending := pe, fn, tmps := a.tmps, params := ps, assign, body, defers := w.heap.size } := ⟨_, rfl⟩
  have hS1 := (hS.alloc (.deferred (some []))).alloc (.loop (rec .ready none))
  rw [World.size_alloc] at hS1
  generalize hl : w.heap.size + 1 = l at hS1
  generalize hD : w.heap.size = D at hS1 hl hrec
  have henter := run_enterLoop_outer (P := P) (w := w) fn a.tmps ps assign body
  rw [hD] at henter
  rw [hl] at henter
  have hr1 : (rec .ready none) = { state := .ready, pending := none, fn, tmps := a.tmps, params := ps, assign, body, defers := D } := by rw [hrec]
  rw [← hr1] at henter
  generalize hw1 : (w.alloc (.deferred (some []))).alloc (.loop (rec .ready none)) = w1 at henter hS1
  refine ⟨l, [{ target := .collected D, args := #[] }], w1, { target := .fn (.func gf) lb, args := #[.func (.yield l) #[] #[]] }, w1, gf,
    #[.func (.yield l) #[] #[]] ++ lb, w1, henter, ?_, fun _ _ => trivial, ?_, (fun hn => (by cases hn)), ?_⟩
  · simp only [resolve, hg]
    simp [go_sem]
  · exact eg _ _
  · have hJ : St W0 w1 (sp (blk l (.loop (rec .ready none)) :: blk D (.deferred (some [])) :: I []) :: E) := St.close_ (L := blk l (.loop (rec .ready none)) :: blk D (.deferred (some [])) :: I []) hS1
    refine callsIn_wide.2 (Calls.mono ((hit l W0 (fun pre => sp (blk l (.loop (rec .ready none)) :: blk D (.deferred (some [])) :: I pre)) ?_).run w1 hJ) ?_)
    · intro pre y k W E1 hx hW0
      have hW : St W0 W (blk l (.loop (rec .ready none)) :: blk D (.deferred (some [])) :: (I pre ++ (hs y k ++ E1))) := (hW0.perm List.perm_middle).open_
      clear hW0
      have hblk : W.heap[l]? = some (.loop (rec .ready none)) := St.blk_ hW
      have hrp : (rec .ready none).params = ps := by rw [hrec]
      refine ⟨fn, (ps.zip (arg y k)).foldl (fun t (p, v) => t.setIfInBounds p v) a.tmps, assign, body, ?_, ?_⟩
      · have := run_yield (P := P) (args := arg y k) hblk (by rw [hrp]; exact hps y k)
        rw [this, hrec]
      · refine roundIn_of_wpIn trivial ?_
        obtain ⟨a₁, has, hb⟩ := hbody l D (.loop (rec .busy none)) pre y k hx
        refine has W _ ?_
        refine ⟨W.putObj l (.loop (rec .busy none)), ?_, ?_⟩
        · have := run_beginRound (P := P) hblk (by rw [hrec])
          rw [this, hrec]
        · refine wpIn_mono (hb _ E1 (St.putObj hW)) ?_
          rintro e a' W' ⟨rfl, hW'⟩
          have hblk' : W'.heap[l]? = some (.loop (rec .busy none)) := St.blk_ hW'
          refine ⟨_, _, run_endRound (P := P) none hblk', rfl, ?_⟩
          have h2 := St.putObj (o' := .loop (rec .ready none)) hW'
          have h3 : St W0 (W'.putObj l (.loop (rec .ready none))) (sp (blk l (.loop (rec .ready none)) :: blk D (.deferred (some [])) :: I (pre ++ [y])) :: E1) := St.close_ (L := blk l (.loop (rec .ready none)) :: blk D (.deferred (some [])) :: I (pre ++ [y])) h2
          rw [hrec] at h3 ⊢
          exact h3
    · rintro e W' ⟨v, L', rfl, ⟨ys, hfin, rfl⟩, hW0⟩
      have hW' : St W0 W' (blk l (.loop (rec .ready none)) :: blk D (.deferred (some [])) :: (I ys ++ E)) := hW0.open_
      have hblk' : W'.heap[l]? = some (.loop (rec .ready none)) := St.blk_ hW'
      refine ⟨none, W'.putObj l (.loop { rec .ready none with state := .exhausted }), ?_, ?_⟩
      · rw [run_endLoop (P := P) hblk' (by rw [hrec]; simp), hrec]
      · exact (hdone D ys hfin).run _ (St.drop (St.putObj hW'))
/-- 'if !yield(x)': the region of the call -/
theorem C_yield1 {id : Nat} {d1 d2 d4 d5 : Tmp} {f x : Operand} {t1 t2 t4 t5 u5 : TypeId} {p1 p2 p4 p5 : String} {q1 q2 q4 q5 : Array Edge} {ats : Array TypeId} {l : Nat} {v1 w1 w2 : Value} {L' : List HP} {a1 a2 a4 a5 : Act}
    (e1 : a.eval f = w1) (h1 : a.put (some d1) w1 = a1) (e2 : a1.eval x = w2) (h2 : a1.put (some d2) w2 = a2) (h4 : a2.put (some d4) (.bool true) = a4) (h5 : a4.put (some d5) (.bool false) = a5)
    (hF : a2.eval (.tmp d1) = .func (.yield l) #[] #[]) (hX : a2.eval (.tmp d2) = v1) (hB : a4.eval (.tmp d4) = .bool true)
    (hy : ∀ w, St W0 w L → Yields P l #[v1] w fun e w' => e = .returned (.bool true) ∧ St W0 w' L')
    (k : EL W0 L' Q .normal a5) :
    CL P W0 L (Code.region id #[⟨some d1, .move f, t1, p1, q1, none⟩, ⟨some d2, .move x, t2, p2, q2, none⟩, ⟨some d4, .call { callee := .value (.tmp d1), args := #[.tmp d2], argTypes := ats }, t4, p4, q4, none⟩, ⟨some d5, .unOp .not u5 (.tmp d4), t5, p5, q5, none⟩] false) Q a := by
  refine ⟨fun w hS => ?_⟩
  subst h1 h2 h4 h5
  subst e1 e2
  refine (wpIn_wide (n := 0)).1 (wpIn_region_lit ?_)
  refine wlIn_move (wlIn_move (wlIn_yield (l := l) (args := #[v1]) (R := fun e w' => e = .returned (.bool true) ∧ St W0 w' L') rfl rfl hF (by rw [← hX]; simp only [List.map_toArray, List.map_cons, List.map_nil]) (hy w hS) (fun e w' h => ⟨_, h.1⟩) ?_))
  rintro v' w' ⟨hv, h⟩
  injection hv with hv
  subst hv
  exact wlIn_not (b := true) hB (wpListIn_nil (k.run w' h))
end
end Go.Proofs.Ytlmabajgnjiigaa
namespace Go.Proofs.Ytlmabajgnjiigaa
open Go Go.RowKit
set_option linter.unusedVariables false
set_option linter.unusedSimpArgs false
set_option maxRecDepth 20000
set_option synthInstance.maxSize 100000
set_option synthInstance.maxHeartbeats 400000
theorem bit_flip {y : UInt8} {k : Nat} (hk : k < 8) : ∃ z : UInt8, bits .xor .u8 (y.toNat : Int) (IntKind.u8.wrap (1 * 2 ^ k)) = (z.toNat : Int) ∧ z ≠ y := by
  have h : ∀ (k : Fin 8) (y : Fin 256), 0 ≤ bits .xor .u8 (y.val : Int) (IntKind.u8.wrap (1 * 2 ^ k.val)) ∧ bits .xor .u8 (y.val : Int) (IntKind.u8.wrap (1 * 2 ^ k.val)) < 256 ∧ bits .xor .u8 (y.val : Int) (IntKind.u8.wrap (1 * 2 ^ k.val)) ≠ (y.val : Int) := by decide +kernel
  obtain ⟨h1, h2, h3⟩ := h ⟨k, hk⟩ ⟨y.toNat, y.toNat_lt⟩
  dsimp only at h1 h2 h3
  have e : ((UInt8.ofNat (bits .xor .u8 (y.toNat : Int) (IntKind.u8.wrap (1 * 2 ^ k))).toNat).toNat : Int) = bits .xor .u8 (y.toNat : Int) (IntKind.u8.wrap (1 * 2 ^ k)) := by
    rw [UInt8.toNat_ofNat']
    omega
  refine ⟨UInt8.ofNat (bits .xor .u8 (y.toNat : Int) (IntKind.u8.wrap (1 * 2 ^ k))).toNat, e.symm, fun hz => h3 ?_⟩
  rw [← e, hz]
theorem O_front {P : Program} {W0 : World} {L Le : List HP} {ops : Array Oper} {Q : Exit → Act → World → Prop} {rest : List Oper} {a : Act} {A : HP} (i : Nat) (hi : L[i]? = some A) (he : L.eraseIdx i = Le) (k : OL P W0 (A :: Le) ops Q rest a) : OL P W0 L ops Q rest a := by
  subst he
  exact O_at hi k
end Go.Proofs.Ytlmabajgnjiigaa
