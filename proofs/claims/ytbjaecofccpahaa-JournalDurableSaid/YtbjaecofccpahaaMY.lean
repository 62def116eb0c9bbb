/-
  Walks: maps.Keys over the files, slices.AppendSeq, Collect, Sorted; Files of a disk.
-/
import Derived.Test.YtbjaecofccpahaaMW
import Derived.Test.YtbjaecofccpahaaMX
import Derived.Test.YtbjaecofccpahaaMN
import Derived.Test.YtbjaecofccpahaaMO
import Derived.Test.YtbjaecofccpahaaMJ
import Derived.Test.YtbjaecofccpahaaMS
namespace Go.Proofs.Ytbjaecofccpahaa
open Go Go.RowKit
set_option linter.unusedVariables false
set_option linter.unusedSimpArgs false
set_option maxRecDepth 20000
set_option synthInstance.maxSize 100000
set_option synthInstance.maxHeartbeats 400000
/-- the keys that have come -/
def selK {α : Type} : List Bool → List (Int × α) → List Int
  | true :: fl, p :: l => p.1 :: selK fl l
  | false :: fl, _ :: l => selK fl l
  | _, _ => []
theorem selK_none {α : Type} : ∀ (l : List (Int × α)), selK (List.replicate l.length false) l = []
  | [] => rfl
  | p :: l => by rw [List.length_cons, List.replicate_succ]; exact selK_none l
theorem selK_all {α : Type} : ∀ {fl : List Bool} {l : List (Int × α)}, fl.length = l.length → (∀ f ∈ fl, f = true) → selK fl l = l.map Prod.fst
  | [], [], _, _ => rfl
  | f :: fl, p :: l, h, ha => by
    have hf := ha f (.head _)
    subst hf
    have := selK_all (fl := fl) (l := l) (by simpa using h) fun g hg => ha g (.tail _ hg)
    show p.1 :: selK fl l = _
    rw [this]
    rfl
  | [], _ :: _, h, _ => by simp at h
  | _ :: _, [], h, _ => by simp at h
theorem selK_set {α : Type} : ∀ {fl : List Bool} {l : List (Int × α)} {j : Nat} {p : Int × α}, fl[j]? = some false → l[j]? = some p → (selK (fl.set j true) l).Perm (p.1 :: selK fl l)
  | f :: fl, q :: l, 0, p, h, hp => by
    simp only [List.getElem?_cons_zero, Option.some.injEq] at h hp
    subst h hp
    exact List.Perm.refl _
  | f :: fl, q :: l, j + 1, p, h, hp => by
    rw [List.getElem?_cons_succ] at h hp
    have := selK_set h hp
    cases f
    · exact this
    · exact (List.Perm.cons q.1 this).trans (List.Perm.swap _ _ _)
  | [], _, _, _, h, _ => by simp at h
  | _ :: _, [], _, _, _, h => by simp at h
theorem selK_len {α : Type} {fl : List Bool} : ∀ {l : List (Int × α)} {j : Nat}, fl.length = l.length → fl[j]? = some false → (selK fl l).length < l.length := by
  induction fl with
  | nil => intro l j _ h; simp at h
  | cons f fl ih =>
    intro l j hl h
    have hle : ∀ (fl : List Bool) (l : List (Int × α)), (selK fl l).length ≤ l.length := by
      intro fl
      induction fl with
      | nil => intro l; simp [selK]
      | cons f fl ih =>
        intro l
        cases l with
        | nil => cases f <;> simp [selK]
        | cons q l =>
          have := ih l
          cases f
          · show (selK fl l).length ≤ l.length + 1; omega
          · show (selK fl l).length + 1 ≤ l.length + 1; omega
    cases l with
    | nil => simp at hl
    | cons q l =>
      have hl' : fl.length = l.length := by simpa using hl
      cases f
      · have := hle fl l
        show (selK fl l).length < l.length + 1
        omega
      · cases j with
        | zero => simp at h
        | succ j =>
          have := ih (l := l) (j := j) hl' (by simpa using h)
          show (selK fl l).length + 1 < l.length + 1
          omega
section
variable {W0 : World} {L : List HP}
theorem keys_gives {R : MEnc DF} {bx b : Nat} {l : List (Int × DF)} {T : TypeId} {E0 : List HP} (hR : ∀ x, R.val x = .agg #[x.v, .int .i64 x.d]) :
    GivesP Try.prog 77 #[.pointer (some ⟨bx, 0, none⟩)] (fun (y : Int) (k : Unit) => #[.int .i64 y]) (fun _ _ => []) (fun pre _ => pre.length < (l.map Prod.fst).length) (fun ys => ys.Perm (l.map Prod.fst)) (cel bx [.map (some b)] T :: mapo R b l :: E0) := by
  intro g W0 J hround
  refine CT_enter Try.func77 rfl ?_; (simp only [Try.ntmps77, List.size_toArray, List.length_cons, List.length_nil, Nat.reduceAdd, Nat.reduceSub, Array.replicate_succ, Array.replicate_zero, List.push_toArray, List.append_toArray, List.nil_append, List.cons_append])
  repeat' (first | refine go ?_ | intro _ | (apply cG; first | refine cT ?_ | refine cF ?_ | refine cS (fun _ => ?_) fun _ => ?_) | (apply gW; refine sW ?_) | (apply gI; refine sI ?_) | (apply gE; refine sE ?_) | (apply gP; refine sP ?_) | (apply gC; refine sC ?_) | (apply gD; refine sD ?_) | fail)
  refine O_d (dy_rangeG (R := R) (b := b) (i := 2) (hm := rfl) Ev.pf) ?_; rintro _ _ ⟨r, rfl, rfl⟩; refine O_n ?_
  try simp only [List.set_cons_succ, List.set_cons_zero]
  repeat' (first | refine go ?_ | intro _ | (apply cG; first | refine cT ?_ | refine cF ?_ | refine cS (fun _ => ?_) fun _ => ?_) | (apply gW; refine sW ?_) | (apply gI; refine sI ?_) | (apply gE; refine sE ?_) | (apply gP; refine sP ?_) | (apply gC; refine sC ?_) | (apply gD; refine sD ?_) | fail)
  refine C_loopS (κ := List Int × List Bool × Option Nat) [false, false, false, true, false, false, true, true, true, true, true, true, true, true] (fun k => []) (fun k => [(0, J k.1), (2, rngo R b r l k.2.1 k.2.2)]) (fun k => k.2.1.length = l.length ∧ k.1.Perm (selK k.2.1 l)) (fun k => k.2.1.count false) ([], List.replicate l.length false, none) ⟨List.length_replicate, by dsimp only; rw [selK_none]⟩ trivial ?_
  rintro ⟨pre, fl, cur⟩ u ⟨hfl, hp⟩
  dsimp only at hfl hp
  ((try dsimp only); refine C_n ?_; (try simp only [Nat.reduceAdd, Nat.zero_add]))
  repeat' (first | refine go ?_ | intro _ | (apply cG; first | refine cT ?_ | refine cF ?_ | refine cS (fun _ => ?_) fun _ => ?_) | (apply gW; refine sW ?_) | (apply gI; refine sI ?_) | (apply gE; refine sE ?_) | (apply gP; refine sP ?_) | (apply gC; refine sC ?_) | (apply gD; refine sD ?_) | fail)
  refine O_d (dy_next (R := R) (b := b) (r := r) (i := 2) (hm := rfl) Ev.pf) ?_; rintro _ _ (⟨hall, rfl, rfl⟩ | ⟨j, p2, hfj, hlj, rfl, rfl⟩)
  · refine O_n ?_
    rw [selK_all hfl hall] at hp
    repeat' (first | refine go ?_ | intro _ | (apply cG; first | refine cT ?_ | refine cF ?_ | refine cS (fun _ => ?_) fun _ => ?_) | (apply gW; refine sW ?_) | (apply gI; refine sI ?_) | (apply gE; refine sE ?_) | (apply gP; refine sP ?_) | (apply gC; refine sC ?_) | (apply gD; refine sD ?_) | fail)
    refine E_sub (S := rngo R b r l fl cur :: J pre :: cel bx [.map (some b)] T :: E0) Sb ?_
    refine E_sub sub_rng_close ?_
    refine E_sub (S := J pre :: cel bx [.map (some b)] T :: mapo R b l :: E0) Sb ?_
    refine E_end0 (by first | exact .inl rfl | exact .inr rfl) (by rfl) (by rfl) ⟨pre, hp, rfl⟩
  · refine O_n ?_
    try simp only [List.set_cons_succ, List.set_cons_zero]
    repeat' (first | refine go ?_ | intro _ | (apply cG; first | refine cT ?_ | refine cF ?_ | refine cS (fun _ => ?_) fun _ => ?_) | (apply gW; refine sW ?_) | (apply gI; refine sI ?_) | (apply gE; refine sE ?_) | (apply gP; refine sP ?_) | (apply gC; refine sC ?_) | (apply gD; refine sD ?_) | fail)
    refine O_s (sv_entry (R := R) (b := b) (r := r) (j := j) (by repeat (first | exact .head _ | refine .tail _ ?_)) Ev.pf hlj) ?_
    repeat' (first | ((fail_if_success apply AtE); refine go ?_) | intro _ | (apply cG; first | refine cT ?_ | refine cF ?_ | refine cS (fun _ => ?_) fun _ => ?_) | (apply gW; refine sW ?_) | (apply gI; refine sI ?_) | (apply gE; refine sE ?_) | (apply gP; refine sP ?_) | (apply gC; refine sC ?_) | (apply gD; refine sD ?_) | fail)
    refine go ?_
    refine go ?_
    refine C_yield1 (l := g) (v1 := .int .i64 p2.1) (L' := J (pre ++ [p2.1]) :: cel bx [.map (some b)] T :: rngo R b r l (fl.set j true) (some j) :: E0)
      Ev.pf Put.pf Ev.pf Put.pf Put.pf Put.pf Ev.pf Ev.pf Ev.pf ?_ ?_
    · intro w hw
      exact hround pre p2.1 () w _ (by have := hp.length_eq; have := selK_len hfl hfj; dsimp only; rw [List.length_map]; omega) hw
    repeat' (first | refine go ?_ | intro _ | (apply cG; first | refine cT ?_ | refine cF ?_ | refine cS (fun _ => ?_) fun _ => ?_) | (apply gW; refine sW ?_) | (apply gI; refine sI ?_) | (apply gE; refine sE ?_) | (apply gP; refine sP ?_) | (apply gC; refine sC ?_) | (apply gD; refine sD ?_) | fail)
    exact E_round (pre ++ [p2.1], fl.set j true, some j) ⟨by dsimp only; rw [List.length_set]; exact hfl, (List.perm_append_comm.trans (List.Perm.cons _ hp)).trans (selK_set hfj hlj).symm⟩ (left_lt hfj) trivial Sb
theorem Keys_ct {b : Nat} : CT Try.prog 63 #[.map (some b)] W0 L fun r L' => ∃ bx T, r = .func (.func 77) #[] #[.pointer (some ⟨bx, 0, none⟩)] ∧ L' = cel bx [.map (some b)] T :: L := by
  refine CT_enter Try.func63 rfl ?_; (simp only [Try.ntmps63, List.size_toArray, List.length_cons, List.length_nil, Nat.reduceAdd, Nat.reduceSub, Array.replicate_succ, Array.replicate_zero, List.push_toArray, List.append_toArray, List.nil_append, List.cons_append])
  repeat' (first | refine go ?_ | intro _ | (apply cG; first | refine cT ?_ | refine cF ?_ | refine cS (fun _ => ?_) fun _ => ?_) | (apply gW; refine sW ?_) | (apply gI; refine sI ?_) | (apply gE; refine sE ?_) | (apply gP; refine sP ?_) | (apply gC; refine sC ?_) | (apply gD; refine sD ?_) | fail)
  refine E_res1 (by rfl) (by rfl) ⟨_, _, rfl, rfl⟩ Sb
/-- a slice of integers in a variable of its own -/
def bxI (p : Nat) (l : List Int) : HP := ex fun v => sp [cel p [v] 22, own 3 eI v l]
theorem bxI_sub {p : Nat} {v : Value} {l : List Int} : Sub (cel p [v] 22 :: own 3 eI v l :: L) (bxI p l :: L) :=
  (sub_close (Ls := [cel p [v] 22, own 3 eI v l])).trans (sub_ex (F := fun v => sp [cel p [v] 22, own 3 eI v l]) v)
theorem bxI_open {ops : Array Oper} {Q : Exit → Act → World → Prop} {rest : List Oper} {a : Act} {p : Nat} {l : List Int} (k : ∀ A c, OL Try.prog W0 (cel p [.slice A l.length c] 22 :: own 3 eI (.slice A l.length c) l :: L) ops Q rest a) : OL Try.prog W0 (bxI p l :: L) ops Q rest a := by
  refine ⟨fun w st => ?_⟩
  obtain ⟨v, h⟩ := st.ex_
  have h := h.open_
  obtain ⟨A, c, rfl, _⟩ := (h.rdo (.tail _ (.head _))).form
  exact (k A c).run w h
theorem bxI_openE {Q : Exit → Act → World → Prop} {e : Exit} {a : Act} {p : Nat} {l : List Int} (k : ∀ A c, EL W0 (cel p [.slice A l.length c] 22 :: own 3 eI (.slice A l.length c) l :: L) Q e a) : EL W0 (bxI p l :: L) Q e a := by
  refine ⟨fun w st => ?_⟩
  obtain ⟨v, h⟩ := st.ex_
  have h := h.open_
  obtain ⟨A, c, rfl, _⟩ := (h.rdo (.tail _ (.head _))).form
  exact (k A c).run w h
theorem AppendSeq_ct {gf : FuncId} {lb : Array Value} {N : Nat} {fin : List Int → Prop} {E : List HP} (hN : N ≤ 1000000) (eg : Enters Try.prog gf) (hit : GivesP Try.prog gf lb (fun (y : Int) (k : Unit) => #[.int .i64 y]) (fun _ _ => []) (fun pre _ => pre.length < N) fin E) :
    CT Try.prog 86 #[.slice none 0 0, .func (.func gf) #[] lb] W0 E fun r L' => ∃ ys A c, fin ys ∧ r = .slice A (List.length ys) c ∧ L' = own 3 eI (.slice A (List.length ys) c) ys :: E := by
  refine CT_enterM Try.func86 rfl ?_; (simp only [Try.ntmps86, List.size_toArray, List.length_cons, List.length_nil, Nat.reduceAdd, Nat.reduceSub, Array.replicate_succ, Array.replicate_zero, List.push_toArray, List.append_toArray, List.nil_append, List.cons_append])
  repeat' (first | refine go ?_ | intro _ | (apply cG; first | refine cT ?_ | refine cF ?_ | refine cS (fun _ => ?_) fun _ => ?_) | (apply gW; refine sW ?_) | (apply gI; refine sI ?_) | (apply gE; refine sE ?_) | (apply gP; refine sP ?_) | (apply gC; refine sC ?_) | (apply gD; refine sD ?_) | fail)
  rename_i c1
  refine C_ownnil 3 eI ?_
  refine C_sub (S := cel c1 [.slice none 0 0] 22 :: own 3 eI (.slice none 0 0) [] :: E) Sb ?_
  refine C_rangeP Ev.pf eg hit (fun _ _ => rfl) (fun pre => [bxI c1 pre]) bxI_sub ?_ ?_
  · intro l D rec pre y k hx
    simp only [zip1, List.setIfInBounds_toArray, List.set_cons_zero, List.set_cons_succ]
    refine ⟨_, fun W K hK => wpIn_assignG Ev.pf Put.pf (fun _ _ h => h) hK, ?_⟩
    intro W E1
    simp only [List.cons_append, List.nil_append]
    refine CI.run ?_ W
    refine CI_block (CI_region (fun _ _ h => by cases h.1) rfl ?_)
    refine O_sub (S := bxI c1 pre :: blk l rec :: blk D (.deferred (some [])) :: E1) Sb ?_
    refine bxI_open fun A5 c5 => ?_
    have hpl : pre.length < 1000000 := by first | omega | (dsimp only at hx; omega)
    repeat' (first | refine go ?_ | intro _ | (apply cG; first | refine cT ?_ | refine cF ?_ | refine cS (fun _ => ?_) fun _ => ?_) | (apply gW; refine sW ?_) | (apply gI; refine sI ?_) | (apply gE; refine sE ?_) | (apply gP; refine sP ?_) | (apply gC; refine sC ?_) | (apply gD; refine sD ?_) | fail)
    refine O_d (dy_lit1 (R := eI) y (hcs := by rfl) (hel := fun _ _ _ => by rfl)) ?_; rintro _ _ ⟨_, rfl, rfl⟩; refine O_n ?_
    refine O_d dy_append ?_; rintro _ _ ⟨A7, c7, rfl, rfl⟩; refine O_n ?_
    repeat' (first | refine go ?_ | intro _ | (apply cG; first | refine cT ?_ | refine cF ?_ | refine cS (fun _ => ?_) fun _ => ?_) | (apply gW; refine sW ?_) | (apply gI; refine sI ?_) | (apply gE; refine sE ?_) | (apply gP; refine sP ?_) | (apply gC; refine sC ?_) | (apply gD; refine sD ?_) | fail)
    refine E_sub (S := cel c1 [.slice A7 (pre.length + 1) c7] 22 :: own 3 eI (.slice A7 (pre.length + 1) c7) (pre ++ [y]) :: blk l rec :: blk D (.deferred (some [])) :: E1) Sb ?_
    refine E_sub bxI_sub ?_
    refine E_sub (S := blk l rec :: blk D (.deferred (some [])) :: bxI c1 (pre ++ [y]) :: E1) Sb ?_
    exact ⟨fun w s => ⟨rfl, s⟩⟩
  · intro D ys hf
    simp only [List.cons_append, List.nil_append]
    refine E_sub (S := bxI c1 ys :: blk D (.deferred (some [])) :: E) Sb ?_
    refine bxI_openE fun A8 c8 => ?_
    repeat' (first | refine go ?_ | intro _ | (apply cG; first | refine cT ?_ | refine cF ?_ | refine cS (fun _ => ?_) fun _ => ?_) | (apply gW; refine sW ?_) | (apply gI; refine sI ?_) | (apply gE; refine sE ?_) | (apply gP; refine sP ?_) | (apply gC; refine sC ?_) | (apply gD; refine sD ?_) | fail)
    refine E_res1d rfl (by rfl) Ev.pf ⟨ys, A8, c8, hf, rfl, rfl⟩ Sb
theorem Collect_ct {gf : FuncId} {lb : Array Value} {N : Nat} {fin : List Int → Prop} {E : List HP} (hN : N ≤ 1000000) (eg : Enters Try.prog gf) (hit : GivesP Try.prog gf lb (fun (y : Int) (k : Unit) => #[.int .i64 y]) (fun _ _ => []) (fun pre _ => pre.length < N) fin E) :
    CT Try.prog 75 #[.func (.func gf) #[] lb] W0 E fun r L' => ∃ ys A c, fin ys ∧ r = .slice A (List.length ys) c ∧ L' = own 3 eI (.slice A (List.length ys) c) ys :: E := by
  refine CT_enter Try.func75 rfl ?_; (simp only [Try.ntmps75, List.size_toArray, List.length_cons, List.length_nil, Nat.reduceAdd, Nat.reduceSub, Array.replicate_succ, Array.replicate_zero, List.push_toArray, List.append_toArray, List.nil_append, List.cons_append])
  repeat' (first | refine go ?_ | intro _ | (apply cG; first | refine cT ?_ | refine cF ?_ | refine cS (fun _ => ?_) fun _ => ?_) | (apply gW; refine sW ?_) | (apply gI; refine sI ?_) | (apply gE; refine sE ?_) | (apply gP; refine sP ?_) | (apply gC; refine sC ?_) | (apply gD; refine sD ?_) | fail)
  refine O_d (dy_call ArgsI.pf (by first | exact rfl | trivial | (intro a b; rfl)) (AppendSeq_ct hN eg hit)) ?_; rintro _ _ ⟨_, ⟨ys, A, c, hf, rfl, rfl⟩, rfl⟩; refine O_n ?_
  repeat' (first | refine go ?_ | intro _ | (apply cG; first | refine cT ?_ | refine cF ?_ | refine cS (fun _ => ?_) fun _ => ?_) | (apply gW; refine sW ?_) | (apply gI; refine sI ?_) | (apply gE; refine sE ?_) | (apply gP; refine sP ?_) | (apply gC; refine sC ?_) | (apply gD; refine sD ?_) | fail)
  refine E_res1 (by rfl) (by rfl) ⟨ys, A, c, hf, rfl, rfl⟩ Sb
theorem Sorted_ct {gf : FuncId} {lb : Array Value} {l : List Int} {E : List HP} (hN : l.length ≤ 12) (eg : Enters Try.prog gf) (hit : GivesP Try.prog gf lb (fun (y : Int) (k : Unit) => #[.int .i64 y]) (fun _ _ => []) (fun pre _ => pre.length < l.length) (fun ys => ys.Perm l) E) :
    CT Try.prog 62 #[.func (.func gf) #[] lb] W0 E fun r L' => ∃ ys A c, ys.Perm l ∧ r = .slice A (List.length ys) c ∧ L' = own 3 eI (.slice A (List.length ys) c) ys :: E := by
  refine CT_enter Try.func62 rfl ?_; (simp only [Try.ntmps62, List.size_toArray, List.length_cons, List.length_nil, Nat.reduceAdd, Nat.reduceSub, Array.replicate_succ, Array.replicate_zero, List.push_toArray, List.append_toArray, List.nil_append, List.cons_append])
  repeat' (first | refine go ?_ | intro _ | (apply cG; first | refine cT ?_ | refine cF ?_ | refine cS (fun _ => ?_) fun _ => ?_) | (apply gW; refine sW ?_) | (apply gI; refine sI ?_) | (apply gE; refine sE ?_) | (apply gP; refine sP ?_) | (apply gC; refine sC ?_) | (apply gD; refine sD ?_) | fail)
  refine O_d (dy_call ArgsI.pf (by first | exact rfl | trivial | (intro a b; rfl)) (Collect_ct (by omega) eg hit)) ?_; rintro _ _ ⟨_, ⟨ys, A, c, hf, rfl, rfl⟩, rfl⟩; refine O_n ?_
  have hl := hf.length_eq
  repeat' (first | refine go ?_ | intro _ | (apply cG; first | refine cT ?_ | refine cF ?_ | refine cS (fun _ => ?_) fun _ => ?_) | (apply gW; refine sW ?_) | (apply gI; refine sI ?_) | (apply gE; refine sE ?_) | (apply gP; refine sP ?_) | (apply gC; refine sC ?_) | (apply gD; refine sD ?_) | fail)
  refine O_d (dy_call ArgsI.pf (by first | exact rfl | trivial | (intro a b; rfl)) (Sort_ct (l := ys) (by omega))) ?_; rintro _ _ ⟨_, ⟨zs, hz, rfl, rfl⟩, rfl⟩; refine O_n ?_
  have hl2 := hz.length_eq
  rw [← hl2]
  repeat' (first | refine go ?_ | intro _ | (apply cG; first | refine cT ?_ | refine cF ?_ | refine cS (fun _ => ?_) fun _ => ?_) | (apply gW; refine sW ?_) | (apply gI; refine sI ?_) | (apply gE; refine sE ?_) | (apply gP; refine sP ?_) | (apply gC; refine sC ?_) | (apply gD; refine sD ?_) | fail)
  refine E_res1 (by rfl) (by rfl) ⟨zs, A, c, hz.trans hf, rfl, rfl⟩ Sb
theorem Files_ct {p : Nat} {d : DK} (hn : d.files.length ≤ 12) : CT Try.prog 43 #[.pointer (some ⟨p, 0, none⟩)] W0 (dsk p d :: L) fun r L' => ∃ ys A c, ys.Perm (d.files.map Prod.fst) ∧ r = .slice A (List.length ys) c ∧ L' = own 3 eI (.slice A (List.length ys) c) ys :: dsk p d :: L := by
  refine dsk_ct fun b => ?_
  refine CT_enter Try.func43 rfl ?_; (simp only [Try.ntmps43, List.size_toArray, List.length_cons, List.length_nil, Nat.reduceAdd, Nat.reduceSub, Array.replicate_succ, Array.replicate_zero, List.push_toArray, List.append_toArray, List.nil_append, List.cons_append])
  repeat' (first | refine go ?_ | intro _ | (apply cG; first | refine cT ?_ | refine cF ?_ | refine cS (fun _ => ?_) fun _ => ?_) | (apply gW; refine sW ?_) | (apply gI; refine sI ?_) | (apply gE; refine sE ?_) | (apply gP; refine sP ?_) | (apply gC; refine sC ?_) | (apply gD; refine sD ?_) | fail)
  refine O_d (dy_call ArgsI.pf (by first | exact rfl | trivial | (intro a b; rfl)) (Keys_ct)) ?_; rintro _ _ ⟨_, ⟨bx, T, rfl, rfl⟩, rfl⟩; refine O_n ?_
  repeat' (first | refine go ?_ | intro _ | (apply cG; first | refine cT ?_ | refine cF ?_ | refine cS (fun _ => ?_) fun _ => ?_) | (apply gW; refine sW ?_) | (apply gI; refine sI ?_) | (apply gE; refine sE ?_) | (apply gP; refine sP ?_) | (apply gC; refine sC ?_) | (apply gD; refine sD ?_) | fail)
  have eg : Enters Try.prog 77 := by first | exact rfl | trivial | (intro a b; rfl)
  refine O_sub (S := cel bx [.map (some b)] T :: mapo mDF b d.files :: cel p [.map (some b), .int .i64 d.room, .bool d.off, .bool d.armed, .int .i64 d.left] 73 :: L) Sb ?_
  refine O_d (dy_call ArgsI.pf (by first | exact rfl | trivial | (intro a b; rfl)) (Sorted_ct (l := d.files.map Prod.fst) (by rw [List.length_map]; exact hn) eg (keys_gives mDF_val))) ?_; rintro _ _ ⟨_, ⟨ys, A, c, hy, rfl, rfl⟩, rfl⟩; refine O_n ?_
  repeat' (first | refine go ?_ | intro _ | (apply cG; first | refine cT ?_ | refine cF ?_ | refine cS (fun _ => ?_) fun _ => ?_) | (apply gW; refine sW ?_) | (apply gI; refine sI ?_) | (apply gE; refine sE ?_) | (apply gP; refine sP ?_) | (apply gC; refine sC ?_) | (apply gD; refine sD ?_) | fail)
  refine E_res1 (by rfl) (by rfl) ⟨ys, A, c, hy, rfl, rfl⟩ (Sub.trans (B := own 3 eI (.slice A ys.length c) ys :: cel p [.map (some b), .int .i64 d.room, .bool d.off, .bool d.armed, .int .i64 d.left] 73 :: mapo mDF b d.files :: L) Sb (sub_skip dsk_sub))
end
end Go.Proofs.Ytbjaecofccpahaa
namespace Go.Proofs.Ytbjaecofccpahaa
open Go Go.RowKit
set_option linter.unusedVariables false
set_option linter.unusedSimpArgs false
def fold32 (y : UInt64) : UInt64 := y ^^^ (y >>> 32)
theorem fold32_twice (y : UInt64) : fold32 (fold32 y) = y := by
  apply UInt64.eq_of_toBitVec_eq
  simp only [fold32, UInt64.toBitVec_xor, UInt64.toBitVec_shiftRight]
  have e : ((32 : UInt64).toBitVec % 64) = (32 : BitVec 64) := by decide
  rw [e]
  apply BitVec.eq_of_getLsbD_eq
  intro i hi
  have e2 : (32 : BitVec 64).toNat = 32 := by decide
  simp only [BitVec.getLsbD_xor, BitVec.ushiftRight_eq', e2, BitVec.getLsbD_ushiftRight]
  have e3 : y.toBitVec.getLsbD (32 + (32 + i)) = false := BitVec.getLsbD_of_ge _ _ (by omega)
  rw [e3]
  cases y.toBitVec.getLsbD i <;> cases y.toBitVec.getLsbD (32 + i) <;> rfl
theorem mul_inj {x y : UInt64} (h : x * hC = y * hC) : x = y := by
  have hi : hC * 17428512612931826493 = 1 := by decide
  have h2 : (x * hC) * 17428512612931826493 = (y * hC) * 17428512612931826493 := by rw [h]
  rw [UInt64.mul_assoc, UInt64.mul_assoc, hi, UInt64.mul_one, UInt64.mul_one] at h2
  exact h2
theorem mix_fold (s w : UInt64) : mix s w = fold32 ((s ^^^ w) * hC) := rfl
theorem mix_x {a b : UInt64} {s w s' w' : UInt64} (h : mix s w = mix s' w') : s ^^^ w = s' ^^^ w' := by
  rw [mix_fold, mix_fold] at h
  have h2 := congrArg fold32 h
  rw [fold32_twice, fold32_twice] at h2
  exact mul_inj h2
theorem xor_l {s s' w : UInt64} (h : s ^^^ w = s' ^^^ w) : s = s' := by
  have h2 := congrArg (· ^^^ w) h
  simp only [UInt64.xor_assoc, UInt64.xor_self, UInt64.xor_zero] at h2
  exact h2
theorem mix_l {s s' w : UInt64} (h : mix s w = mix s' w) : s = s' := xor_l (mix_x (a := 0) (b := 0) h)
theorem mix_r {s w w' : UInt64} (h : mix s w = mix s w') : w = w' := by
  have := mix_x (a := 0) (b := 0) h
  rw [UInt64.xor_comm s w, UInt64.xor_comm s w'] at this
  exact xor_l this
theorem fold_inj {α : Type} {f : UInt64 → α → UInt64} (hf : ∀ s s' x, f s x = f s' x → s = s') : ∀ (l : List α) {s s' : UInt64}, l.foldl f s = l.foldl f s' → s = s'
  | [], _, _, h => h
  | x :: l, _, _, h => hf _ _ x (fold_inj hf l h)
theorem mixI_l {s s' : UInt64} {n : Int} (h : mixI s n = mixI s' n) : s = s' := mix_l h
theorem ofInt_toI (x : UInt64) : UInt64.ofInt (toI x) = x := by
  have h := u64_lt x
  apply UInt64.toNat_inj.1
  have h2 := ofIntI (toI x)
  have h3 : IntKind.u64.wrap (toI x) = (x.toNat : Int) := by
    rw [IntKind.wrap_u64]
    unfold toI wrap64
    omega
  omega
theorem mixI_toI (s x : UInt64) : mixI s (toI x) = mix s x := by unfold mixI; rw [ofInt_toI]
/-- the start of a sum -/
def start (label : List UInt8) (n : Nat) : UInt64 := mix (mix ((wordsOf label).foldl mix 0) (UInt64.ofNat label.length)) (UInt64.ofNat n)
theorem sumW_eq (label : List UInt8) (l : List Int) : sumW label l = mix (l.foldl mixI (start label l.length)) 0 := rfl
theorem pair_l {a b c : UInt64} (h : pairW a c = pairW b c) : a = b := by
  unfold pairW at h
  rw [sumW_eq, sumW_eq] at h
  have h2 := mixI_l (mix_l h)
  simp only [List.foldl_cons, List.foldl_nil, List.length_cons, List.length_nil] at h2
  rw [mixI_toI, mixI_toI] at h2
  exact mix_r h2
theorem pair_r {a b c : UInt64} (h : pairW c a = pairW c b) : a = b := by
  unfold pairW at h
  rw [sumW_eq, sumW_eq] at h
  have h2 := mix_l h
  simp only [List.foldl_cons, List.foldl_nil, List.length_cons, List.length_nil] at h2
  rw [mixI_toI, mixI_toI, mixI_toI] at h2
  exact mix_r h2
theorem wf_u64 {n : Int} (h : (Lit.int .u64 n).wf = true) : ∃ x : UInt64, n = (x.toNat : Int) := by
  refine ⟨UInt64.ofNat n.toNat, ?_⟩
  simp [Lit.wf, IntKind.min, IntKind.max, IntKind.signed, IntKind.bits] at h
  simp
  omega
theorem wf_i64 {n : Int} (h : (Lit.int .i64 n).wf = true) : -9223372036854775808 ≤ n ∧ n ≤ 9223372036854775807 := by
  simpa [Lit.wf, IntKind.min, IntKind.max, IntKind.signed, IntKind.bits] using h
theorem wf_u8 {n : Int} (h : (Lit.int .u8 n).wf = true) : ∃ x : UInt8, n = (x.toNat : Int) := by
  refine ⟨UInt8.ofNat n.toNat, ?_⟩
  simp [Lit.wf, IntKind.min, IntKind.max, IntKind.signed, IntKind.bits] at h
  simp
  omega
theorem beq_f {x y : UInt64} (h : x ≠ y) : ((x.toNat : Int) == (y.toNat : Int)) = false := by
  simp only [beq_eq_false_iff_ne, ne_eq]
  intro e
  exact h (UInt64.toNat_inj.1 (by omega))
theorem leW_zero : ∀ d : List UInt8, leW (d ++ [0]) = leW d
  | [] => by decide
  | b :: r => by
    have ih := leW_zero r
    simp only [List.cons_append, leW, ih]
theorem words_zero {c : List UInt8} (h : c.length % 8 ≠ 0) : wordsOf (c ++ [0]) = wordsOf c := by
  unfold wordsOf
  have e : ((c ++ [0]).length + 7) / 8 = (c.length + 7) / 8 := by simp; omega
  rw [e]
  refine List.map_congr_left fun j hj => ?_
  rw [List.mem_range] at hj
  have h8 : 8 * j ≤ c.length := by omega
  unfold wordAt
  rw [List.drop_append_of_le_length h8]
  by_cases hd : 8 ≤ (c.drop (8 * j)).length
  · rw [List.take_append_of_le_length hd]
  · rw [List.take_of_length_le (by simp at hd ⊢; omega), List.take_of_length_le (by omega), leW_zero]
theorem ofInt_ne {a b : Nat} (ha : a < 1000000) (hb : b < 1000000) (h : UInt64.ofInt (a : Int) = UInt64.ofInt (b : Int)) : a = b := by
  have h1 := ofIntI (a : Int)
  have h2 := ofIntI (b : Int)
  rw [IntKind.wrap_u64] at h1 h2
  rw [h] at h1
  omega
theorem bytes_zero {t c : List UInt8} (h : c.length % 8 ≠ 0) (hl : c.length ≤ 1000) : bytesW t (c ++ [0]) ≠ bytesW t c := by
  intro e
  unfold bytesW at e
  rw [words_zero h, sumW_eq, sumW_eq] at e
  have e2 := mix_l e
  rw [List.foldl_append, List.foldl_append] at e2
  simp only [List.length_append, List.length_cons, List.length_nil, List.foldl_cons, List.foldl_nil] at e2
  have e3 := ofInt_ne (by omega) (by omega) (mix_r (by simpa [mixI] using e2) : UInt64.ofInt ((c.length + 1 : Nat) : Int) = UInt64.ofInt (c.length : Int))
  omega
end Go.Proofs.Ytbjaecofccpahaa
namespace Go.Proofs.Ytbjaecofccpahaa
open Go Go.RowKit
set_option linter.unusedVariables false
set_option linter.unusedSimpArgs false
theorem fold_one {α : Type} {f : UInt64 → α → UInt64} (hf : ∀ s s' x, f s x = f s' x → s = s') : ∀ (l l' : List α) (g : Nat) (s : UInt64), l.length = l'.length →
    (∀ s x x', x ∈ l → x' ∈ l' → f s x = f s x' → x = x') → (∀ i, i ≠ g → l[i]? = l'[i]?) → l.foldl f s = l'.foldl f s → l = l'
  | [], [], _, _, _, _, _, _ => rfl
  | [], _ :: _, _, _, h, _, _, _ => by simp at h
  | _ :: _, [], _, _, h, _, _, _ => by simp at h
  | x :: l, x' :: l', 0, s, h, hr, ha, he => by
    have ht : l = l' := List.ext_getElem? fun i => by simpa using ha (i + 1) (by omega)
    subst ht
    have := hr s x x' List.mem_cons_self List.mem_cons_self (fold_inj hf l he)
    rw [this]
  | x :: l, x' :: l', g + 1, s, h, hr, ha, he => by
    have hx : x = x' := by simpa using ha 0 (by omega)
    subst hx
    have ht := fold_one hf l l' g (f s x) (by simpa using h) (fun s a b ha hb => hr s a b (List.mem_cons_of_mem _ ha) (List.mem_cons_of_mem _ hb)) (fun i hi => by simpa using ha (i + 1) (by omega)) he
    rw [ht]
theorem ofInt_inj {a b : Int} (ha : -9223372036854775808 ≤ a ∧ a ≤ 9223372036854775807) (hb : -9223372036854775808 ≤ b ∧ b ≤ 9223372036854775807) (h : UInt64.ofInt a = UInt64.ofInt b) : a = b := by
  have h1 := ofIntI a
  have h2 := ofIntI b
  rw [IntKind.wrap_u64] at h1 h2
  rw [h] at h1
  omega
theorem toI_rng (x : UInt64) : -9223372036854775808 ≤ toI x ∧ toI x ≤ 9223372036854775807 := by unfold toI wrap64; omega
theorem toI_inj {x y : UInt64} (h : toI x = toI y) : x = y := by rw [← ofInt_toI x, ← ofInt_toI y, h]
theorem leW_cons {b : UInt8} {r : List UInt8} (h : r.length ≤ 7) : (leW (b :: r)).toNat = 256 * (leW r).toNat + b.toNat := by
  have h2 := (leW_lt (l := r) (by omega)).1
  have hb := b.toNat_lt
  have hp2 : 256 ^ r.length ≤ 256 ^ 7 := Nat.pow_le_pow_right (by decide) (by omega)
  have e : (256 : Nat) ^ 7 = 72057594037927936 := by decide
  rw [e] at hp2
  simp only [leW, UInt64.toNat_add, UInt64.toNat_mul, UInt8.toNat_toUInt64]
  have e2 : (256 : UInt64).toNat = 256 := rfl
  rw [e2]
  omega
theorem leW_inj : ∀ {a b : List UInt8}, a.length = b.length → a.length ≤ 8 → leW a = leW b → a = b
  | [], [], _, _, _ => rfl
  | [], _ :: _, h, _, _ => by simp at h
  | _ :: _, [], h, _, _ => by simp at h
  | x :: a, y :: b, h, h8, e => by
    simp at h h8
    have e1 := leW_cons (b := x) (r := a) (by omega)
    have e2 := leW_cons (b := y) (r := b) (by omega)
    rw [e, e2] at e1
    have hx := x.toNat_lt
    have hy := y.toNat_lt
    have hxy : x = y := UInt8.toNat_inj.1 (by omega)
    have hl : leW a = leW b := UInt64.toNat_inj.1 (by omega)
    rw [hxy, leW_inj (a := a) (b := b) (by omega) (by omega) hl]
theorem word_get {x : List UInt8} {j i : Nat} : ((x.drop (8 * j)).take 8)[i]? = if i < 8 then x[8 * j + i]? else none := by
  rw [List.getElem?_take, List.getElem?_drop]
theorem word_ext {x y : List UInt8} {j : Nat} (h : ∀ i, i / 8 = j → x[i]? = y[i]?) : wordAt x j = wordAt y j := by
  unfold wordAt
  congr 1
  refine List.ext_getElem? fun i => ?_
  rw [word_get, word_get]
  split
  · exact h _ (by omega)
  · rfl
theorem words_get {x : List UInt8} {j : Nat} : (wordsOf x)[j]? = if j < (x.length + 7) / 8 then some (wordAt x j) else none := by
  unfold wordsOf
  by_cases h : j < (x.length + 7) / 8
  · rw [if_pos h, List.getElem?_map, List.getElem?_range h]; rfl
  · rw [if_neg h, List.getElem?_eq_none (by simp; omega)]
theorem words_inj {x y : List UInt8} (hl : x.length = y.length) (h : wordsOf x = wordsOf y) : x = y := by
  refine List.ext_getElem? fun i => ?_
  by_cases hi : i < x.length
  · have h1 := words_get (x := x) (j := i / 8)
    have h2 := words_get (x := y) (j := i / 8)
    rw [if_pos (by omega)] at h1 h2
    rw [h, h2] at h1
    have h3 := Option.some.inj h1
    unfold wordAt at h3
    have h4 := leW_inj (a := (y.drop (8 * (i / 8))).take 8) (b := (x.drop (8 * (i / 8))).take 8) (by simp [hl]) (by simp; omega) h3
    have h5 := congrArg (·[i % 8]?) h4
    simp only [word_get] at h5
    rw [if_pos (by omega), if_pos (by omega)] at h5
    have e : 8 * (i / 8) + i % 8 = i := by omega
    rw [e] at h5
    exact h5.symm
  · rw [List.getElem?_eq_none (by omega), List.getElem?_eq_none (by omega)]
theorem sum_one {t : List UInt8} {l l' : List Int} (hl : l.length = l'.length) (g : Nat) (h : ∀ i, i ≠ g → l[i]? = l'[i]?) (hb : ∀ n ∈ l, -9223372036854775808 ≤ n ∧ n ≤ 9223372036854775807) (hb' : ∀ n ∈ l', -9223372036854775808 ≤ n ∧ n ≤ 9223372036854775807)
    (e : sumW t l = sumW t l') : l = l' := by
  rw [sumW_eq, sumW_eq, hl] at e
  exact fold_one (f := mixI) (fun s s' x h => mixI_l h) l l' g _ hl (fun s x x' hx hx' he => ofInt_inj (hb x hx) (hb' x' hx') (mix_r (s := s) (w := UInt64.ofInt x) (w' := UInt64.ofInt x') he)) h (mix_l e)
theorem bytes_one {t x y : List UInt8} (hl : x.length = y.length) (g : Nat) (h : ∀ i, i / 8 ≠ g → x[i]? = y[i]?) (hs : x.length ≤ 1000000) (e : bytesW t x = bytesW t y) : x = y := by
  have hwl : (wordsOf x).length = (wordsOf y).length := by simp [wordsOf, hl]
  have rng : ∀ {z : List UInt8} {n : Int}, z.length ≤ 1000000 → n ∈ (wordsOf z).map toI ++ [(z.length : Int)] → -9223372036854775808 ≤ n ∧ n ≤ 9223372036854775807 := by
    intro z n hz hn
    rw [List.mem_append] at hn
    rcases hn with hn | hn
    · obtain ⟨u, _, rfl⟩ := List.mem_map.1 hn
      exact toI_rng u
    · simp at hn
      omega
  have h2 := sum_one (l := (wordsOf x).map toI ++ [(x.length : Int)]) (l' := (wordsOf y).map toI ++ [(y.length : Int)]) (by simp [hwl]) g (fun i hi => ?_) (fun n hn => rng hs hn) (fun n hn => rng (by omega) hn) e
  · have h3 := List.append_inj_left h2 (by simp [hwl])
    refine words_inj hl ?_
    have h4 := congrArg (List.map UInt64.ofInt) h3
    simp only [List.map_map] at h4
    have e2 : (UInt64.ofInt ∘ toI) = id := funext fun u => ofInt_toI u
    rw [e2, List.map_id, List.map_id] at h4
    exact h4
  · by_cases hi2 : i < (wordsOf x).length
    · rw [List.getElem?_append_left (by simpa using hi2), List.getElem?_append_left (by simpa using hwl ▸ hi2), List.getElem?_map, List.getElem?_map, words_get, words_get, hl]
      rw [word_ext (x := x) (y := y) (j := i) (fun k hk => h k (by omega))]
    · rw [List.getElem?_append_right (by simpa using hi2), List.getElem?_append_right (by simp; omega), hl]
      simp [hwl]
theorem label_one {a b : List UInt8} {l : List Int} (hl : a.length = b.length) (g : Nat) (h : ∀ i, i / 8 ≠ g → a[i]? = b[i]?) (e : sumW a l = sumW b l) : a = b := by
  rw [sumW_eq, sumW_eq] at e
  have e2 := fold_inj (f := mixI) (fun s s' x h => mixI_l h) l (mix_l e)
  unfold start at e2
  rw [hl] at e2
  have e3 := mix_l (mix_l e2)
  have hwl : (wordsOf a).length = (wordsOf b).length := by simp [wordsOf, hl]
  refine words_inj hl (fold_one (f := mix) (fun s s' x h => mix_l h) (wordsOf a) (wordsOf b) g 0 hwl (fun s x x' _ _ he => mix_r he) (fun i hi => ?_) e3)
  rw [words_get, words_get, hl, word_ext (x := a) (y := b) (j := i) (fun k hk => h k (by omega))]
end Go.Proofs.Ytbjaecofccpahaa
namespace Go.Proofs.Ytbjaecofccpahaa
open Go Go.RowKit
set_option linter.unusedVariables false
set_option linter.unusedSimpArgs false
theorem bit_flip {y : UInt8} {k : Nat} (hk : k < 8) : ∃ z : UInt8, bits .xor .u8 (y.toNat : Int) (IntKind.u8.wrap (1 * 2 ^ k)) = (z.toNat : Int) ∧ z ≠ y := by
  have h : ∀ (k : Fin 8) (y : Fin 256), 0 ≤ bits .xor .u8 (y.val : Int) (IntKind.u8.wrap (1 * 2 ^ k.val)) ∧ bits .xor .u8 (y.val : Int) (IntKind.u8.wrap (1 * 2 ^ k.val)) < 256 ∧ bits .xor .u8 (y.val : Int) (IntKind.u8.wrap (1 * 2 ^ k.val)) ≠ (y.val : Int) := by decide +kernel
  obtain ⟨h1, h2, h3⟩ := h ⟨k, hk⟩ ⟨y.toNat, y.toNat_lt⟩
  dsimp only at h1 h2 h3
  have e : ((UInt8.ofNat (bits .xor .u8 (y.toNat : Int) (IntKind.u8.wrap (1 * 2 ^ k))).toNat).toNat : Int) = bits .xor .u8 (y.toNat : Int) (IntKind.u8.wrap (1 * 2 ^ k)) := by
    rw [UInt8.toNat_ofNat']
    omega
  refine ⟨UInt8.ofNat (bits .xor .u8 (y.toNat : Int) (IntKind.u8.wrap (1 * 2 ^ k))).toNat, e.symm, fun hz => h3 ?_⟩
  rw [← e, hz]
theorem varint_inj {m n : Nat} {t u : List UInt8} (hm : m < 18446744073709551616) (hn : n < 18446744073709551616) (h : varint m ++ t = varint n ++ u) : m = n ∧ t = u := by
  have h1 := rU_varint (t := t) hm
  have h2 := rU_varint (t := u) hn
  rw [h, h2] at h1
  simp only [Prod.mk.injEq, and_true] at h1
  exact ⟨h1.1.symm, h1.2.symm⟩
theorem append_set_left {a b : List UInt8} {p : Nat} {z : UInt8} (h : p < a.length) : (a ++ b).set p z = a.set p z ++ b := List.set_append_left _ _ h
theorem set_ne {a : List UInt8} {p : Nat} {y z : UInt8} (h : a[p]? = some y) (hz : z ≠ y) : a.set p z ≠ a := by
  intro e
  have h2 : (a.set p z)[p]? = some z := by
    rw [List.getElem?_set_self (List.getElem?_eq_some_iff.1 h).1]
  rw [e, h] at h2
  injection h2 with h2
  exact hz h2.symm
theorem detect {x : List UInt8} {p : Nat} {y z : UInt8} (hx : x.length ≤ 1000) (hp : (varint (coreF 0 x).length).length ≤ p) (hy : (frameF 0 x)[p]? = some y) (hz : z ≠ y) : isF 0 ((frameF 0 x).set p z) = false := by
  rw [Bool.eq_false_iff]
  intro hf
  obtain ⟨t, ht⟩ := isF_iff.1 hf
  have hxl := recF_len ((frameF 0 x).set p z)
  obtain ⟨x', hx'⟩ : ∃ x', recF ((frameF 0 x).set p z) = x' := ⟨_, rfl⟩
  rw [hx'] at ht hxl
  rw [List.length_set] at hxl
  have hcl := coreF_len (i := 0) (x := x) (by decide) (by decide) (by omega)
  have hfl := frameF_len (i := 0) (x := x) (by decide) (by decide) (by omega)
  have hcl' := coreF_len (i := 0) (x := x') (by decide) (by decide) (by omega)
  have hs := sumF_lt 0 x
  have hs' := sumF_lt 0 x'
  have hsum : ∀ w, sumF 0 w = (bytesW lblF.data.toList (coreF 0 w)).toNat := fun _ => rfl
  have he : ∀ w, frameF 0 w = varint (coreF 0 w).length ++ (coreF 0 w ++ varint (sumF 0 w)) := fun w => by unfold frameF; rw [List.append_assoc]
  rw [he x] at ht hy
  rw [he x', List.set_append_right _ _ hp, List.append_assoc, List.append_assoc] at ht
  obtain ⟨hlen, ht⟩ := varint_inj (by omega) (by omega) ht
  rw [List.getElem?_append_right hp] at hy
  obtain ⟨q, hq⟩ : ∃ q, p - (varint (coreF 0 x).length).length = q := ⟨_, rfl⟩
  rw [hq] at ht hy
  by_cases hin : q < (coreF 0 x).length
  · rw [List.set_append_left _ _ hin] at ht
    have hl2 : (coreF 0 x').length = ((coreF 0 x).set q z).length := by rw [List.length_set]; exact hlen
    obtain ⟨h1, h2⟩ := List.append_inj ht hl2
    have h3 : varint (sumF 0 x') ++ t = varint (sumF 0 x) ++ [] := by rw [h2, List.append_nil]
    obtain ⟨h4, _⟩ := varint_inj hs' hs h3
    rw [hsum, hsum] at h4
    have h5 := UInt64.toNat_inj.1 h4
    rw [h1] at h5
    rw [List.getElem?_append_left hin] at hy
    have h6 := bytes_one (t := lblF.data.toList) (x := (coreF 0 x).set q z) (y := coreF 0 x) (List.length_set) (q / 8) (fun i hi => by
      rw [List.getElem?_set_ne]
      intro e
      subst e
      exact hi rfl) (by rw [List.length_set]; omega) h5
    exact set_ne hy hz h6
  · rw [List.set_append_right _ _ (by omega)] at ht
    rw [List.getElem?_append_right (by omega)] at hy
    obtain ⟨h1, h2⟩ := List.append_inj ht hlen
    have h3 : sumF 0 x' = sumF 0 x := by rw [hsum, hsum, h1]
    rw [h3] at h2
    have h4 := congrArg List.length h2
    rw [List.length_append, List.length_set] at h4
    have h5 : t = [] := List.length_eq_zero_iff.1 (by omega)
    subst h5
    rw [List.append_nil] at h2
    exact set_ne hy hz h2.symm
end Go.Proofs.Ytbjaecofccpahaa
namespace Go.Proofs.Ytbjaecofccpahaa
open Go Go.RowKit
set_option linter.unusedVariables false
set_option linter.unusedSimpArgs false
/-- a byte with a bit turned -/
def fl8 (y : UInt8) (s : Nat) : UInt8 := UInt8.ofNat (bits .xor .u8 (y.toNat : Int) (IntKind.u8.wrap (1 * 2 ^ s))).toNat
theorem fl8_eq {y : UInt8} {s : Nat} (hs : s < 8) : bits .xor .u8 (y.toNat : Int) (IntKind.u8.wrap (1 * 2 ^ s)) = ((fl8 y s).toNat : Int) ∧ fl8 y s ≠ y := by
  obtain ⟨z, hz, hzy⟩ := bit_flip (y := y) (k := s) hs
  have : fl8 y s = z := by
    unfold fl8
    rw [hz]
    simp
  rw [this]
  exact ⟨hz, hzy⟩
/-- how many loose bytes are kept -/
def keepN (kp : List Int) (i : Nat) (len D : Nat) : Nat := match kp[i]? with
  | some x => (max 0 (min x ((len : Int) - (D : Int)))).toNat
  | none => 0
theorem keepN_le (kp : List Int) (i : Nat) (len D : Nat) (h : D ≤ len) : D + keepN kp i len D ≤ len := by
  unfold keepN
  split
  · omega
  · omega
/-- the loose bytes from D on, m of them, with a bit turned -/
def turnB (z : Int) (D m : Nat) (b : List UInt8) : List UInt8 :=
  if 0 ≤ z ∧ 0 < m then b.set (D + (z % ((8 * m : Nat) : Int)).toNat / 8) (fl8 (b.getD (D + (z % ((8 * m : Nat) : Int)).toNat / 8) 0) (7 - (z % ((8 * m : Nat) : Int)).toNat % 8)) else b
theorem turnB_len (z : Int) (D m : Nat) (b : List UInt8) : (turnB z D m b).length = b.length := by
  unfold turnB
  split
  · exact List.length_set
  · rfl
/-- a crash of the only file -/
def crB (kp : List Int) (z : Int) (D : Nat) (b : List UInt8) : List UInt8 := turnB z D (keepN kp 0 b.length D) (b.take (D + keepN kp 0 b.length D))
def mDB : MEnc DF := ⟨fun x => .agg #[x.v, .int .i64 x.d], fun _ => ⟨fun _ => True, fun _ h => h⟩⟩
theorem mDB_val (x : DF) : mDB.val x = .agg #[x.v, .int .i64 x.d] := rfl
theorem sub_bare {L : List HP} {p : Nat} {d : DK} : Sub (dskG mDF p d :: L) (dskG mDB p d :: L) := fun m h ⟨a, b, dj, ha, hb, ⟨bm, a1, b1, d1, ha1, hb1, h1, a2, b2, d2, ha2, hb2, ⟨es, clock, k1, k2, k3⟩, h3⟩, hL⟩ =>
  ⟨a, b, dj, ha, hb, ⟨bm, a1, b1, d1, ha1, hb1, h1, a2, b2, d2, ha2, hb2, ⟨es, clock, k1, k2.imp fun _ _ ⟨e1, e2, _⟩ => ⟨e1, e2, trivial⟩, k3⟩, h3⟩, hL⟩
theorem All2.up {α β : Type} {R S : α → β → Prop} : ∀ {l : List α} {k : List β}, (∀ a ∈ l, ∀ b, R a b → S a b) → All2 R l k → All2 S l k
  | [], [], _, _ => trivial
  | a :: l, b :: k, f, ⟨h, t⟩ => ⟨f a (.head _) b h, All2.up (fun x hx => f x (.tail _ hx)) t⟩
  | [], _ :: _, _, h => h.elim
  | _ :: _, [], _, h => h.elim
theorem sub_clad {L : List HP} {p : Nat} {d : DK} (hi : ∀ m h, SepL m L h → ∀ q ∈ d.files, Sl m eB q.2.v q.2.b) : Sub (dskG mDB p d :: L) (dskG mDF p d :: L) := fun m h ⟨a, b, dj, ha, hb, ⟨bm, a1, b1, d1, ha1, hb1, h1, a2, b2, d2, ha2, hb2, ⟨es, clock, k1, k2, k3⟩, h3⟩, hL⟩ =>
  ⟨a, b, dj, ha, hb, ⟨bm, a1, b1, d1, ha1, hb1, h1, a2, b2, d2, ha2, hb2, ⟨es, clock, k1, k2.up (fun x hx _ ⟨e1, e2, _⟩ => ⟨e1, e2, hi m b hL x hx⟩), k3⟩, h3⟩, hL⟩
/-- pointers to the bytes of a slice -/
def eEl (A : Option Addr) : Enc Nat := e1 (fun j => elp A j 1 0) fun _ => rfl
instance {A : Option Addr} : Sz (eEl A) 1 := ⟨rfl⟩
instance {A : Option Addr} : E1E (eEl A) (fun j => elp A j 1 0) := ⟨⟨_, rfl⟩⟩
def loos (D m : Nat) : List Nat := (List.range m).map fun i => D + i
theorem loos_len (D m : Nat) : (loos D m).length = m := by simp [loos]
theorem loos_get {D m i : Nat} (h : i < m) : (loos D m)[i]? = some (D + i) := by simp [loos, h]
theorem loos_succ (D m : Nat) : loos D (m + 1) = loos D m ++ [D + m] := by simp [loos, List.range_succ]
end Go.Proofs.Ytbjaecofccpahaa
