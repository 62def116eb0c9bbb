/-
  Walks: maps.Keys over the files, slices.AppendSeq, Collect, Sorted; Files of a disk.
-/
import Derived.Test.YtbjaecofccpahaaMV
import Derived.Test.YtbjaecofccpahaaMM
import Derived.Test.YtbjaecofccpahaaMN
namespace Go.Proofs.Ytbjaecofccpahaa
open Go Go.RowKit
set_option linter.unusedVariables false
set_option linter.unusedSimpArgs false
set_option maxRecDepth 20000
set_option synthInstance.maxSize 100000
set_option synthInstance.maxHeartbeats 400000
/-- the keys that have come -/
def selK {α : Type} : List Bool → List (Int × α) → List Int
  | true :: fl, p :: l => p.1 :: selK fl l
  | false :: fl, _ :: l => selK fl l
  | _, _ => []
theorem selK_none {α : Type} : ∀ (l : List (Int × α)), selK (List.replicate l.length false) l = []
  | [] => rfl
  | p :: l => by rw [List.length_cons, List.replicate_succ]; exact selK_none l
theorem selK_all {α : Type} : ∀ {fl : List Bool} {l : List (Int × α)}, fl.length = l.length → (∀ f ∈ fl, f = true) → selK fl l = l.map Prod.fst
  | [], [], _, _ => rfl
  | f :: fl, p :: l, h, ha => by
    have hf := ha f (.head _)
    subst hf
    have := selK_all (fl := fl) (l := l) (by simpa using h) fun g hg => ha g (.tail _ hg)
    show p.1 :: selK fl l = _
    rw [this]
    rfl
  | [], _ :: _, h, _ => by simp at h
  | _ :: _, [], h, _ => by simp at h
theorem selK_set {α : Type} : ∀ {fl : List Bool} {l : List (Int × α)} {j : Nat} {p : Int × α}, fl[j]? = some false → l[j]? = some p → (selK (fl.set j true) l).Perm (p.1 :: selK fl l)
  | f :: fl, q :: l, 0, p, h, hp => by
    simp only [List.getElem?_cons_zero, Option.some.injEq] at h hp
    subst h hp
    exact List.Perm.refl _
  | f :: fl, q :: l, j + 1, p, h, hp => by
    rw [List.getElem?_cons_succ] at h hp
    have := selK_set h hp
    cases f
    · exact this
    · exact (List.Perm.cons q.1 this).trans (List.Perm.swap _ _ _)
  | [], _, _, _, h, _ => by simp at h
  | _ :: _, [], _, _, _, h => by simp at h
theorem selK_len {α : Type} {fl : List Bool} : ∀ {l : List (Int × α)} {j : Nat}, fl.length = l.length → fl[j]? = some false → (selK fl l).length < l.length := by
  induction fl with
  | nil => intro l j _ h; simp at h
  | cons f fl ih =>
    intro l j hl h
    have hle : ∀ (fl : List Bool) (l : List (Int × α)), (selK fl l).length ≤ l.length := by
      intro fl
      induction fl with
      | nil => intro l; simp [selK]
      | cons f fl ih =>
        intro l
        cases l with
        | nil => cases f <;> simp [selK]
        | cons q l =>
          have := ih l
          cases f
          · show (selK fl l).length ≤ l.length + 1; omega
          · show (selK fl l).length + 1 ≤ l.length + 1; omega
    cases l with
    | nil => simp at hl
    | cons q l =>
      have hl' : fl.length = l.length := by simpa using hl
      cases f
      · have := hle fl l
        show (selK fl l).length < l.length + 1
        omega
      · cases j with
        | zero => simp at h
        | succ j =>
          have := ih (l := l) (j := j) hl' (by simpa using h)
          show (selK fl l).length + 1 < l.length + 1
          omega
section
variable {W0 : World} {L : List HP}
theorem keys_gives {R : MEnc DF} {bx b : Nat} {l : List (Int × DF)} {T : TypeId} {E0 : List HP} (hR : ∀ x, R.val x = .agg #[x.v, .int .i64 x.d]) :
    GivesP Try.prog 77 #[.pointer (some ⟨bx, 0, none⟩)] (fun (y : Int) (k : Unit) => #[.int .i64 y]) (fun _ _ => []) (fun pre _ => pre.length < (l.map Prod.fst).length) (fun ys => ys.Perm (l.map Prod.fst)) (cel bx [.map (some b)] T :: mapo R b l :: E0) := by
  intro g W0 J hround
  refine CT_enter Try.func77 rfl ?_; (simp only [Try.ntmps77, List.size_toArray, List.length_cons, List.length_nil, Nat.reduceAdd, Nat.reduceSub, Array.replicate_succ, Array.replicate_zero, List.push_toArray, List.append_toArray, List.nil_append, List.cons_append])
  repeat' (first | refine go ?_ | intro _ | (apply cG; first | refine cT ?_ | refine cF ?_ | refine cS (fun _ => ?_) fun _ => ?_) | (apply gW; refine sW ?_) | (apply gI; refine sI ?_) | (apply gE; refine sE ?_) | (apply gP; refine sP ?_) | (apply gC; refine sC ?_) | (apply gD; refine sD ?_) | fail)
  refine O_d (dy_rangeG (R := R) (b := b) (i := 2) (hm := rfl) Ev.pf) ?_; rintro _ _ ⟨r, rfl, rfl⟩; refine O_n ?_
  try simp only [List.set_cons_succ, List.set_cons_zero]
  repeat' (first | refine go ?_ | intro _ | (apply cG; first | refine cT ?_ | refine cF ?_ | refine cS (fun _ => ?_) fun _ => ?_) | (apply gW; refine sW ?_) | (apply gI; refine sI ?_) | (apply gE; refine sE ?_) | (apply gP; refine sP ?_) | (apply gC; refine sC ?_) | (apply gD; refine sD ?_) | fail)
  refine C_loopS (κ := List Int × List Bool × Option Nat) [false, false, false, true, false, false, true, true, true, true, true, true, true, true] (fun k => []) (fun k => [(0, J k.1), (2, rngo R b r l k.2.1 k.2.2)]) (fun k => k.2.1.length = l.length ∧ k.1.Perm (selK k.2.1 l)) (fun k => k.2.1.count false) ([], List.replicate l.length false, none) ⟨List.length_replicate, by dsimp only; rw [selK_none]⟩ trivial ?_
  rintro ⟨pre, fl, cur⟩ u ⟨hfl, hp⟩
  dsimp only at hfl hp
  ((try dsimp only); refine C_n ?_; (try simp only [Nat.reduceAdd, Nat.zero_add]))
  repeat' (first | refine go ?_ | intro _ | (apply cG; first | refine cT ?_ | refine cF ?_ | refine cS (fun _ => ?_) fun _ => ?_) | (apply gW; refine sW ?_) | (apply gI; refine sI ?_) | (apply gE; refine sE ?_) | (apply gP; refine sP ?_) | (apply gC; refine sC ?_) | (apply gD; refine sD ?_) | fail)
  refine O_d (dy_next (R := R) (b := b) (r := r) (i := 2) (hm := rfl) Ev.pf) ?_; rintro _ _ (⟨hall, rfl, rfl⟩ | ⟨j, p2, hfj, hlj, rfl, rfl⟩)
  · refine O_n ?_
    rw [selK_all hfl hall] at hp
    repeat' (first | refine go ?_ | intro _ | (apply cG; first | refine cT ?_ | refine cF ?_ | refine cS (fun _ => ?_) fun _ => ?_) | (apply gW; refine sW ?_) | (apply gI; refine sI ?_) | (apply gE; refine sE ?_) | (apply gP; refine sP ?_) | (apply gC; refine sC ?_) | (apply gD; refine sD ?_) | fail)
    refine E_sub (S := rngo R b r l fl cur :: J pre :: cel bx [.map (some b)] T :: E0) Sb ?_
    refine E_sub sub_rng_close ?_
    refine E_sub (S := J pre :: cel bx [.map (some b)] T :: mapo R b l :: E0) Sb ?_
    refine E_end0 (by first | exact .inl rfl | exact .inr rfl) (by rfl) (by rfl) ⟨pre, hp, rfl⟩
  · refine O_n ?_
    try simp only [List.set_cons_succ, List.set_cons_zero]
    repeat' (first | refine go ?_ | intro _ | (apply cG; first | refine cT ?_ | refine cF ?_ | refine cS (fun _ => ?_) fun _ => ?_) | (apply gW; refine sW ?_) | (apply gI; refine sI ?_) | (apply gE; refine sE ?_) | (apply gP; refine sP ?_) | (apply gC; refine sC ?_) | (apply gD; refine sD ?_) | fail)
    refine O_s (sv_entry (R := R) (b := b) (r := r) (j := j) (by repeat (first | exact .head _ | refine .tail _ ?_)) Ev.pf hlj) ?_
    repeat' (first | ((fail_if_success apply AtE); refine go ?_) | intro _ | (apply cG; first | refine cT ?_ | refine cF ?_ | refine cS (fun _ => ?_) fun _ => ?_) | (apply gW; refine sW ?_) | (apply gI; refine sI ?_) | (apply gE; refine sE ?_) | (apply gP; refine sP ?_) | (apply gC; refine sC ?_) | (apply gD; refine sD ?_) | fail)
    refine go ?_
    refine go ?_
    refine C_yield1 (l := g) (v1 := .int .i64 p2.1) (L' := J (pre ++ [p2.1]) :: cel bx [.map (some b)] T :: rngo R b r l (fl.set j true) (some j) :: E0)
      Ev.pf Put.pf Ev.pf Put.pf Put.pf Put.pf Ev.pf Ev.pf Ev.pf ?_ ?_
    · intro w hw
      exact hround pre p2.1 () w _ (by have := hp.length_eq; have := selK_len hfl hfj; dsimp only; rw [List.length_map]; omega) hw
    repeat' (first | refine go ?_ | intro _ | (apply cG; first | refine cT ?_ | refine cF ?_ | refine cS (fun _ => ?_) fun _ => ?_) | (apply gW; refine sW ?_) | (apply gI; refine sI ?_) | (apply gE; refine sE ?_) | (apply gP; refine sP ?_) | (apply gC; refine sC ?_) | (apply gD; refine sD ?_) | fail)
    exact E_round (pre ++ [p2.1], fl.set j true, some j) ⟨by dsimp only; rw [List.length_set]; exact hfl, (List.perm_append_comm.trans (List.Perm.cons _ hp)).trans (selK_set hfj hlj).symm⟩ (left_lt hfj) trivial Sb
theorem Keys_ct {b : Nat} : CT Try.prog 63 #[.map (some b)] W0 L fun r L' => ∃ bx T, r = .func (.func 77) #[] #[.pointer (some ⟨bx, 0, none⟩)] ∧ L' = cel bx [.map (some b)] T :: L := by
  refine CT_enter Try.func63 rfl ?_; (simp only [Try.ntmps63, List.size_toArray, List.length_cons, List.length_nil, Nat.reduceAdd, Nat.reduceSub, Array.replicate_succ, Array.replicate_zero, List.push_toArray, List.append_toArray, List.nil_append, List.cons_append])
  repeat' (first | refine go ?_ | intro _ | (apply cG; first | refine cT ?_ | refine cF ?_ | refine cS (fun _ => ?_) fun _ => ?_) | (apply gW; refine sW ?_) | (apply gI; refine sI ?_) | (apply gE; refine sE ?_) | (apply gP; refine sP ?_) | (apply gC; refine sC ?_) | (apply gD; refine sD ?_) | fail)
  refine E_res1 (by rfl) (by rfl) ⟨_, _, rfl, rfl⟩ Sb
/-- a slice of integers in a variable of its own -/
def bxI (p : Nat) (l : List Int) : HP := ex fun v => sp [cel p [v] 22, own 3 eI v l]
theorem bxI_sub {p : Nat} {v : Value} {l : List Int} : Sub (cel p [v] 22 :: own 3 eI v l :: L) (bxI p l :: L) :=
  (sub_close (Ls := [cel p [v] 22, own 3 eI v l])).trans (sub_ex (F := fun v => sp [cel p [v] 22, own 3 eI v l]) v)
theorem bxI_open {ops : Array Oper} {Q : Exit → Act → World → Prop} {rest : List Oper} {a : Act} {p : Nat} {l : List Int} (k : ∀ A c, OL Try.prog W0 (cel p [.slice A l.length c] 22 :: own 3 eI (.slice A l.length c) l :: L) ops Q rest a) : OL Try.prog W0 (bxI p l :: L) ops Q rest a := by
  refine ⟨fun w st => ?_⟩
  obtain ⟨v, h⟩ := st.ex_
  have h := h.open_
  obtain ⟨A, c, rfl, _⟩ := (h.rdo (.tail _ (.head _))).form
  exact (k A c).run w h
theorem bxI_openE {Q : Exit → Act → World → Prop} {e : Exit} {a : Act} {p : Nat} {l : List Int} (k : ∀ A c, EL W0 (cel p [.slice A l.length c] 22 :: own 3 eI (.slice A l.length c) l :: L) Q e a) : EL W0 (bxI p l :: L) Q e a := by
  refine ⟨fun w st => ?_⟩
  obtain ⟨v, h⟩ := st.ex_
  have h := h.open_
  obtain ⟨A, c, rfl, _⟩ := (h.rdo (.tail _ (.head _))).form
  exact (k A c).run w h
theorem AppendSeq_ct {gf : FuncId} {lb : Array Value} {N : Nat} {fin : List Int → Prop} {E : List HP} (hN : N ≤ 1000000) (eg : Enters Try.prog gf) (hit : GivesP Try.prog gf lb (fun (y : Int) (k : Unit) => #[.int .i64 y]) (fun _ _ => []) (fun pre _ => pre.length < N) fin E) :
    CT Try.prog 86 #[.slice none 0 0, .func (.func gf) #[] lb] W0 E fun r L' => ∃ ys A c, fin ys ∧ r = .slice A (List.length ys) c ∧ L' = own 3 eI (.slice A (List.length ys) c) ys :: E := by
  refine CT_enterM Try.func86 rfl ?_; (simp only [Try.ntmps86, List.size_toArray, List.length_cons, List.length_nil, Nat.reduceAdd, Nat.reduceSub, Array.replicate_succ, Array.replicate_zero, List.push_toArray, List.append_toArray, List.nil_append, List.cons_append])
  repeat' (first | refine go ?_ | intro _ | (apply cG; first | refine cT ?_ | refine cF ?_ | refine cS (fun _ => ?_) fun _ => ?_) | (apply gW; refine sW ?_) | (apply gI; refine sI ?_) | (apply gE; refine sE ?_) | (apply gP; refine sP ?_) | (apply gC; refine sC ?_) | (apply gD; refine sD ?_) | fail)
  rename_i c1
  refine C_ownnil 3 eI ?_
  refine C_sub (S := cel c1 [.slice none 0 0] 22 :: own 3 eI (.slice none 0 0) [] :: E) Sb ?_
  refine C_rangeP Ev.pf eg hit (fun _ _ => rfl) (fun pre => [bxI c1 pre]) bxI_sub ?_ ?_
  · intro l D rec pre y k hx
    simp only [zip1, List.setIfInBounds_toArray, List.set_cons_zero, List.set_cons_succ]
    refine ⟨_, fun W K hK => wpIn_assignG Ev.pf Put.pf (fun _ _ h => h) hK, ?_⟩
    intro W E1
    simp only [List.cons_append, List.nil_append]
    refine CI.run ?_ W
    refine CI_block (CI_region (fun _ _ h => by cases h.1) rfl ?_)
    refine O_sub (S := bxI c1 pre :: blk l rec :: blk D (.deferred (some [])) :: E1) Sb ?_
    refine bxI_open fun A5 c5 => ?_
    have hpl : pre.length < 1000000 := by first | omega | (dsimp only at hx; omega)
    repeat' (first | refine go ?_ | intro _ | (apply cG; first | refine cT ?_ | refine cF ?_ | refine cS (fun _ => ?_) fun _ => ?_) | (apply gW; refine sW ?_) | (apply gI; refine sI ?_) | (apply gE; refine sE ?_) | (apply gP; refine sP ?_) | (apply gC; refine sC ?_) | (apply gD; refine sD ?_) | fail)
    refine O_d (dy_lit1 (R := eI) y (hcs := by rfl) (hel := fun _ _ _ => by rfl)) ?_; rintro _ _ ⟨_, rfl, rfl⟩; refine O_n ?_
    refine O_d dy_append ?_; rintro _ _ ⟨A7, c7, rfl, rfl⟩; refine O_n ?_
    repeat' (first | refine go ?_ | intro _ | (apply cG; first | refine cT ?_ | refine cF ?_ | refine cS (fun _ => ?_) fun _ => ?_) | (apply gW; refine sW ?_) | (apply gI; refine sI ?_) | (apply gE; refine sE ?_) | (apply gP; refine sP ?_) | (apply gC; refine sC ?_) | (apply gD; refine sD ?_) | fail)
    refine E_sub (S := cel c1 [.slice A7 (pre.length + 1) c7] 22 :: own 3 eI (.slice A7 (pre.length + 1) c7) (pre ++ [y]) :: blk l rec :: blk D (.deferred (some [])) :: E1) Sb ?_
    refine E_sub bxI_sub ?_
    refine E_sub (S := blk l rec :: blk D (.deferred (some [])) :: bxI c1 (pre ++ [y]) :: E1) Sb ?_
    exact ⟨fun w s => ⟨rfl, s⟩⟩
  · intro D ys hf
    simp only [List.cons_append, List.nil_append]
    refine E_sub (S := bxI c1 ys :: blk D (.deferred (some [])) :: E) Sb ?_
    refine bxI_openE fun A8 c8 => ?_
    repeat' (first | refine go ?_ | intro _ | (apply cG; first | refine cT ?_ | refine cF ?_ | refine cS (fun _ => ?_) fun _ => ?_) | (apply gW; refine sW ?_) | (apply gI; refine sI ?_) | (apply gE; refine sE ?_) | (apply gP; refine sP ?_) | (apply gC; refine sC ?_) | (apply gD; refine sD ?_) | fail)
    refine E_res1d rfl (by rfl) Ev.pf ⟨ys, A8, c8, hf, rfl, rfl⟩ Sb
theorem Collect_ct {gf : FuncId} {lb : Array Value} {N : Nat} {fin : List Int → Prop} {E : List HP} (hN : N ≤ 1000000) (eg : Enters Try.prog gf) (hit : GivesP Try.prog gf lb (fun (y : Int) (k : Unit) => #[.int .i64 y]) (fun _ _ => []) (fun pre _ => pre.length < N) fin E) :
    CT Try.prog 75 #[.func (.func gf) #[] lb] W0 E fun r L' => ∃ ys A c, fin ys ∧ r = .slice A (List.length ys) c ∧ L' = own 3 eI (.slice A (List.length ys) c) ys :: E := by
  refine CT_enter Try.func75 rfl ?_; (simp only [Try.ntmps75, List.size_toArray, List.length_cons, List.length_nil, Nat.reduceAdd, Nat.reduceSub, Array.replicate_succ, Array.replicate_zero, List.push_toArray, List.append_toArray, List.nil_append, List.cons_append])
  repeat' (first | refine go ?_ | intro _ | (apply cG; first | refine cT ?_ | refine cF ?_ | refine cS (fun _ => ?_) fun _ => ?_) | (apply gW; refine sW ?_) | (apply gI; refine sI ?_) | (apply gE; refine sE ?_) | (apply gP; refine sP ?_) | (apply gC; refine sC ?_) | (apply gD; refine sD ?_) | fail)
  refine O_d (dy_call ArgsI.pf (by first | exact rfl | trivial | (intro a b; rfl)) (AppendSeq_ct hN eg hit)) ?_; rintro _ _ ⟨_, ⟨ys, A, c, hf, rfl, rfl⟩, rfl⟩; refine O_n ?_
  repeat' (first | refine go ?_ | intro _ | (apply cG; first | refine cT ?_ | refine cF ?_ | refine cS (fun _ => ?_) fun _ => ?_) | (apply gW; refine sW ?_) | (apply gI; refine sI ?_) | (apply gE; refine sE ?_) | (apply gP; refine sP ?_) | (apply gC; refine sC ?_) | (apply gD; refine sD ?_) | fail)
  refine E_res1 (by rfl) (by rfl) ⟨ys, A, c, hf, rfl, rfl⟩ Sb
theorem Sorted_ct {gf : FuncId} {lb : Array Value} {l : List Int} {E : List HP} (hN : l.length ≤ 1000000) (eg : Enters Try.prog gf) (hit : GivesP Try.prog gf lb (fun (y : Int) (k : Unit) => #[.int .i64 y]) (fun _ _ => []) (fun pre _ => pre.length < l.length) (fun ys => ys.Perm l) E) :
    CT Try.prog 62 #[.func (.func gf) #[] lb] W0 E fun r L' => ∃ ys A c, ys.Perm l ∧ ys.Pairwise (· ≤ ·) ∧ r = .slice A (List.length ys) c ∧ L' = own 3 eI (.slice A (List.length ys) c) ys :: E := by
  refine CT_enter Try.func62 rfl ?_; (simp only [Try.ntmps62, List.size_toArray, List.length_cons, List.length_nil, Nat.reduceAdd, Nat.reduceSub, Array.replicate_succ, Array.replicate_zero, List.push_toArray, List.append_toArray, List.nil_append, List.cons_append])
  repeat' (first | refine go ?_ | intro _ | (apply cG; first | refine cT ?_ | refine cF ?_ | refine cS (fun _ => ?_) fun _ => ?_) | (apply gW; refine sW ?_) | (apply gI; refine sI ?_) | (apply gE; refine sE ?_) | (apply gP; refine sP ?_) | (apply gC; refine sC ?_) | (apply gD; refine sD ?_) | fail)
  refine O_d (dy_call ArgsI.pf (by first | exact rfl | trivial | (intro a b; rfl)) (Collect_ct (by omega) eg hit)) ?_; rintro _ _ ⟨_, ⟨ys, A, c, hf, rfl, rfl⟩, rfl⟩; refine O_n ?_
  have hl := hf.length_eq
  repeat' (first | refine go ?_ | intro _ | (apply cG; first | refine cT ?_ | refine cF ?_ | refine cS (fun _ => ?_) fun _ => ?_) | (apply gW; refine sW ?_) | (apply gI; refine sI ?_) | (apply gE; refine sE ?_) | (apply gP; refine sP ?_) | (apply gC; refine sC ?_) | (apply gD; refine sD ?_) | fail)
  refine O_d (dy_call ArgsI.pf (by first | exact rfl | trivial | (intro a b; rfl)) (Sort_ct (l := ys) (by omega))) ?_; rintro _ _ ⟨_, ⟨zs, hz, hzs, rfl, rfl⟩, rfl⟩; refine O_n ?_
  have hl2 := hz.length_eq
  rw [← hl2]
  repeat' (first | refine go ?_ | intro _ | (apply cG; first | refine cT ?_ | refine cF ?_ | refine cS (fun _ => ?_) fun _ => ?_) | (apply gW; refine sW ?_) | (apply gI; refine sI ?_) | (apply gE; refine sE ?_) | (apply gP; refine sP ?_) | (apply gC; refine sC ?_) | (apply gD; refine sD ?_) | fail)
  refine E_res1 (by rfl) (by rfl) ⟨zs, A, c, hz.trans hf, hzs, rfl, rfl⟩ Sb
theorem Files_ct {p : Nat} {d : DK} (hn : d.files.length ≤ 1000000) : CT Try.prog 43 #[.pointer (some ⟨p, 0, none⟩)] W0 (dsk p d :: L) fun r L' => ∃ ys A c, ys.Perm (d.files.map Prod.fst) ∧ ys.Pairwise (· ≤ ·) ∧ r = .slice A (List.length ys) c ∧ L' = own 3 eI (.slice A (List.length ys) c) ys :: dsk p d :: L := by
  refine dsk_ct fun b => ?_
  refine CT_enter Try.func43 rfl ?_; (simp only [Try.ntmps43, List.size_toArray, List.length_cons, List.length_nil, Nat.reduceAdd, Nat.reduceSub, Array.replicate_succ, Array.replicate_zero, List.push_toArray, List.append_toArray, List.nil_append, List.cons_append])
  repeat' (first | refine go ?_ | intro _ | (apply cG; first | refine cT ?_ | refine cF ?_ | refine cS (fun _ => ?_) fun _ => ?_) | (apply gW; refine sW ?_) | (apply gI; refine sI ?_) | (apply gE; refine sE ?_) | (apply gP; refine sP ?_) | (apply gC; refine sC ?_) | (apply gD; refine sD ?_) | fail)
  refine O_d (dy_call ArgsI.pf (by first | exact rfl | trivial | (intro a b; rfl)) (Keys_ct)) ?_; rintro _ _ ⟨_, ⟨bx, T, rfl, rfl⟩, rfl⟩; refine O_n ?_
  repeat' (first | refine go ?_ | intro _ | (apply cG; first | refine cT ?_ | refine cF ?_ | refine cS (fun _ => ?_) fun _ => ?_) | (apply gW; refine sW ?_) | (apply gI; refine sI ?_) | (apply gE; refine sE ?_) | (apply gP; refine sP ?_) | (apply gC; refine sC ?_) | (apply gD; refine sD ?_) | fail)
  have eg : Enters Try.prog 77 := by first | exact rfl | trivial | (intro a b; rfl)
  refine O_sub (S := cel bx [.map (some b)] T :: mapo mDF b d.files :: cel p [.map (some b), .int .i64 d.room, .bool d.off, .bool d.armed, .int .i64 d.left] 73 :: L) Sb ?_
  refine O_d (dy_call ArgsI.pf (by first | exact rfl | trivial | (intro a b; rfl)) (Sorted_ct (l := d.files.map Prod.fst) (by rw [List.length_map]; exact hn) eg (keys_gives mDF_val))) ?_; rintro _ _ ⟨_, ⟨ys, A, c, hy, hys, rfl, rfl⟩, rfl⟩; refine O_n ?_
  repeat' (first | refine go ?_ | intro _ | (apply cG; first | refine cT ?_ | refine cF ?_ | refine cS (fun _ => ?_) fun _ => ?_) | (apply gW; refine sW ?_) | (apply gI; refine sI ?_) | (apply gE; refine sE ?_) | (apply gP; refine sP ?_) | (apply gC; refine sC ?_) | (apply gD; refine sD ?_) | fail)
  refine E_res1 (by rfl) (by rfl) ⟨ys, A, c, hy, hys, rfl, rfl⟩ (Sub.trans (B := own 3 eI (.slice A ys.length c) ys :: cel p [.map (some b), .int .i64 d.room, .bool d.off, .bool d.armed, .int .i64 d.left] 73 :: mapo mDF b d.files :: L) Sb (sub_skip dsk_sub))
end
end Go.Proofs.Ytbjaecofccpahaa
namespace Go.Proofs.Ytbjaecofccpahaa
open Go Go.RowKit
set_option linter.unusedVariables false
set_option linter.unusedSimpArgs false
/-- a byte with a bit turned -/
def fl8 (y : UInt8) (s : Nat) : UInt8 := UInt8.ofNat (bits .xor .u8 (y.toNat : Int) (IntKind.u8.wrap (1 * 2 ^ s))).toNat
theorem fl8_eq {y : UInt8} {s : Nat} (hs : s < 8) : bits .xor .u8 (y.toNat : Int) (IntKind.u8.wrap (1 * 2 ^ s)) = ((fl8 y s).toNat : Int) ∧ fl8 y s ≠ y := by
  obtain ⟨z, hz, hzy⟩ := bit_flip (y := y) (k := s) hs
  have : fl8 y s = z := by
    unfold fl8
    rw [hz]
    simp
  rw [this]
  exact ⟨hz, hzy⟩
/-- how many loose bytes are kept -/
def keepN (kp : List Int) (i : Nat) (len D : Nat) : Nat := match kp[i]? with
  | some x => (max 0 (min x ((len : Int) - (D : Int)))).toNat
  | none => 0
theorem keepN_le (kp : List Int) (i : Nat) (len D : Nat) (h : D ≤ len) : D + keepN kp i len D ≤ len := by
  unfold keepN
  split
  · omega
  · omega
/-- the loose bytes from D on, m of them, with a bit turned -/
def turnB (z : Int) (D m : Nat) (b : List UInt8) : List UInt8 :=
  if 0 ≤ z ∧ 0 < m then b.set (D + (z % ((8 * m : Nat) : Int)).toNat / 8) (fl8 (b.getD (D + (z % ((8 * m : Nat) : Int)).toNat / 8) 0) (7 - (z % ((8 * m : Nat) : Int)).toNat % 8)) else b
theorem turnB_len (z : Int) (D m : Nat) (b : List UInt8) : (turnB z D m b).length = b.length := by
  unfold turnB
  split
  · exact List.length_set
  · rfl
/-- a crash of the only file -/
def crB (kp : List Int) (z : Int) (D : Nat) (b : List UInt8) : List UInt8 := turnB z D (keepN kp 0 b.length D) (b.take (D + keepN kp 0 b.length D))
def mDB : MEnc DF := ⟨fun x => .agg #[x.v, .int .i64 x.d], fun _ => ⟨fun _ => True, fun _ h => h⟩⟩
theorem mDB_val (x : DF) : mDB.val x = .agg #[x.v, .int .i64 x.d] := rfl
theorem sub_bare {L : List HP} {p : Nat} {d : DK} : Sub (dskG mDF p d :: L) (dskG mDB p d :: L) := fun m h ⟨a, b, dj, ha, hb, ⟨bm, a1, b1, d1, ha1, hb1, h1, a2, b2, d2, ha2, hb2, ⟨es, clock, k1, k2, k3⟩, h3⟩, hL⟩ =>
  ⟨a, b, dj, ha, hb, ⟨bm, a1, b1, d1, ha1, hb1, h1, a2, b2, d2, ha2, hb2, ⟨es, clock, k1, k2.imp fun _ _ ⟨e1, e2, _⟩ => ⟨e1, e2, trivial⟩, k3⟩, h3⟩, hL⟩
theorem All2.up {α β : Type} {R S : α → β → Prop} : ∀ {l : List α} {k : List β}, (∀ a ∈ l, ∀ b, R a b → S a b) → All2 R l k → All2 S l k
  | [], [], _, _ => trivial
  | a :: l, b :: k, f, ⟨h, t⟩ => ⟨f a (.head _) b h, All2.up (fun x hx => f x (.tail _ hx)) t⟩
  | [], _ :: _, _, h => h.elim
  | _ :: _, [], _, h => h.elim
theorem sub_clad {L : List HP} {p : Nat} {d : DK} (hi : ∀ m h, SepL m L h → ∀ q ∈ d.files, Sl m eB q.2.v q.2.b) : Sub (dskG mDB p d :: L) (dskG mDF p d :: L) := fun m h ⟨a, b, dj, ha, hb, ⟨bm, a1, b1, d1, ha1, hb1, h1, a2, b2, d2, ha2, hb2, ⟨es, clock, k1, k2, k3⟩, h3⟩, hL⟩ =>
  ⟨a, b, dj, ha, hb, ⟨bm, a1, b1, d1, ha1, hb1, h1, a2, b2, d2, ha2, hb2, ⟨es, clock, k1, k2.up (fun x hx _ ⟨e1, e2, _⟩ => ⟨e1, e2, hi m b hL x hx⟩), k3⟩, h3⟩, hL⟩
/-- pointers to the bytes of a slice -/
def eEl (A : Option Addr) : Enc Nat := e1 (fun j => elp A j 1 0) fun _ => rfl
instance {A : Option Addr} : Sz (eEl A) 1 := ⟨rfl⟩
instance {A : Option Addr} : E1E (eEl A) (fun j => elp A j 1 0) := ⟨⟨_, rfl⟩⟩
def loos (D m : Nat) : List Nat := (List.range m).map fun i => D + i
theorem loos_len (D m : Nat) : (loos D m).length = m := by simp [loos]
theorem loos_get {D m i : Nat} (h : i < m) : (loos D m)[i]? = some (D + i) := by simp [loos, h]
theorem loos_succ (D m : Nat) : loos D (m + 1) = loos D m ++ [D + m] := by simp [loos, List.range_succ]
end Go.Proofs.Ytbjaecofccpahaa
