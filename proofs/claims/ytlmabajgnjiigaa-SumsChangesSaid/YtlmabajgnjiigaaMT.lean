/-
  Walks: slices.Values, AppendSeq, Collect, Sorted, Compact of integers; package sums' faces.
-/
import Derived.Test.YtlmabajgnjiigaaMR
import Derived.Test.YtlmabajgnjiigaaMS
import Derived.Test.YtlmabajgnjiigaaMN
namespace Go.Proofs.Ytlmabajgnjiigaa
open Go Go.RowKit
set_option linter.unusedVariables false
set_option linter.unusedSimpArgs false
set_option maxRecDepth 20000
set_option synthInstance.maxSize 100000
set_option synthInstance.maxHeartbeats 400000
section
variable {W0 : World} {L : List HP}
theorem values_gives {A : Option Addr} {bx c : Nat} {l : List Int} {T : TypeId} {E0 : List HP} (hv : rd eI (.slice A l.length c) l ∈ E0) (hl : l.length ≤ 1000000) :
    GivesP Try.prog 52 #[.pointer (some ⟨bx, 0, none⟩)] (fun (y : Int) (k : Unit) => #[.int .i64 y]) (fun _ _ => []) (fun pre _ => pre.length < l.length) (fun ys => ys.Perm l) (cel bx [.slice A l.length c] T :: E0) := by
  intro g W0 J hround
  have hs : ScA A (J [] :: cel bx [.slice A l.length c] T :: E0) l.length c eI l := ⟨.inl (.tail _ (.tail _ hv))⟩
  refine CT_enter Try.func52 rfl ?_; (simp only [Try.ntmps52, List.size_toArray, List.length_cons, List.length_nil, Nat.reduceAdd, Nat.reduceSub, Array.replicate_succ, Array.replicate_zero, List.push_toArray, List.append_toArray, List.nil_append, List.cons_append])
  repeat' (first | refine go ?_ | intro _ | (apply cG; first | refine cT ?_ | refine cF ?_ | refine cS (fun _ => ?_) fun _ => ?_) | (apply gW; refine sW ?_) | (apply gI; refine sI ?_) | (apply gE; refine sE ?_) | (apply gP; refine sP ?_) | (apply gC; refine sC ?_) | (apply gD; refine sD ?_) | fail)
  refine C_loopS (κ := Nat) [false, false, false, false, true, false, false, true, true, true, true, true, true, true, true, true] (fun k => [(7, .int .i64 (k : Int))]) (fun k => [(0, J (l.take k))]) (fun k => k ≤ l.length) (fun k => l.length - k) 0 (Nat.zero_le _) ⟨rfl, trivial⟩ ?_
  rintro i u hi
  have hs2 : ScA A (J (l.take i) :: cel bx [.slice A l.length c] T :: E0) l.length c eI l := ⟨.inl (.tail _ (.tail _ hv))⟩
  ((try dsimp only); refine C_n ?_; (try simp only [Nat.reduceAdd, Nat.zero_add]))
  by_cases hil : i < l.length
  rotate_left
  · obtain rfl : i = l.length := by omega
    rw [List.take_length]
    repeat' (first | refine go ?_ | intro _ | (apply cG; first | refine cT ?_ | refine cF ?_ | refine cS (fun _ => ?_) fun _ => ?_) | (apply gW; refine sW ?_) | (apply gI; refine sI ?_) | (apply gE; refine sE ?_) | (apply gP; refine sP ?_) | (apply gC; refine sC ?_) | (apply gD; refine sD ?_) | fail)
    refine E_end0 (by first | exact .inl rfl | exact .inr rfl) (by rfl) (by rfl) ⟨l, List.Perm.refl _, rfl⟩
  obtain ⟨x, hx⟩ : ∃ x, l[i]? = some x := ⟨_, List.getElem?_eq_getElem (by omega)⟩
  have hax : At l i x := ⟨hx⟩
  have htk : l.take (i + 1) = l.take i ++ [x] := by rw [List.take_add_one, hx]; rfl
  repeat' (first | ((fail_if_success apply AtE); refine go ?_) | intro _ | (apply cG; first | refine cT ?_ | refine cF ?_ | refine cS (fun _ => ?_) fun _ => ?_) | (apply gW; refine sW ?_) | (apply gI; refine sI ?_) | (apply gE; refine sE ?_) | (apply gP; refine sP ?_) | (apply gC; refine sC ?_) | (apply gD; refine sD ?_) | fail)
  refine go ?_
  refine go ?_
  repeat' (first | ((fail_if_success apply AtE); refine go ?_) | intro _ | (apply cG; first | refine cT ?_ | refine cF ?_ | refine cS (fun _ => ?_) fun _ => ?_) | (apply gW; refine sW ?_) | (apply gI; refine sI ?_) | (apply gE; refine sE ?_) | (apply gP; refine sP ?_) | (apply gC; refine sC ?_) | (apply gD; refine sD ?_) | fail)
  refine go ?_
  repeat' (first | ((fail_if_success apply AtE); refine go ?_) | intro _ | (apply cG; first | refine cT ?_ | refine cF ?_ | refine cS (fun _ => ?_) fun _ => ?_) | (apply gW; refine sW ?_) | (apply gI; refine sI ?_) | (apply gE; refine sE ?_) | (apply gP; refine sP ?_) | (apply gC; refine sC ?_) | (apply gD; refine sD ?_) | fail)
  refine go ?_
  refine go ?_
  refine C_yield1 (l := g) (v1 := .int .i64 x) (L' := J (l.take i ++ [x]) :: cel bx [.slice A l.length c] T :: E0)
    Ev.pf Put.pf Ev.pf Put.pf Put.pf Put.pf Ev.pf Ev.pf Ev.pf ?_ ?_
  · intro w hw
    exact hround (l.take i) x () w _ (by show (l.take i).length < l.length; rw [List.length_take]; omega) hw
  rw [← htk]
  repeat' (first | refine go ?_ | intro _ | (apply cG; first | refine cT ?_ | refine cF ?_ | refine cS (fun _ => ?_) fun _ => ?_) | (apply gW; refine sW ?_) | (apply gI; refine sI ?_) | (apply gE; refine sE ?_) | (apply gP; refine sP ?_) | (apply gC; refine sC ?_) | (apply gD; refine sD ?_) | fail)
  exact E_round (i + 1) hil (by omega) ⟨rfl, trivial⟩ Sb
theorem Values_ct {A : Option Addr} {n c : Nat} : CT Try.prog 49 #[.slice A n c] W0 L fun r L' => ∃ bx T, r = .func (.func 52) #[] #[.pointer (some ⟨bx, 0, none⟩)] ∧ L' = cel bx [.slice A n c] T :: L := by
  refine CT_enter Try.func49 rfl ?_; (simp only [Try.ntmps49, List.size_toArray, List.length_cons, List.length_nil, Nat.reduceAdd, Nat.reduceSub, Array.replicate_succ, Array.replicate_zero, List.push_toArray, List.append_toArray, List.nil_append, List.cons_append])
  repeat' (first | refine go ?_ | intro _ | (apply cG; first | refine cT ?_ | refine cF ?_ | refine cS (fun _ => ?_) fun _ => ?_) | (apply gW; refine sW ?_) | (apply gI; refine sI ?_) | (apply gE; refine sE ?_) | (apply gP; refine sP ?_) | (apply gC; refine sC ?_) | (apply gD; refine sD ?_) | fail)
  refine E_res1 (by rfl) (by rfl) ⟨_, _, rfl, rfl⟩ Sb
/-- a slice of integers in a variable of its own -/
def bxI (p : Nat) (l : List Int) : HP := ex fun v => sp [cel p [v] 22, own 3 eI v l]
theorem bxI_sub {p : Nat} {v : Value} {l : List Int} : Sub (cel p [v] 22 :: own 3 eI v l :: L) (bxI p l :: L) :=
  (sub_close (Ls := [cel p [v] 22, own 3 eI v l])).trans (sub_ex (F := fun v => sp [cel p [v] 22, own 3 eI v l]) v)
theorem bxI_open {ops : Array Oper} {Q : Exit → Act → World → Prop} {rest : List Oper} {a : Act} {p : Nat} {l : List Int} (k : ∀ A c, OL Try.prog W0 (cel p [.slice A l.length c] 22 :: own 3 eI (.slice A l.length c) l :: L) ops Q rest a) : OL Try.prog W0 (bxI p l :: L) ops Q rest a := by
  refine ⟨fun w st => ?_⟩
  obtain ⟨v, h⟩ := st.ex_
  have h := h.open_
  obtain ⟨A, c, rfl, _⟩ := (h.rdo (.tail _ (.head _))).form
  exact (k A c).run w h
theorem bxI_openE {Q : Exit → Act → World → Prop} {e : Exit} {a : Act} {p : Nat} {l : List Int} (k : ∀ A c, EL W0 (cel p [.slice A l.length c] 22 :: own 3 eI (.slice A l.length c) l :: L) Q e a) : EL W0 (bxI p l :: L) Q e a := by
  refine ⟨fun w st => ?_⟩
  obtain ⟨v, h⟩ := st.ex_
  have h := h.open_
  obtain ⟨A, c, rfl, _⟩ := (h.rdo (.tail _ (.head _))).form
  exact (k A c).run w h
theorem AppendSeq_ct {gf : FuncId} {lb : Array Value} {N : Nat} {fin : List Int → Prop} {E : List HP} (hN : N ≤ 1000000) (eg : Enters Try.prog gf) (hit : GivesP Try.prog gf lb (fun (y : Int) (k : Unit) => #[.int .i64 y]) (fun _ _ => []) (fun pre _ => pre.length < N) fin E) :
    CT Try.prog 53 #[.slice none 0 0, .func (.func gf) #[] lb] W0 E fun r L' => ∃ ys A c, fin ys ∧ r = .slice A (List.length ys) c ∧ L' = own 3 eI (.slice A (List.length ys) c) ys :: E := by
  refine CT_enterM Try.func53 rfl ?_; (simp only [Try.ntmps53, List.size_toArray, List.length_cons, List.length_nil, Nat.reduceAdd, Nat.reduceSub, Array.replicate_succ, Array.replicate_zero, List.push_toArray, List.append_toArray, List.nil_append, List.cons_append])
  repeat' (first | refine go ?_ | intro _ | (apply cG; first | refine cT ?_ | refine cF ?_ | refine cS (fun _ => ?_) fun _ => ?_) | (apply gW; refine sW ?_) | (apply gI; refine sI ?_) | (apply gE; refine sE ?_) | (apply gP; refine sP ?_) | (apply gC; refine sC ?_) | (apply gD; refine sD ?_) | fail)
  rename_i c1
  refine C_ownnil 3 eI ?_
  refine C_sub (S := cel c1 [.slice none 0 0] 22 :: own 3 eI (.slice none 0 0) [] :: E) Sb ?_
  refine C_rangeP Ev.pf eg hit (fun _ _ => rfl) (fun pre => [bxI c1 pre]) bxI_sub ?_ ?_
  · intro l D rec pre y k hx
    simp only [zip1, List.setIfInBounds_toArray, List.set_cons_zero, List.set_cons_succ]
    refine ⟨_, fun W K hK => wpIn_assignG Ev.pf Put.pf (fun _ _ h => h) hK, ?_⟩
    intro W E1
    simp only [List.cons_append, List.nil_append]
    refine CI.run ?_ W
    refine CI_block (CI_region (fun _ _ h => by cases h.1) rfl ?_)
    refine O_sub (S := bxI c1 pre :: blk l rec :: blk D (.deferred (some [])) :: E1) Sb ?_
    refine bxI_open fun A5 c5 => ?_
    have hpl : pre.length < 1000000 := by first | omega | (dsimp only at hx; omega)
    repeat' (first | refine go ?_ | intro _ | (apply cG; first | refine cT ?_ | refine cF ?_ | refine cS (fun _ => ?_) fun _ => ?_) | (apply gW; refine sW ?_) | (apply gI; refine sI ?_) | (apply gE; refine sE ?_) | (apply gP; refine sP ?_) | (apply gC; refine sC ?_) | (apply gD; refine sD ?_) | fail)
    refine O_d (dy_lit1 (R := eI) y (hcs := by rfl) (hel := fun _ _ _ => by rfl)) ?_; rintro _ _ ⟨_, rfl, rfl⟩; refine O_n ?_
    refine O_d dy_append ?_; rintro _ _ ⟨A7, c7, rfl, rfl⟩; refine O_n ?_
    repeat' (first | refine go ?_ | intro _ | (apply cG; first | refine cT ?_ | refine cF ?_ | refine cS (fun _ => ?_) fun _ => ?_) | (apply gW; refine sW ?_) | (apply gI; refine sI ?_) | (apply gE; refine sE ?_) | (apply gP; refine sP ?_) | (apply gC; refine sC ?_) | (apply gD; refine sD ?_) | fail)
    refine E_sub (S := cel c1 [.slice A7 (pre.length + 1) c7] 22 :: own 3 eI (.slice A7 (pre.length + 1) c7) (pre ++ [y]) :: blk l rec :: blk D (.deferred (some [])) :: E1) Sb ?_
    refine E_sub bxI_sub ?_
    refine E_sub (S := blk l rec :: blk D (.deferred (some [])) :: bxI c1 (pre ++ [y]) :: E1) Sb ?_
    exact ⟨fun w s => ⟨rfl, s⟩⟩
  · intro D ys hf
    simp only [List.cons_append, List.nil_append]
    refine E_sub (S := bxI c1 ys :: blk D (.deferred (some [])) :: E) Sb ?_
    refine bxI_openE fun A8 c8 => ?_
    repeat' (first | refine go ?_ | intro _ | (apply cG; first | refine cT ?_ | refine cF ?_ | refine cS (fun _ => ?_) fun _ => ?_) | (apply gW; refine sW ?_) | (apply gI; refine sI ?_) | (apply gE; refine sE ?_) | (apply gP; refine sP ?_) | (apply gC; refine sC ?_) | (apply gD; refine sD ?_) | fail)
    refine E_res1d rfl (by rfl) Ev.pf ⟨ys, A8, c8, hf, rfl, rfl⟩ Sb
theorem Collect_ct {gf : FuncId} {lb : Array Value} {N : Nat} {fin : List Int → Prop} {E : List HP} (hN : N ≤ 1000000) (eg : Enters Try.prog gf) (hit : GivesP Try.prog gf lb (fun (y : Int) (k : Unit) => #[.int .i64 y]) (fun _ _ => []) (fun pre _ => pre.length < N) fin E) :
    CT Try.prog 50 #[.func (.func gf) #[] lb] W0 E fun r L' => ∃ ys A c, fin ys ∧ r = .slice A (List.length ys) c ∧ L' = own 3 eI (.slice A (List.length ys) c) ys :: E := by
  refine CT_enter Try.func50 rfl ?_; (simp only [Try.ntmps50, List.size_toArray, List.length_cons, List.length_nil, Nat.reduceAdd, Nat.reduceSub, Array.replicate_succ, Array.replicate_zero, List.push_toArray, List.append_toArray, List.nil_append, List.cons_append])
  repeat' (first | refine go ?_ | intro _ | (apply cG; first | refine cT ?_ | refine cF ?_ | refine cS (fun _ => ?_) fun _ => ?_) | (apply gW; refine sW ?_) | (apply gI; refine sI ?_) | (apply gE; refine sE ?_) | (apply gP; refine sP ?_) | (apply gC; refine sC ?_) | (apply gD; refine sD ?_) | fail)
  refine O_d (dy_call ArgsI.pf (by first | exact rfl | trivial | (intro a b; rfl)) (AppendSeq_ct hN eg hit)) ?_; rintro _ _ ⟨_, ⟨ys, A, c, hf, rfl, rfl⟩, rfl⟩; refine O_n ?_
  repeat' (first | refine go ?_ | intro _ | (apply cG; first | refine cT ?_ | refine cF ?_ | refine cS (fun _ => ?_) fun _ => ?_) | (apply gW; refine sW ?_) | (apply gI; refine sI ?_) | (apply gE; refine sE ?_) | (apply gP; refine sP ?_) | (apply gC; refine sC ?_) | (apply gD; refine sD ?_) | fail)
  refine E_res1 (by rfl) (by rfl) ⟨ys, A, c, hf, rfl, rfl⟩ Sb
theorem Sorted_ct {gf : FuncId} {lb : Array Value} {l : List Int} {E : List HP} (hN : l.length ≤ 1000000) (eg : Enters Try.prog gf) (hit : GivesP Try.prog gf lb (fun (y : Int) (k : Unit) => #[.int .i64 y]) (fun _ _ => []) (fun pre _ => pre.length < l.length) (fun ys => ys.Perm l) E) :
    CT Try.prog 48 #[.func (.func gf) #[] lb] W0 E fun r L' => ∃ ys A c, ys.Perm l ∧ ys.Pairwise (· ≤ ·) ∧ r = .slice A (List.length ys) c ∧ L' = own 3 eI (.slice A (List.length ys) c) ys :: E := by
  refine CT_enter Try.func48 rfl ?_; (simp only [Try.ntmps48, List.size_toArray, List.length_cons, List.length_nil, Nat.reduceAdd, Nat.reduceSub, Array.replicate_succ, Array.replicate_zero, List.push_toArray, List.append_toArray, List.nil_append, List.cons_append])
  repeat' (first | refine go ?_ | intro _ | (apply cG; first | refine cT ?_ | refine cF ?_ | refine cS (fun _ => ?_) fun _ => ?_) | (apply gW; refine sW ?_) | (apply gI; refine sI ?_) | (apply gE; refine sE ?_) | (apply gP; refine sP ?_) | (apply gC; refine sC ?_) | (apply gD; refine sD ?_) | fail)
  refine O_d (dy_call ArgsI.pf (by first | exact rfl | trivial | (intro a b; rfl)) (Collect_ct (by omega) eg hit)) ?_; rintro _ _ ⟨_, ⟨ys, A, c, hf, rfl, rfl⟩, rfl⟩; refine O_n ?_
  have hl := hf.length_eq
  repeat' (first | refine go ?_ | intro _ | (apply cG; first | refine cT ?_ | refine cF ?_ | refine cS (fun _ => ?_) fun _ => ?_) | (apply gW; refine sW ?_) | (apply gI; refine sI ?_) | (apply gE; refine sE ?_) | (apply gP; refine sP ?_) | (apply gC; refine sC ?_) | (apply gD; refine sD ?_) | fail)
  refine O_d (dy_call ArgsI.pf (by first | exact rfl | trivial | (intro a b; rfl)) (Sort_ct (l := ys) (by omega))) ?_; rintro _ _ ⟨_, ⟨zs, hz, hzs, rfl, rfl⟩, rfl⟩; refine O_n ?_
  have hl2 := hz.length_eq
  rw [← hl2]
  repeat' (first | refine go ?_ | intro _ | (apply cG; first | refine cT ?_ | refine cF ?_ | refine cS (fun _ => ?_) fun _ => ?_) | (apply gW; refine sW ?_) | (apply gI; refine sI ?_) | (apply gE; refine sE ?_) | (apply gP; refine sP ?_) | (apply gC; refine sC ?_) | (apply gD; refine sD ?_) | fail)
  refine E_res1 (by rfl) (by rfl) ⟨zs, A, c, hz.trans hf, hzs, rfl, rfl⟩ Sb
theorem IClone_ct {v : Value} {l : List Int} (hv : Src L eI v l) (hl : l.length ≤ 1000000000) :
    CT Try.prog 42 #[v] W0 L fun r L' => ∃ A c, r = .slice A l.length c ∧ L' = own 3 eI (.slice A l.length c) l :: L := by
  refine CT_fact (fun w s => (hv.sl s).form) ?_
  rintro ⟨A, cap, rfl, hcap⟩
  cases A with
  | none =>
    refine CT_fact (fun w s => (hv.sl s).nil_of) ?_
    rintro rfl
    refine CT_enter Try.func42 rfl ?_; (simp only [Try.ntmps42, List.size_toArray, List.length_cons, List.length_nil, Nat.reduceAdd, Nat.reduceSub, Array.replicate_succ, Array.replicate_zero, List.push_toArray, List.append_toArray, List.nil_append, List.cons_append])
    repeat' (first | refine go ?_ | intro _ | (apply cG; first | refine cT ?_ | refine cF ?_ | refine cS (fun _ => ?_) fun _ => ?_) | (apply gW; refine sW ?_) | (apply gI; refine sI ?_) | (apply gE; refine sE ?_) | (apply gP; refine sP ?_) | (apply gC; refine sC ?_) | (apply gD; refine sD ?_) | fail)
    refine E_ownnil 3 eI ?_
    refine E_end1 (by rfl) (by rfl) Ev.pf ⟨none, 0, rfl, rfl⟩
  | some ad =>
    have hv : Sc L (.slice (some ad) l.length cap) eI l := ⟨hv⟩
    refine CT_enter Try.func42 rfl ?_; (simp only [Try.ntmps42, List.size_toArray, List.length_cons, List.length_nil, Nat.reduceAdd, Nat.reduceSub, Array.replicate_succ, Array.replicate_zero, List.push_toArray, List.append_toArray, List.nil_append, List.cons_append])
    repeat' (first | refine go ?_ | intro _ | (apply cG; first | refine cT ?_ | refine cF ?_ | refine cS (fun _ => ?_) fun _ => ?_) | (apply gW; refine sW ?_) | (apply gI; refine sI ?_) | (apply gE; refine sE ?_) | (apply gP; refine sP ?_) | (apply gC; refine sC ?_) | (apply gD; refine sD ?_) | fail)
    refine O_d (dy_lit0 eI rfl) ?_; rintro _ _ ⟨_, rfl, rfl⟩; refine O_n ?_
    repeat' (first | refine go ?_ | intro _ | (apply cG; first | refine cT ?_ | refine cF ?_ | refine cS (fun _ => ?_) fun _ => ?_) | (apply gW; refine sW ?_) | (apply gI; refine sI ?_) | (apply gE; refine sE ?_) | (apply gP; refine sP ?_) | (apply gC; refine sC ?_) | (apply gD; refine sD ?_) | fail)
    refine E_end1 (by rfl) (by rfl) Ev.pf ⟨_, _, rfl, rfl⟩
theorem sorted_le {l : List Int} (h : l.Pairwise (· ≤ ·)) {i j : Nat} {x y : Int} (hij : i ≤ j) (hx : l[i]? = some x) (hy : l[j]? = some y) : x ≤ y := by
  obtain ⟨h1, rfl⟩ := List.getElem?_eq_some_iff.1 hx
  obtain ⟨h2, rfl⟩ := List.getElem?_eq_some_iff.1 hy
  rcases Nat.lt_or_eq_of_le hij with h3 | rfl
  · exact List.pairwise_iff_getElem.1 h i j h1 h2 h3
  · exact Int.le_refl _
theorem mem_take {α : Type} {l : List α} {i : Nat} {x : α} (h : x ∈ l.take i) : ∃ j, j < i ∧ l[j]? = some x := by
  obtain ⟨j, hj⟩ := List.getElem?_of_mem h
  rw [List.getElem?_take] at hj
  split at hj
  · exact ⟨j, by assumption, hj⟩
  · cases hj
theorem asc_snoc {dd : List Int} {x : Int} (h : dd.Pairwise (· < ·)) (hx : ∀ y ∈ dd, y < x) : (dd ++ [x]).Pairwise (· < ·) :=
  List.pairwise_append.2 ⟨h, List.pairwise_singleton _ _, fun a ha b hb => by
    simp only [List.mem_cons, List.not_mem_nil, or_false] at hb
    subst hb
    exact hx a ha⟩
theorem sub_celown {α : Type} {f : α → Value} {hf : ∀ a, (f a).oneCell' = true} {E : TypeId} {l : List α} {g cap : Nat} {sp : List Value} (h1 : l.length ≤ cap) (h2 : cap ≤ maxLen) (h3 : sp.length = cap - l.length) : Sub (cel g (l.map f ++ sp) E :: L) (own E (e1 f hf) (.slice (some ⟨g, 0, none⟩) l.length cap) l :: L) := by
  rintro m h ⟨a, b, d, ha, hb, hA, hL⟩
  exact ⟨a, b, d, ha, hb, ⟨l.map fun b => [f b], all2_e1.2 rfl, .inr ⟨g, cap, (l.map f ++ sp).toArray, rfl, hA, h1, h2, by simp [e1]; omega, by rw [flat_one]; simp [e1]⟩⟩, hL⟩
theorem cut_own {α : Type} {R : Enc α} {S : List HP} {E : TypeId} {A : Option Addr} {n c lo k s : Nat} {l : List α} (h : own E R (.slice A n c) l ∈ S) (hlo : lo + k ≤ n) (hs : R.sz = s) : ∀ w, St W0 w S → Sl (Hp.of w) R (.slice (cutA A c lo s) k (c - lo)) ((l.drop lo).take k) :=
  fun w st => Sl.cutA (Src.sl (.inr ⟨_, h⟩) st) hlo hs
theorem cut_get {α : Type} {l : List α} {lo k i : Nat} (hi : i < k) : ((l.drop lo).take k)[i]? = l[lo + i]? := by
  rw [List.getElem?_take, if_pos hi, List.getElem?_drop]
theorem set_take1 {α : Type} {l : List α} {k : Nat} {x : α} (h : k < l.length) : (l.set k x).take (k + 1) = l.take k ++ [x] := by
  rw [List.take_add_one, List.take_set, List.set_eq_of_length_le (by simp; omega), List.getElem?_set_self h]
  rfl
theorem ICompact_ct {A : Option Addr} {c : Nat} {l : List Int} (hso : l.Pairwise (· ≤ ·)) (hl : l.length ≤ 1000000) :
    CT Try.prog 47 #[.slice A l.length c] W0 (own 3 eI (.slice A l.length c) l :: L) fun r L' => ∃ dd : List Int, dd.Pairwise (· < ·) ∧ (∀ x, x ∈ dd ↔ x ∈ l) ∧ dd.length ≤ l.length ∧ r = .slice A dd.length c ∧ L' = own 3 eI (.slice A dd.length c) dd :: L := by
  have h1p : (l.take 1).Pairwise (· < ·) := by
    rcases l with _ | ⟨x, r⟩
    · exact List.Pairwise.nil
    · exact List.pairwise_singleton _ _
  refine CT_enter Try.func47 rfl ?_; (simp only [Try.ntmps47, List.size_toArray, List.length_cons, List.length_nil, Nat.reduceAdd, Nat.reduceSub, Array.replicate_succ, Array.replicate_zero, List.push_toArray, List.append_toArray, List.nil_append, List.cons_append])
  by_cases h2 : l.length < 2
  · have hp : l.Pairwise (· < ·) := by
      rw [List.take_of_length_le (by omega)] at h1p
      exact h1p
    repeat' (first | refine go ?_ | intro _ | (apply cG; first | refine cT ?_ | refine cF ?_ | refine cS (fun _ => ?_) fun _ => ?_) | (apply gW; refine sW ?_) | (apply gI; refine sI ?_) | (apply gE; refine sE ?_) | (apply gP; refine sP ?_) | (apply gC; refine sC ?_) | (apply gD; refine sD ?_) | fail)
    refine E_res1 (by rfl) (by rfl) ⟨l, hp, fun x => Iff.rfl, Nat.le_refl _, rfl, rfl⟩ Sb
  repeat' (first | refine go ?_ | intro _ | (apply cG; first | refine cT ?_ | refine cF ?_ | refine cS (fun _ => ?_) fun _ => ?_) | (apply gW; refine sW ?_) | (apply gI; refine sI ?_) | (apply gE; refine sE ?_) | (apply gP; refine sP ?_) | (apply gC; refine sC ?_) | (apply gD; refine sD ?_) | fail)
  refine C_loopS (κ := Nat) [false, false, true, true, true, true, false, false, false, false, true, true, true, true, true, true, true, true, true, true, true, true, true, true, true, true, true, true, true, true, true, true, true, true, true, true, true, true, true, true, true, true, true, true, true, true, true, true, true, true, true, true, true, true, true, true, true, true, true, true, false] (fun k => [(3, .int .i64 (k : Int))]) (fun k => []) (fun k => 1 ≤ k ∧ k ≤ l.length ∧ (l.take k).Pairwise (· < ·)) (fun k => l.length - k) 1 ⟨Nat.le_refl _, by omega, h1p⟩ ⟨rfl, trivial⟩ ?_
  rintro i u ⟨h1i, hi, hp⟩
  ((try dsimp only); refine C_n ?_; (try simp only [Nat.reduceAdd, Nat.zero_add]))
  refine C_cap 0 (fun hcap => ?_)
  by_cases hil : i < l.length
  rotate_left
  · obtain rfl : i = l.length := by omega
    rw [List.take_length] at hp
    repeat' (first | refine go ?_ | intro _ | (apply cG; first | refine cT ?_ | refine cF ?_ | refine cS (fun _ => ?_) fun _ => ?_) | (apply gW; refine sW ?_) | (apply gI; refine sI ?_) | (apply gE; refine sE ?_) | (apply gP; refine sP ?_) | (apply gC; refine sC ?_) | (apply gD; refine sD ?_) | fail)
    refine E_res1 (by rfl) (by rfl) ⟨l, hp, fun x => Iff.rfl, Nat.le_refl _, rfl, rfl⟩ Sb
  obtain ⟨m, rfl⟩ : ∃ m, i = m + 1 := ⟨i - 1, by omega⟩
  obtain ⟨x, hx⟩ : ∃ x, l[m + 1]? = some x := ⟨_, List.getElem?_eq_getElem (by omega)⟩
  obtain ⟨y, hy⟩ : ∃ y, l[m]? = some y := ⟨_, List.getElem?_eq_getElem (by omega)⟩
  have hax : At l (m + 1) x := ⟨hx⟩
  have en : ((m + 1 : Nat) : Int) - 1 = (m : Int) := by omega
  have hay0 : At l (((m + 1 : Nat) : Int) - 1).toNat y := ⟨by rw [en, Int.toNat_natCast]; exact hy⟩
  have hay1 := hay0
  unfold Int.toNat at hay1
  have htk : l.take (m + 1 + 1) = l.take (m + 1) ++ [x] := by rw [List.take_add_one, hx]; rfl
  repeat' (first | refine go ?_ | intro _ | (apply cG; first | refine cT ?_ | refine cF ?_ | refine cS (fun _ => ?_) fun _ => ?_) | (apply gW; refine sW ?_) | (apply gI; refine sI ?_) | (apply gE; refine sE ?_) | (apply gP; refine sP ?_) | (apply gC; refine sC ?_) | (apply gD; refine sD ?_) | fail)
  refine C_draw (n := 99) [own 3 eI (.slice A l.length c) l] [(0, 1), (1, 1), (2, 1), (3, 1), (4, 1), (5, 1), (6, 1), (7, 1), (8, 1), (9, 1)] (by kernel_rfl) (by kernel_rfl) Sb ?_
  have hyx := sorted_le hso (Nat.le_succ m) hy hx
  have hmy : ∀ z ∈ l.take (m + 1), z ≤ y := fun z hz => by
    obtain ⟨j, hj, hjz⟩ := mem_take hz
    exact sorted_le hso (by omega) hjz hy
  by_cases hxy : x = y
  rotate_left
  · repeat' (first | refine go ?_ | intro _ | (apply cG; first | refine cT ?_ | refine cF ?_ | refine cS (fun _ => ?_) fun _ => ?_) | (apply gW; refine sW ?_) | (apply gI; refine sI ?_) | (apply gE; refine sE ?_) | (apply gP; refine sP ?_) | (apply gC; refine sC ?_) | (apply gD; refine sD ?_) | fail)
    exact E_round (m + 1 + 1) ⟨by omega, hil, by
      rw [htk]
      exact asc_snoc hp fun z hz => by
        have := hmy z hz
        omega⟩ (by omega) ⟨rfl, trivial⟩ Sb
  repeat' (first | refine go ?_ | intro _ | (apply cG; first | refine cT ?_ | refine cF ?_ | refine cS (fun _ => ?_) fun _ => ?_) | (apply gW; refine sW ?_) | (apply gI; refine sI ?_) | (apply gE; refine sE ?_) | (apply gP; refine sP ?_) | (apply gC; refine sC ?_) | (apply gD; refine sD ?_) | fail)
  obtain ⟨N, hN⟩ : ∃ N, l.length - (m + 1) = N := ⟨_, rfl⟩
  refine O_s (sv_slice (l' := m + 1) (h' := N) (l := ((m + 1 : Nat) : Int)) (h := (l.length : Int)) (e2 := by omega)) ?_
  obtain ⟨A2, hA2⟩ : ∃ A2, cutA A c (m + 1) 1 = A2 := ⟨_, rfl⟩
  rw [hA2]
  repeat' (first | refine go ?_ | intro _ | (apply cG; first | refine cT ?_ | refine cF ?_ | refine cS (fun _ => ?_) fun _ => ?_) | (apply gW; refine sW ?_) | (apply gI; refine sI ?_) | (apply gE; refine sE ?_) | (apply gP; refine sP ?_) | (apply gC; refine sC ?_) | (apply gD; refine sD ?_) | fail)
  refine C_loopS (κ := Nat × List Int × List Int) [false, false, false, true, false, true, false, false, false, false, false, false, false, false, false, false, false, false, false, false, false, false, false, false, false, false, false, false, false, true, true, true, true, true, true, true, true, true, true, true, true, true, true, true, true, true, true, true, true, true, true, true, true, true, false, false, false, false, false, false, false] (fun k => [(3, .int .i64 (k.2.1.length : Int)), (5, .int .i64 (k.1 : Int))]) (fun k => [(0, own 3 eI (.slice A l.length c) k.2.2)]) (fun k => 1 ≤ k.1 ∧ k.1 ≤ N ∧ k.2.1.length + 1 ≤ m + 1 + k.1 ∧ k.2.2.length = l.length ∧ k.2.2.take k.2.1.length = k.2.1 ∧ (∀ j, m + k.1 ≤ j → k.2.2[j]? = l[j]?) ∧ k.2.1.Pairwise (· < ·) ∧ (∀ z, z ∈ k.2.1 ↔ z ∈ l.take (m + 1 + k.1))) (fun k => N - k.1) (1, l.take (m + 1), l) ⟨Nat.le_refl _, by omega, by dsimp only; rw [List.length_take]; omega, rfl, by dsimp only; rw [List.length_take, Nat.min_eq_left (by omega)], fun j _ => rfl, hp, fun z => by dsimp only; rw [htk, List.mem_append, List.mem_singleton]; exact ⟨.inl, fun h => h.elim id fun h => by rw [h, hxy]; exact List.mem_of_getElem? (i := m) (by rw [List.getElem?_take, if_pos (by omega)]; exact hy)⟩⟩ ⟨by dsimp only; rw [List.length_take, Nat.min_eq_left (by omega)]; rfl, rfl, trivial⟩ ?_
  rintro ⟨i, dd, ll⟩ u2 ⟨g1, g2, g3, g4, g5, g6, g7, g8⟩
  dsimp only at g1 g2 g3 g4 g5 g6 g7 g8
  dsimp only
  ((try dsimp only); refine C_n ?_; (try simp only [Nat.reduceAdd, Nat.zero_add]))
  have hddl : dd.length ≤ l.length := by omega
  have hs2 := cut_own (W0 := W0) (S := own 3 eI (.slice A l.length c) ll :: L) (R := eI) (E := 3) (A := A) (n := l.length) (c := c) (lo := m + 1) (k := N) (s := 1) (l := ll) (.head _) (by omega) rfl
  have hs3 := cut_own (W0 := W0) (S := [own 3 eI (.slice A l.length c) ll]) (R := eI) (E := 3) (A := A) (n := l.length) (c := c) (lo := m + 1) (k := N) (s := 1) (l := ll) (.head _) (by omega) rfl
  rw [hA2] at hs2 hs3
  by_cases hiN : i < N
  rotate_left
  · obtain rfl : i = N := by omega
    obtain ⟨q, hq⟩ : ∃ q, l.length - dd.length = q := ⟨_, rfl⟩
    repeat' (first | refine go ?_ | intro _ | (apply cG; first | refine cT ?_ | refine cF ?_ | refine cS (fun _ => ?_) fun _ => ?_) | (apply gW; refine sW ?_) | (apply gI; refine sI ?_) | (apply gE; refine sE ?_) | (apply gP; refine sP ?_) | (apply gC; refine sC ?_) | (apply gD; refine sD ?_) | fail)
    refine O_s (sv_slice (l' := dd.length) (h' := q) (l := (dd.length : Int)) (h := (l.length : Int)) (e2 := by omega)) ?_
    obtain ⟨A3, hA3⟩ : ∃ A3, cutA A c dd.length 1 = A3 := ⟨_, rfl⟩
    rw [hA3]
    refine ⟨fun w s => ?_⟩
    obtain ⟨g, cap, sp, hv, k1, k2, k3, s2⟩ := St.own_cel s (fun h => by rw [h] at g4; simp at g4; omega)
    injection hv with e1 e2 e3
    subst e1 e3
    have hcut : A3 = some ⟨g, dd.length, none⟩ := by
      rw [← hA3]
      unfold cutA
      rw [if_neg (by omega)]
      simp [Addr.add]
      intro h
      rw [h]
      rfl
    subst hcut
    refine OL.run (L := cel g (ll.map (Value.int .i64) ++ sp) 3 :: L) ?_ w s2
    refine O_d (dy_clear (g := g) (n := q) (off := dd.length) (cs' := (dd ++ List.replicate q 0).map (Value.int .i64) ++ sp) 0 Ev.pf rfl (by omega) (by rw [List.length_append, List.length_map]; omega) rfl rfl ?_) ?_
    · rw [List.take_append_of_le_length (by rw [List.length_map]; omega), ← List.map_take, g5, List.drop_append_of_le_length (by rw [List.length_map]; omega), List.drop_of_length_le (by rw [List.length_map]; omega), List.map_append, List.map_replicate]
      rfl
    rintro _ _ ⟨rfl, rfl⟩; refine O_n ?_
    repeat' (first | refine go ?_ | intro _ | (apply cG; first | refine cT ?_ | refine cF ?_ | refine cS (fun _ => ?_) fun _ => ?_) | (apply gW; refine sW ?_) | (apply gI; refine sI ?_) | (apply gE; refine sE ?_) | (apply gP; refine sP ?_) | (apply gC; refine sC ?_) | (apply gD; refine sD ?_) | fail)
    refine O_s (sv_slice (l' := 0) (h' := dd.length) (l := 0) (h := (dd.length : Int))) ?_
    rw [cutA0, Nat.sub_zero]
    repeat' (first | refine go ?_ | intro _ | (apply cG; first | refine cT ?_ | refine cF ?_ | refine cS (fun _ => ?_) fun _ => ?_) | (apply gW; refine sW ?_) | (apply gI; refine sI ?_) | (apply gE; refine sE ?_) | (apply gP; refine sP ?_) | (apply gC; refine sC ?_) | (apply gD; refine sD ?_) | fail)
    refine E_sub (sub_celown (hf := fun _ => rfl) (cap := c) (by rw [List.length_append, List.length_replicate]; omega) k2 (by rw [List.length_append, List.length_replicate]; omega)) ?_
    refine E_sub (sub_ownCut (k := dd.length) (by rw [List.length_append]; omega)) ?_
    rw [List.take_left]
    rw [show m + 1 + i = l.length from by omega, List.take_length] at g8
    refine E_res1 (by rfl) (by rfl) ⟨dd, g7, g8, hddl, rfl, rfl⟩ Sb
  obtain ⟨p, rfl⟩ : ∃ p, i = p + 1 := ⟨i - 1, by omega⟩
  obtain ⟨x2, hx2⟩ : ∃ x, l[m + 1 + (p + 1)]? = some x := ⟨_, List.getElem?_eq_getElem (by omega)⟩
  obtain ⟨y2, hy2⟩ : ∃ x, l[m + 1 + p]? = some x := ⟨_, List.getElem?_eq_getElem (by omega)⟩
  have hcx : ((ll.drop (m + 1)).take N)[p + 1]? = some x2 := by rw [cut_get hiN, g6 _ (by omega), hx2]
  have hcy : ((ll.drop (m + 1)).take N)[p]? = some y2 := by rw [cut_get (by omega), g6 _ (by omega), hy2]
  have htk2 : l.take (m + 1 + (p + 1) + 1) = l.take (m + 1 + (p + 1)) ++ [x2] := by rw [List.take_add_one, hx2]; rfl
  have hyx2 := sorted_le hso (Nat.le_succ (m + 1 + p)) hy2 hx2
  have en2 : ((p + 1 : Nat) : Int) - 1 = (p : Int) := by omega
  repeat' (first | refine go ?_ | intro _ | (apply cG; first | refine cT ?_ | refine cF ?_ | refine cS (fun _ => ?_) fun _ => ?_) | (apply gW; refine sW ?_) | (apply gI; refine sI ?_) | (apply gE; refine sE ?_) | (apply gP; refine sP ?_) | (apply gC; refine sC ?_) | (apply gD; refine sD ?_) | fail)
  refine C_draw (n := 99) [own 3 eI (.slice A l.length c) ll] [(0, 1), (1, 1), (2, 1), (3, 1), (4, 1), (5, 1), (6, 1), (7, 1), (8, 1), (9, 1)] (by kernel_rfl) (by kernel_rfl) Sb ?_
  repeat' (first | refine go ?_ | intro _ | (apply cG; first | refine cT ?_ | refine cF ?_ | refine cS (fun _ => ?_) fun _ => ?_) | (apply gW; refine sW ?_) | (apply gI; refine sI ?_) | (apply gE; refine sE ?_) | (apply gP; refine sP ?_) | (apply gC; refine sC ?_) | (apply gD; refine sD ?_) | fail)
  refine D_op rfl ?_; refine X_s (sv_idx (R := eI) (l := (ll.drop (m + 1)).take N) (n := N) (c := c - (m + 1)) (A := A2) (j := p + 1) (hs := hs3)) ?_
  repeat' (first | refine go ?_ | intro _ | (apply cG; first | refine cT ?_ | refine cF ?_ | refine cS (fun _ => ?_) fun _ => ?_) | (apply gW; refine sW ?_) | (apply gI; refine sI ?_) | (apply gE; refine sE ?_) | (apply gP; refine sP ?_) | (apply gC; refine sC ?_) | (apply gD; refine sD ?_) | fail)
  refine D_op rfl ?_; refine X_s (sv_loadE (f := Value.int .i64) (hf := fun _ => rfl) (l := (ll.drop (m + 1)).take N) (n := N) (c := c - (m + 1)) (A := A2) (j := p + 1) (hs := hs3) (hl := hcx)) ?_
  repeat' (first | refine go ?_ | intro _ | (apply cG; first | refine cT ?_ | refine cF ?_ | refine cS (fun _ => ?_) fun _ => ?_) | (apply gW; refine sW ?_) | (apply gI; refine sI ?_) | (apply gE; refine sE ?_) | (apply gP; refine sP ?_) | (apply gC; refine sC ?_) | (apply gD; refine sD ?_) | fail)
  refine D_op rfl ?_; refine X_s (sv_idx (R := eI) (l := (ll.drop (m + 1)).take N) (n := N) (c := c - (m + 1)) (A := A2) (j := p) (hs := hs3) (i := ((p + 1 : Nat) : Int) - 1) (hj := by omega)) ?_
  repeat' (first | refine go ?_ | intro _ | (apply cG; first | refine cT ?_ | refine cF ?_ | refine cS (fun _ => ?_) fun _ => ?_) | (apply gW; refine sW ?_) | (apply gI; refine sI ?_) | (apply gE; refine sE ?_) | (apply gP; refine sP ?_) | (apply gC; refine sC ?_) | (apply gD; refine sD ?_) | fail)
  refine D_op rfl ?_; refine X_s (sv_loadE (f := Value.int .i64) (hf := fun _ => rfl) (l := (ll.drop (m + 1)).take N) (n := N) (c := c - (m + 1)) (A := A2) (j := p) (hs := hs3) (hl := hcy)) ?_
  by_cases hxy2 : x2 = y2
  · repeat' (first | refine go ?_ | intro _ | (apply cG; first | refine cT ?_ | refine cF ?_ | refine cS (fun _ => ?_) fun _ => ?_) | (apply gW; refine sW ?_) | (apply gI; refine sI ?_) | (apply gE; refine sE ?_) | (apply gP; refine sP ?_) | (apply gC; refine sC ?_) | (apply gD; refine sD ?_) | fail)
    exact E_round (p + 1 + 1, dd, ll) ⟨by omega, hiN, by dsimp only; omega, g4, g5, fun j hj => g6 j (by dsimp only at hj; omega), g7, fun z => by
      dsimp only
      rw [← Nat.add_assoc (m + 1) (p + 1) 1, htk2, List.mem_append, List.mem_singleton, ← g8 z]
      exact ⟨.inl, fun h => h.elim id fun h => (g8 z).2 (by rw [h, hxy2]; exact List.mem_of_getElem? (i := m + 1 + p) (by rw [List.getElem?_take, if_pos (by omega)]; exact hy2))⟩⟩ (by dsimp only; omega) ⟨rfl, rfl, trivial⟩ Sb
  repeat' (first | refine go ?_ | intro _ | (apply cG; first | refine cT ?_ | refine cF ?_ | refine cS (fun _ => ?_) fun _ => ?_) | (apply gW; refine sW ?_) | (apply gI; refine sI ?_) | (apply gE; refine sE ?_) | (apply gP; refine sP ?_) | (apply gC; refine sC ?_) | (apply gD; refine sD ?_) | fail)
  refine O_s (sv_idx (R := eI) (l := (ll.drop (m + 1)).take N) (n := N) (c := c - (m + 1)) (A := A2) (j := p + 1) (hs := hs2)) ?_
  repeat' (first | refine go ?_ | intro _ | (apply cG; first | refine cT ?_ | refine cF ?_ | refine cS (fun _ => ?_) fun _ => ?_) | (apply gW; refine sW ?_) | (apply gI; refine sI ?_) | (apply gE; refine sE ?_) | (apply gP; refine sP ?_) | (apply gC; refine sC ?_) | (apply gD; refine sD ?_) | fail)
  refine O_s (sv_loadE (f := Value.int .i64) (hf := fun _ => rfl) (l := (ll.drop (m + 1)).take N) (n := N) (c := c - (m + 1)) (A := A2) (j := p + 1) (hs := hs2) (hl := hcx)) ?_
  repeat' (first | refine go ?_ | intro _ | (apply cG; first | refine cT ?_ | refine cF ?_ | refine cS (fun _ => ?_) fun _ => ?_) | (apply gW; refine sW ?_) | (apply gI; refine sI ?_) | (apply gE; refine sE ?_) | (apply gP; refine sP ?_) | (apply gC; refine sC ?_) | (apply gD; refine sD ?_) | fail)
  refine O_d (dy_storeE (f := Value.int .i64) (hf := fun _ => rfl) (n := l.length) (c := c) x2 (hy := by rfl) (hj := by omega)) ?_; rintro _ _ ⟨rfl, rfl⟩; refine O_n ?_
  repeat' (first | refine go ?_ | intro _ | (apply cG; first | refine cT ?_ | refine cF ?_ | refine cS (fun _ => ?_) fun _ => ?_) | (apply gW; refine sW ?_) | (apply gI; refine sI ?_) | (apply gE; refine sE ?_) | (apply gP; refine sP ?_) | (apply gC; refine sC ?_) | (apply gD; refine sD ?_) | fail)
  have hdy : ∀ z ∈ dd, z < x2 := fun z hz => by
    obtain ⟨j, hj, hjz⟩ := mem_take ((g8 z).1 hz)
    have := sorted_le hso (show j ≤ m + 1 + p by omega) hjz hy2
    omega
  exact E_round (p + 1 + 1, dd ++ [x2], ll.set dd.length x2) ⟨by omega, hiN, by dsimp only; rw [List.length_append, List.length_singleton]; omega, by dsimp only; rw [List.length_set]; exact g4, by dsimp only; rw [List.length_append, List.length_singleton, set_take1 (by omega), g5], fun j hj => by
      dsimp only at hj ⊢
      rw [List.getElem?_set_ne (by omega)]
      exact g6 j (by omega), asc_snoc g7 hdy, fun z => by
      dsimp only
      rw [← Nat.add_assoc (m + 1) (p + 1) 1, htk2, List.mem_append, List.mem_append, ← g8 z]⟩ (by dsimp only; omega) ⟨by dsimp only; rw [List.length_append]; rfl, rfl, trivial⟩ Sb
end
end Go.Proofs.Ytlmabajgnjiigaa
