/-
  Walks: what excludes what; sums of sets.
-/
import Derived.Test.YteeapkfakehocaaMY
namespace Go.Proofs.Yteeapkfakehocaa
open Go Go.RowKit
set_option linter.unusedVariables false
set_option linter.unusedSimpArgs false
set_option maxRecDepth 20000
set_option synthInstance.maxSize 100000
set_option synthInstance.maxHeartbeats 400000
def exF (a b : List CHO) : Bool := a.all fun x => b.all fun y => ovF x.2 y.2
/-- the possible positions of label n -/
def posI (l : List AK) (t : List BX) (n : Int) : List CHO := match l[n.toNat]? with
  | some a => choF a t
  | none => []
def wtI (l : List AK) (n : Int) : Int := match l[n.toNat]? with
  | some a => a.g
  | none => 0
def fitF (l : List AK) (t : List BX) (n : Int) (s : List Int) : Bool := s.all fun m => exF (posI l t n) (posI l t m)
def mxF (l : List AK) (s : List Int) : Int := s.foldl (fun m n => max m (wtI l n)) 0
def sumF25 (l : List AK) (sets : List (List Int)) : Int := sets.foldl (fun z s => z + mxF l s) 0
theorem posI_at {l : List AK} {t : List BX} {n : Nat} {a : AK} (h : l[n]? = some a) : posI l t (n : Int) = choF a t := by
  unfold posI
  rw [Int.toNat_natCast, h]
theorem wtI_at {l : List AK} {n : Nat} {a : AK} (h : l[n]? = some a) : wtI l (n : Int) = a.g := by
  unfold wtI
  rw [Int.toNat_natCast, h]
theorem C_form {W0 : World} {L : List HP} {P : Program} {α : Type} {R : Enc α} {v : Value} {l : List α} {cd : Code} {a : Act} {Q : Exit → Act → World → Prop} (h : rd R v l ∈ L) (k : ∀ A c, v = .slice A l.length c → CL P W0 L cd Q a) : CL P W0 L cd Q a := by
  refine C_fact (φ := ∃ A c, v = .slice A l.length c) (fun w s => ?_) fun ⟨A, c, e⟩ => k A c e
  obtain ⟨A, c, e, _⟩ := ((Src.sl (.inl h : Src L R v l) s).form)
  exact ⟨A, c, e⟩
section
variable {W0 : World} {M : List HP}
theorem IdxIS_ct {A : Option Addr} {c : Nat} {l : List Int} {gf : FuncId} {B : Array Value} {φ : Int → Bool} (eg : Enters Try.prog gf) (hv : Src M eI (.slice A l.length c) l) (hl : l.length ≤ 1000000000)
    (hcl : ∀ x ∈ l, CT Try.prog gf (#[.int .i64 x] ++ B) W0 M fun r L' => r = .bool (φ x) ∧ L' = M) :
    CT Try.prog 65 #[.slice A l.length c, .func (.func gf) #[] B] W0 M fun r L' => r = .int .i64 (idxF φ l 0) ∧ L' = M := by
  have hsc : ScA A M l.length c eI l := ⟨hv⟩
  have hsd : Sc M (.slice A l.length c) eI l := ⟨hv⟩
  refine CT_enter Try.func65 rfl ?_; (simp only [Try.ntmps65, List.size_toArray, List.length_cons, List.length_nil, Nat.reduceAdd, Nat.reduceSub, Array.replicate_succ, Array.replicate_zero, List.push_toArray, List.append_toArray, List.nil_append, List.cons_append])
  repeat' (first | refine go ?_ | intro _ | (apply cG; first | refine cT ?_ | refine cF ?_ | refine cS (fun _ => ?_) fun _ => ?_) | (apply gW; refine sW ?_) | (apply gI; refine sI ?_) | (apply gE; refine sE ?_) | (apply gP; refine sP ?_) | (apply gC; refine sC ?_) | (apply gD; refine sD ?_) | fail)
  refine C_loopS (κ := Nat) [false, false, false, false, true, true, false, false, true, true, true, true, true, true, true, true, true, true, true] (fun k => [(8, .int .i64 (k : Int))]) (fun k => []) (fun k => k ≤ l.length ∧ idxF φ l 0 = idxF φ (l.drop k) (k : Int)) (fun k => l.length - k) 0 ⟨Nat.zero_le _, rfl⟩ ⟨rfl, trivial⟩ ?_
  rintro i u ⟨hi, hx⟩
  ((try dsimp only); refine C_n ?_; (try simp only [Nat.reduceAdd, Nat.zero_add]))
  by_cases hlt : i < l.length
  · obtain ⟨x, hxi⟩ : ∃ x, l[i]? = some x := ⟨_, List.getElem?_eq_getElem hlt⟩
    have hax : At l i x := ⟨hxi⟩
    rw [idxF_drop hxi] at hx
    repeat' (first | refine go ?_ | intro _ | (apply cG; first | refine cT ?_ | refine cF ?_ | refine cS (fun _ => ?_) fun _ => ?_) | (apply gW; refine sW ?_) | (apply gI; refine sI ?_) | (apply gE; refine sE ?_) | (apply gP; refine sP ?_) | (apply gC; refine sC ?_) | (apply gD; refine sD ?_) | fail)
    refine O_d (dy_callv Ev.pf ArgsI.pf (by simp only [List.append_toArray, List.nil_append, List.append_nil, List.cons_append] <;> exact rfl) eg (hcl x (List.mem_of_getElem? hxi))) ?_; rintro _ _ ⟨_, ⟨rfl, hLL⟩, rfl⟩; replace hLL := hLL.symm; subst hLL; refine O_n ?_
    cases hφ : φ x
    · rw [hφ] at hx
      repeat' (first | refine go ?_ | intro _ | (apply cG; first | refine cT ?_ | refine cF ?_ | refine cS (fun _ => ?_) fun _ => ?_) | (apply gW; refine sW ?_) | (apply gI; refine sI ?_) | (apply gE; refine sE ?_) | (apply gP; refine sP ?_) | (apply gC; refine sC ?_) | (apply gD; refine sD ?_) | fail)
      exact E_round (i + 1) ⟨hlt, by rw [hx]; rfl⟩ (by omega) ⟨rfl, trivial⟩ Sb
    · rw [hφ] at hx
      rw [hx]
      repeat' (first | refine go ?_ | intro _ | (apply cG; first | refine cT ?_ | refine cF ?_ | refine cS (fun _ => ?_) fun _ => ?_) | (apply gW; refine sW ?_) | (apply gI; refine sI ?_) | (apply gE; refine sE ?_) | (apply gP; refine sP ?_) | (apply gC; refine sC ?_) | (apply gD; refine sD ?_) | fail)
      refine E_res1 (by rfl) (by rfl) ⟨rfl, rfl⟩ Sb
  obtain rfl : i = l.length := by omega
  rw [List.drop_length] at hx
  rw [hx]
  repeat' (first | refine go ?_ | intro _ | (apply cG; first | refine cT ?_ | refine cF ?_ | refine cS (fun _ => ?_) fun _ => ?_) | (apply gW; refine sW ?_) | (apply gI; refine sI ?_) | (apply gE; refine sE ?_) | (apply gP; refine sP ?_) | (apply gC; refine sC ?_) | (apply gD; refine sD ?_) | fail)
  refine E_res1 (by rfl) (by rfl) ⟨rfl, rfl⟩ Sb
theorem ConIS_ct {A : Option Addr} {c : Nat} {l : List Int} {gf : FuncId} {B : Array Value} {φ : Int → Bool} (eg : Enters Try.prog gf) (hv : Src M eI (.slice A l.length c) l) (hl : l.length ≤ 1000000000)
    (hcl : ∀ x ∈ l, CT Try.prog gf (#[.int .i64 x] ++ B) W0 M fun r L' => r = .bool (φ x) ∧ L' = M) :
    CT Try.prog 43 #[.slice A l.length c, .func (.func gf) #[] B] W0 M fun r L' => r = .bool (l.any φ) ∧ L' = M := by
  have he := idxF_any (φ := φ) (l := l) (i := 0) (Int.le_refl _)
  obtain ⟨z, hz⟩ : ∃ z, idxF φ l 0 = z := ⟨_, rfl⟩
  refine CT_enter Try.func43 rfl ?_; (simp only [Try.ntmps43, List.size_toArray, List.length_cons, List.length_nil, Nat.reduceAdd, Nat.reduceSub, Array.replicate_succ, Array.replicate_zero, List.push_toArray, List.append_toArray, List.nil_append, List.cons_append])
  repeat' (first | refine go ?_ | intro _ | (apply cG; first | refine cT ?_ | refine cF ?_ | refine cS (fun _ => ?_) fun _ => ?_) | (apply gW; refine sW ?_) | (apply gI; refine sI ?_) | (apply gE; refine sE ?_) | (apply gP; refine sP ?_) | (apply gC; refine sC ?_) | (apply gD; refine sD ?_) | fail)
  refine O_d (dy_call ArgsI.pf (by first | exact rfl | trivial | (intro a b; rfl)) (IdxIS_ct (φ := φ) eg hv hl hcl)) ?_; rintro _ _ ⟨_, ⟨rfl, hLL⟩, rfl⟩; replace hLL := hLL.symm; subst hLL; refine O_n ?_
  rw [hz] at he ⊢
  rw [← he]
  by_cases h0 : z ≥ 0
  · rw [decide_eq_true h0]
    repeat' (first | refine go ?_ | intro _ | (apply cG; first | refine cT ?_ | refine cF ?_ | refine cS (fun _ => ?_) fun _ => ?_) | (apply gW; refine sW ?_) | (apply gI; refine sI ?_) | (apply gE; refine sE ?_) | (apply gP; refine sP ?_) | (apply gC; refine sC ?_) | (apply gD; refine sD ?_) | fail)
    refine E_res1 (by rfl) (by rfl) ⟨rfl, rfl⟩ Sb
  · rw [decide_eq_false h0]
    repeat' (first | refine go ?_ | intro _ | (apply cG; first | refine cT ?_ | refine cF ?_ | refine cS (fun _ => ?_) fun _ => ?_) | (apply gW; refine sW ?_) | (apply gI; refine sI ?_) | (apply gE; refine sE ?_) | (apply gP; refine sP ?_) | (apply gC; refine sC ?_) | (apply gD; refine sD ?_) | fail)
    refine E_res1 (by rfl) (by rfl) ⟨rfl, rfl⟩ Sb
end
section
variable {W0 : World} {L : List HP}
theorem exclude_ct {A B : Option Addr} {c d : Nat} {a b : List CHO} (hv : rd eCH (.slice A a.length c) a ∈ L) (hv2 : rd eCH (.slice B b.length d) b ∈ L) (ha : a.length ≤ 1000) (hb : b.length ≤ 1000) :
    CT Try.prog 51 #[.slice A a.length c, .slice B b.length d] W0 L fun r L' => r = .bool (exF a b) ∧ L' = L := by
  refine CT.sub ?_ (sub_dup hv2)
  refine CT.sub ?_ (sub_dup (.tail _ hv))
  refine CT_enter Try.func51 rfl ?_; (simp only [Try.ntmps51, List.size_toArray, List.length_cons, List.length_nil, Nat.reduceAdd, Nat.reduceSub, Array.replicate_succ, Array.replicate_zero, List.push_toArray, List.append_toArray, List.nil_append, List.cons_append])
  repeat' (first | refine go ?_ | intro _ | (apply cG; first | refine cT ?_ | refine cF ?_ | refine cS (fun _ => ?_) fun _ => ?_) | (apply gW; refine sW ?_) | (apply gI; refine sI ?_) | (apply gE; refine sE ?_) | (apply gP; refine sP ?_) | (apply gC; refine sC ?_) | (apply gD; refine sD ?_) | fail)
  refine C_loopS (κ := Nat) [false, false, false, false, true, false, true, false, true, false, false, true, true, true, true, true, true, true, true, true, true, true, true, true, true, true, true, true, true, true] (fun k => [(11, .int .i64 (k : Int))]) (fun k => []) (fun k => k ≤ a.length ∧ exF (a.drop k) b = exF a b) (fun k => a.length - k) 0 ⟨Nat.zero_le _, rfl⟩ ⟨rfl, trivial⟩ ?_
  rintro i u ⟨hi, hex⟩
  ((try dsimp only); refine C_n ?_; (try simp only [Nat.reduceAdd, Nat.zero_add]))
  by_cases hia : i < a.length
  rotate_left
  · obtain rfl : i = a.length := by omega
    rw [List.drop_length] at hex
    replace hex : true = exF a b := hex
    rw [← hex]
    repeat' (first | refine go ?_ | intro _ | (apply cG; first | refine cT ?_ | refine cF ?_ | refine cS (fun _ => ?_) fun _ => ?_) | (apply gW; refine sW ?_) | (apply gI; refine sI ?_) | (apply gE; refine sE ?_) | (apply gP; refine sP ?_) | (apply gC; refine sC ?_) | (apply gD; refine sD ?_) | fail)
    refine E_res1 (by rfl) (by rfl) ⟨rfl, rfl⟩ Sb
  obtain ⟨x, hx⟩ : ∃ x, a[i]? = some x := ⟨_, List.getElem?_eq_getElem hia⟩
  have hax : At a i x := ⟨hx⟩
  have hex2 : exF (a.drop i) b = ((b.all fun y => ovF x.2 y.2) && exF (a.drop (i + 1)) b) := all_drop hx
  rw [hex2] at hex
  repeat' (first | refine go ?_ | intro _ | (apply cG; first | refine cT ?_ | refine cF ?_ | refine cS (fun _ => ?_) fun _ => ?_) | (apply gW; refine sW ?_) | (apply gI; refine sI ?_) | (apply gE; refine sE ?_) | (apply gP; refine sP ?_) | (apply gC; refine sC ?_) | (apply gD; refine sD ?_) | fail)
  rename_i p6
  refine C_loopS (κ := Nat) [false, false, false, false, true, false, false, false, true, false, false, false, false, false, false, false, false, true, true, true, true, true, true, true, true, true, true, true, true, false] (fun k => [(17, .int .i64 (k : Int))]) (fun k => []) (fun k => k ≤ b.length ∧ ((b.drop k).all fun y => ovF x.2 y.2) = (b.all fun y => ovF x.2 y.2)) (fun k => b.length - k) 0 ⟨Nat.zero_le _, rfl⟩ ⟨rfl, trivial⟩ ?_
  rintro k u2 ⟨hk, hal⟩
  ((try dsimp only); refine C_n ?_; (try simp only [Nat.reduceAdd, Nat.zero_add]))
  by_cases hkb : k < b.length
  rotate_left
  · obtain rfl : k = b.length := by omega
    rw [List.drop_length] at hal
    replace hal : true = (b.all fun y => ovF x.2 y.2) := hal
    rw [← hal, Bool.true_and] at hex
    repeat' (first | refine go ?_ | intro _ | (apply cG; first | refine cT ?_ | refine cF ?_ | refine cS (fun _ => ?_) fun _ => ?_) | (apply gW; refine sW ?_) | (apply gI; refine sI ?_) | (apply gE; refine sE ?_) | (apply gP; refine sP ?_) | (apply gC; refine sC ?_) | (apply gD; refine sD ?_) | fail)
    exact E_round (i + 1) ⟨hia, hex⟩ (by omega) ⟨rfl, trivial⟩ Sb
  obtain ⟨y, hy⟩ : ∃ y, b[k]? = some y := ⟨_, List.getElem?_eq_getElem hkb⟩
  have hay : At b k y := ⟨hy⟩
  rw [all_drop hy] at hal
  repeat' (first | refine go ?_ | intro _ | (apply cG; first | refine cT ?_ | refine cF ?_ | refine cS (fun _ => ?_) fun _ => ?_) | (apply gW; refine sW ?_) | (apply gI; refine sI ?_) | (apply gE; refine sE ?_) | (apply gP; refine sP ?_) | (apply gC; refine sC ?_) | (apply gD; refine sD ?_) | fail)
  refine O_d (dy_lit1 (R := eBX) y.2 (hcs := by rfl) (hel := fun _ _ _ => by rfl)) ?_; rintro _ _ ⟨_, rfl, rfl⟩; refine O_n ?_
  refine O_frz 0 ?_
  refine O_d (dy_call ArgsI.pf (by first | exact rfl | trivial | (intro a b; rfl)) (overlaps_ct (a := x.2) (l := [y.2]) (.head _) (by simp))) ?_; rintro _ _ ⟨_, ⟨rfl, hLL⟩, rfl⟩; replace hLL := hLL.symm; subst hLL; refine O_n ?_
  have e1 : [y.2].any (ovF x.2) = ovF x.2 y.2 := by simp
  rw [e1]
  cases hov : ovF x.2 y.2
  · rw [hov] at hal
    replace hal : false = (b.all fun y => ovF x.2 y.2) := hal
    rw [← hal, Bool.false_and] at hex
    rw [← hex]
    repeat' (first | refine go ?_ | intro _ | (apply cG; first | refine cT ?_ | refine cF ?_ | refine cS (fun _ => ?_) fun _ => ?_) | (apply gW; refine sW ?_) | (apply gI; refine sI ?_) | (apply gE; refine sE ?_) | (apply gP; refine sP ?_) | (apply gC; refine sC ?_) | (apply gD; refine sD ?_) | fail)
    refine E_res1 (by rfl) (by rfl) ⟨rfl, rfl⟩ Sb
  · rw [hov, Bool.true_and] at hal
    repeat' (first | refine go ?_ | intro _ | (apply cG; first | refine cT ?_ | refine cF ?_ | refine cS (fun _ => ?_) fun _ => ?_) | (apply gW; refine sW ?_) | (apply gI; refine sI ?_) | (apply gE; refine sE ?_) | (apply gP; refine sP ?_) | (apply gC; refine sC ?_) | (apply gD; refine sD ?_) | fail)
    exact E_round (k + 1) ⟨hkb, hal⟩ (by omega) ⟨rfl, trivial⟩ Sb
/-- the boxes among the first p positions -/
theorem possible_ct {a : AK} {A2 : Option Addr} {c2 : Nat} {t : List BX} (hv2 : rd eBX (.slice A2 t.length c2) t ∈ L) (ht : t.length ≤ 1000) :
    CT Try.prog 54 #[akV a, .slice A2 t.length c2] W0 L fun r L' => ∃ A3 c3, r = .slice A3 (choF a t).length c3 ∧ L' = rd eBX (.slice A3 (choF a t).length c3) ((choF a t).map Prod.snd) :: L := by
  refine CT.sub ?_ (sub_dup hv2)
  refine CT_enter Try.func54 rfl ?_; (simp only [Try.ntmps54, List.size_toArray, List.length_cons, List.length_nil, Nat.reduceAdd, Nat.reduceSub, Array.replicate_succ, Array.replicate_zero, List.push_toArray, List.append_toArray, List.nil_append, List.cons_append])
  repeat' (first | refine go ?_ | intro _ | (apply cG; first | refine cT ?_ | refine cF ?_ | refine cS (fun _ => ?_) fun _ => ?_) | (apply gW; refine sW ?_) | (apply gI; refine sI ?_) | (apply gE; refine sE ?_) | (apply gP; refine sP ?_) | (apply gC; refine sC ?_) | (apply gD; refine sD ?_) | fail)
  refine C_ownnil 32 eBX ?_
  refine C_loopS (κ := Nat × Option Addr × Nat) [false, false, false, false, false, true, true, true, true, true, true, true, true, true, true, true, true, true, true, true, true, true, true, true, true, true, true, true, true, true, false] (fun k => [(5, .slice k.2.1 (choN a t k.1).length k.2.2), (6, .int .i64 (k.1 : Int))]) (fun k => [(0, own 32 eBX (.slice k.2.1 (choN a t k.1).length k.2.2) ((choN a t k.1).map Prod.snd))]) (fun k => k.1 ≤ 4) (fun k => 4 - k.1) (0, none, 0) (Nat.zero_le _) ⟨rfl, rfl, trivial⟩ ?_
  rintro ⟨k, A4, c4⟩ u hk4'
  dsimp only at hk4'
  dsimp only
  ((try dsimp only); refine C_n ?_; (try simp only [Nat.reduceAdd, Nat.zero_add]))
  by_cases hk : k < 4
  rotate_left
  · obtain rfl : k = 4 := by omega
    rw [choN_4]
    repeat' (first | refine go ?_ | intro _ | (apply cG; first | refine cT ?_ | refine cF ?_ | refine cS (fun _ => ?_) fun _ => ?_) | (apply gW; refine sW ?_) | (apply gI; refine sI ?_) | (apply gE; refine sE ?_) | (apply gP; refine sP ?_) | (apply gC; refine sC ?_) | (apply gD; refine sD ?_) | fail)
    refine E_frz 0 ?_
    refine E_res1 (by rfl) (by rfl) ⟨A4, c4, rfl, rfl⟩ Sb
  have hq := choN_succ a t k
  have hcl := choN_len a t k
  obtain ⟨⟨b, e⟩, hbe⟩ : ∃ be, boxF a (k : Int) = be := ⟨_, rfl⟩
  rw [hbe] at hq
  dsimp only at hq
  have hml : ((choN a t k).map Prod.snd).length = (choN a t k).length := List.length_map _
  repeat' (first | refine go ?_ | intro _ | (apply cG; first | refine cT ?_ | refine cF ?_ | refine cS (fun _ => ?_) fun _ => ?_) | (apply gW; refine sW ?_) | (apply gI; refine sI ?_) | (apply gE; refine sE ?_) | (apply gP; refine sP ?_) | (apply gC; refine sC ?_) | (apply gD; refine sD ?_) | fail)
  refine O_d (dy_call ArgsI.pf (by first | exact rfl | trivial | (intro a b; rfl)) (rBox_ct (a := a) (p := (k : Int)))) ?_; rintro _ _ ⟨_, ⟨rfl, hLL⟩, rfl⟩; replace hLL := hLL.symm; subst hLL; refine O_n ?_
  rw [hbe]
  dsimp only
  by_cases he : e = 0
  rotate_left
  · rw [if_neg (fun h => he h.1), List.append_nil] at hq
    repeat' (first | refine go ?_ | intro _ | (apply cG; first | refine cT ?_ | refine cF ?_ | refine cS (fun _ => ?_) fun _ => ?_) | (apply gW; refine sW ?_) | (apply gI; refine sI ?_) | (apply gE; refine sE ?_) | (apply gP; refine sP ?_) | (apply gC; refine sC ?_) | (apply gD; refine sD ?_) | fail)
    exact E_round (k + 1, A4, c4) hk (by dsimp only; omega) ⟨by dsimp only; rw [hq]; rfl, rfl, trivial⟩ (by dsimp only; rw [hq]; exact Sb)
  repeat' (first | refine go ?_ | intro _ | (apply cG; first | refine cT ?_ | refine cF ?_ | refine cS (fun _ => ?_) fun _ => ?_) | (apply gW; refine sW ?_) | (apply gI; refine sI ?_) | (apply gE; refine sE ?_) | (apply gP; refine sP ?_) | (apply gC; refine sC ?_) | (apply gD; refine sD ?_) | fail)
  refine O_d (dy_call ArgsI.pf (by first | exact rfl | trivial | (intro a b; rfl)) (free_ct (b := b) (l := t) (by repeat (first | exact .head _ | refine .tail _ ?_)) (by omega))) ?_; rintro _ _ ⟨_, ⟨rfl, hLL⟩, rfl⟩; replace hLL := hLL.symm; subst hLL; refine O_n ?_
  by_cases hf : freeF b t = true
  rotate_left
  · rw [if_neg (fun h => hf h.2), List.append_nil] at hq
    rw [Bool.not_eq_true] at hf
    rw [hf]
    repeat' (first | refine go ?_ | intro _ | (apply cG; first | refine cT ?_ | refine cF ?_ | refine cS (fun _ => ?_) fun _ => ?_) | (apply gW; refine sW ?_) | (apply gI; refine sI ?_) | (apply gE; refine sE ?_) | (apply gP; refine sP ?_) | (apply gC; refine sC ?_) | (apply gD; refine sD ?_) | fail)
    exact E_round (k + 1, A4, c4) hk (by dsimp only; omega) ⟨by dsimp only; rw [hq]; rfl, rfl, trivial⟩ (by dsimp only; rw [hq]; exact Sb)
  rw [if_pos ⟨he, hf⟩] at hq
  rw [hf]
  repeat' (first | refine go ?_ | intro _ | (apply cG; first | refine cT ?_ | refine cF ?_ | refine cS (fun _ => ?_) fun _ => ?_) | (apply gW; refine sW ?_) | (apply gI; refine sI ?_) | (apply gE; refine sE ?_) | (apply gP; refine sP ?_) | (apply gC; refine sC ?_) | (apply gD; refine sD ?_) | fail)
  refine O_d (dy_lit1 (R := eBX) b (hcs := by rfl) (hel := fun _ _ _ => by rfl)) ?_; rintro _ _ ⟨_, rfl, rfl⟩; refine O_n ?_
  refine O_d (dy_append (N := (choN a t k).length + 1) (hN := by rw [List.length_map]; rfl)) ?_; rintro _ _ ⟨A5, c5, rfl, rfl⟩; refine O_n ?_
  repeat' (first | refine go ?_ | intro _ | (apply cG; first | refine cT ?_ | refine cF ?_ | refine cS (fun _ => ?_) fun _ => ?_) | (apply gW; refine sW ?_) | (apply gI; refine sI ?_) | (apply gE; refine sE ?_) | (apply gP; refine sP ?_) | (apply gC; refine sC ?_) | (apply gD; refine sD ?_) | fail)
  exact E_round (k + 1, A5, c5) hk (by dsimp only; omega) ⟨by dsimp only; rw [hq, List.length_append]; rfl, rfl, trivial⟩ (by dsimp only; rw [hq, List.length_append, List.map_append]; exact Sb)
theorem rexclude_ct {a a2 : AK} {A2 : Option Addr} {c2 : Nat} {t : List BX} (hv2 : rd eBX (.slice A2 t.length c2) t ∈ L) (ht : t.length ≤ 1000) :
    CT Try.prog 69 #[akV a, akV a2, .slice A2 t.length c2] W0 L fun r L' => r = .bool (exF (choF a t) (choF a2 t)) ∧ L' = L := by
  refine CT.sub ?_ (sub_dup hv2)
  refine CT_enter Try.func69 rfl ?_; (simp only [Try.ntmps69, List.size_toArray, List.length_cons, List.length_nil, Nat.reduceAdd, Nat.reduceSub, Array.replicate_succ, Array.replicate_zero, List.push_toArray, List.append_toArray, List.nil_append, List.cons_append])
  repeat' (first | refine go ?_ | intro _ | (apply cG; first | refine cT ?_ | refine cF ?_ | refine cS (fun _ => ?_) fun _ => ?_) | (apply gW; refine sW ?_) | (apply gI; refine sI ?_) | (apply gE; refine sE ?_) | (apply gP; refine sP ?_) | (apply gC; refine sC ?_) | (apply gD; refine sD ?_) | fail)
  refine O_d (dy_call ArgsI.pf (by first | exact rfl | trivial | (intro a b; rfl)) (possible_ct (a := a) (t := t) (by repeat (first | exact .head _ | refine .tail _ ?_)) ht)) ?_; rintro _ _ ⟨_, ⟨A, c, rfl, rfl⟩, rfl⟩; refine O_n ?_
  repeat' (first | refine go ?_ | intro _ | (apply cG; first | refine cT ?_ | refine cF ?_ | refine cS (fun _ => ?_) fun _ => ?_) | (apply gW; refine sW ?_) | (apply gI; refine sI ?_) | (apply gE; refine sE ?_) | (apply gP; refine sP ?_) | (apply gC; refine sC ?_) | (apply gD; refine sD ?_) | fail)
  refine O_d (dy_call ArgsI.pf (by first | exact rfl | trivial | (intro a b; rfl)) (possible_ct (a := a2) (t := t) (by repeat (first | exact .head _ | refine .tail _ ?_)) ht)) ?_; rintro _ _ ⟨_, ⟨B, d, rfl, rfl⟩, rfl⟩; refine O_n ?_
  obtain ⟨x1, hx1⟩ : ∃ x1, choF a t = x1 := ⟨_, rfl⟩
  obtain ⟨x2, hx2⟩ : ∃ x2, choF a2 t = x2 := ⟨_, rfl⟩
  have h1 := cho_len a t
  have h2 := cho_len a2 t
  rw [hx1] at h1 ⊢
  rw [hx2] at h2 ⊢
  have hm1 : (x1.map Prod.snd).length = x1.length := List.length_map _
  have hm2 : (x2.map Prod.snd).length = x2.length := List.length_map _
  obtain ⟨q1, hq1⟩ : ∃ q1, x1.map Prod.snd = q1 := ⟨_, rfl⟩
  obtain ⟨q2, hq2⟩ : ∃ q2, x2.map Prod.snd = q2 := ⟨_, rfl⟩
  have hex : exF x1 x2 = q1.all fun x => q2.all fun y => ovF x y := by
    rw [← hq1, ← hq2]
    unfold exF
    rw [List.all_map]
    congr 1
    funext x
    show _ = (x2.map Prod.snd).all _
    rw [List.all_map]
    rfl
  rw [hq1] at hm1 ⊢
  rw [hq2] at hm2 ⊢
  rw [hex, ← hm1, ← hm2]
  repeat' (first | refine go ?_ | intro _ | (apply cG; first | refine cT ?_ | refine cF ?_ | refine cS (fun _ => ?_) fun _ => ?_) | (apply gW; refine sW ?_) | (apply gI; refine sI ?_) | (apply gE; refine sE ?_) | (apply gP; refine sP ?_) | (apply gC; refine sC ?_) | (apply gD; refine sD ?_) | fail)
  refine C_loopS (κ := Nat) [false, false, false, false, false, false, true, false, false, true, true, false, false, false, false, false, false, true, true, true, true, true, true, true, true, true, true, true, true, true, true, true, true, true, true, true, true, true, true] (fun k => [(9, .int .i64 (k : Int))]) (fun k => []) (fun k => k ≤ q1.length ∧ ((q1.drop k).all fun x => q2.all fun y => ovF x y) = (q1.all fun x => q2.all fun y => ovF x y)) (fun k => q1.length - k) 0 ⟨Nat.zero_le _, rfl⟩ ⟨rfl, trivial⟩ ?_
  rintro i u ⟨hi, hex⟩
  ((try dsimp only); refine C_n ?_; (try simp only [Nat.reduceAdd, Nat.zero_add]))
  by_cases hia : i < q1.length
  rotate_left
  · obtain rfl : i = q1.length := by omega
    rw [List.drop_length] at hex
    replace hex : true = _ := hex
    rw [← hex]
    repeat' (first | refine go ?_ | intro _ | (apply cG; first | refine cT ?_ | refine cF ?_ | refine cS (fun _ => ?_) fun _ => ?_) | (apply gW; refine sW ?_) | (apply gI; refine sI ?_) | (apply gE; refine sE ?_) | (apply gP; refine sP ?_) | (apply gC; refine sC ?_) | (apply gD; refine sD ?_) | fail)
    refine E_res1 (by rfl) (by rfl) ⟨rfl, rfl⟩ Sb
  obtain ⟨x, hx⟩ : ∃ x, q1[i]? = some x := ⟨_, List.getElem?_eq_getElem hia⟩
  have hax : At q1 i x := ⟨hx⟩
  rw [all_drop hx] at hex
  repeat' (first | refine go ?_ | intro _ | (apply cG; first | refine cT ?_ | refine cF ?_ | refine cS (fun _ => ?_) fun _ => ?_) | (apply gW; refine sW ?_) | (apply gI; refine sI ?_) | (apply gE; refine sE ?_) | (apply gP; refine sP ?_) | (apply gC; refine sC ?_) | (apply gD; refine sD ?_) | fail)
  refine C_loopS (κ := Nat) [false, false, false, false, false, false, true, false, false, false, true, false, false, false, false, false, false, false, false, false, false, false, false, true, true, true, true, true, true, true, true, true, true, true, true, true, true, true, true] (fun k => [(10, .int .i64 (k : Int))]) (fun k => []) (fun k => k ≤ q2.length ∧ ((q2.drop k).all fun y => ovF x y) = (q2.all fun y => ovF x y)) (fun k => q2.length - k) 0 ⟨Nat.zero_le _, rfl⟩ ⟨rfl, trivial⟩ ?_
  rintro k u2 ⟨hk, hal⟩
  ((try dsimp only); refine C_n ?_; (try simp only [Nat.reduceAdd, Nat.zero_add]))
  by_cases hkb : k < q2.length
  rotate_left
  · obtain rfl : k = q2.length := by omega
    rw [List.drop_length] at hal
    replace hal : true = (q2.all fun y => ovF x y) := hal
    rw [← hal, Bool.true_and] at hex
    repeat' (first | refine go ?_ | intro _ | (apply cG; first | refine cT ?_ | refine cF ?_ | refine cS (fun _ => ?_) fun _ => ?_) | (apply gW; refine sW ?_) | (apply gI; refine sI ?_) | (apply gE; refine sE ?_) | (apply gP; refine sP ?_) | (apply gC; refine sC ?_) | (apply gD; refine sD ?_) | fail)
    exact E_round (i + 1) ⟨hia, hex⟩ (by omega) ⟨rfl, trivial⟩ Sb
  obtain ⟨y, hy⟩ : ∃ y, q2[k]? = some y := ⟨_, List.getElem?_eq_getElem hkb⟩
  have hay : At q2 k y := ⟨hy⟩
  rw [all_drop hy] at hal
  repeat' (first | refine go ?_ | intro _ | (apply cG; first | refine cT ?_ | refine cF ?_ | refine cS (fun _ => ?_) fun _ => ?_) | (apply gW; refine sW ?_) | (apply gI; refine sI ?_) | (apply gE; refine sE ?_) | (apply gP; refine sP ?_) | (apply gC; refine sC ?_) | (apply gD; refine sD ?_) | fail)
  refine C_draw (n := 99) [rd eBX (.slice A q1.length c) q1, rd eBX (.slice B q2.length d) q2] [(0, 1), (1, 1), (2, 1), (3, 1), (4, 1), (5, 1), (6, 1), (7, 1), (8, 0), (9, 1)] (by kernel_rfl) (by kernel_rfl) Sb ?_
  repeat' (first | refine go ?_ | intro _ | (apply cG; first | refine cT ?_ | refine cF ?_ | refine cS (fun _ => ?_) fun _ => ?_) | (apply gW; refine sW ?_) | (apply gI; refine sI ?_) | (apply gE; refine sE ?_) | (apply gP; refine sP ?_) | (apply gC; refine sC ?_) | (apply gD; refine sD ?_) | fail)
  refine D_op rfl ?_; refine X_d (dy_call ArgsI.pf (by first | exact rfl | trivial | (intro a b; rfl)) (Overlap_ct (a := x) (c := y))) ?_; rintro _ _ ⟨_, ⟨rfl, hLL⟩, rfl⟩; replace hLL := hLL.symm; subst hLL; refine ⟨(by first | exact .inl rfl | exact .inr Sb), D_n ?_⟩
  cases hov : ovF x y
  · rw [hov] at hal
    replace hal : false = (q2.all fun y => ovF x y) := hal
    rw [← hal, Bool.false_and] at hex
    rw [← hex]
    repeat' (first | refine go ?_ | intro _ | (apply cG; first | refine cT ?_ | refine cF ?_ | refine cS (fun _ => ?_) fun _ => ?_) | (apply gW; refine sW ?_) | (apply gI; refine sI ?_) | (apply gE; refine sE ?_) | (apply gP; refine sP ?_) | (apply gC; refine sC ?_) | (apply gD; refine sD ?_) | fail)
    refine E_res1 (by rfl) (by rfl) ⟨rfl, rfl⟩ Sb
  · rw [hov, Bool.true_and] at hal
    repeat' (first | refine go ?_ | intro _ | (apply cG; first | refine cT ?_ | refine cF ?_ | refine cS (fun _ => ?_) fun _ => ?_) | (apply gW; refine sW ?_) | (apply gI; refine sI ?_) | (apply gE; refine sE ?_) | (apply gP; refine sP ?_) | (apply gC; refine sC ?_) | (apply gD; refine sD ?_) | fail)
    exact E_round (k + 1) ⟨hkb, hal⟩ (by omega) ⟨rfl, trivial⟩ Sb
theorem fits_ct {A A2 A3 : Option Addr} {c c2 c3 n : Nat} {l : List AK} {t : List BX} {s : List Int} (hv : rd eAK (.slice A l.length c) l ∈ L) (hv2 : rd eBX (.slice A2 t.length c2) t ∈ L) (hv3 : Src L eI (.slice A3 s.length c3) s) (ht : t.length ≤ 1000) (hn : n < l.length) (hs : ∀ m ∈ s, 0 ≤ m ∧ m < l.length) (hsl : s.length ≤ 1000000000) :
    CT Try.prog 55 #[.slice A l.length c, .slice A2 t.length c2, .int .i64 (n : Int), .slice A3 s.length c3] W0 L fun r L' => r = .bool (fitF l t n s) ∧ L' = L := by
  obtain ⟨a, ha⟩ : ∃ a, l[n]? = some a := ⟨_, List.getElem?_eq_getElem hn⟩
  have haa : At l n a := ⟨ha⟩
  have hsc : ScA A3 L s.length c3 eI s := ⟨hv3⟩
  have hsd : Sc L (.slice A3 s.length c3) eI s := ⟨hv3⟩
  have hpa := posI_at (t := t) ha
  refine CT.sub ?_ (sub_dup hv2)
  refine CT.sub ?_ (sub_dup (.tail _ hv))
  refine CT_enter Try.func55 rfl ?_; (simp only [Try.ntmps55, List.size_toArray, List.length_cons, List.length_nil, Nat.reduceAdd, Nat.reduceSub, Array.replicate_succ, Array.replicate_zero, List.push_toArray, List.append_toArray, List.nil_append, List.cons_append])
  repeat' (first | refine go ?_ | intro _ | (apply cG; first | refine cT ?_ | refine cF ?_ | refine cS (fun _ => ?_) fun _ => ?_) | (apply gW; refine sW ?_) | (apply gI; refine sI ?_) | (apply gE; refine sE ?_) | (apply gP; refine sP ?_) | (apply gC; refine sC ?_) | (apply gD; refine sD ?_) | fail)
  refine C_loopS (κ := Nat) [false, false, false, false, false, false, false, false, true, true, true, true, true, true, true, true, true, true, true, true, true, true, true, true, true, true, true, true, true, true] (fun k => [(9, .int .i64 (k : Int))]) (fun k => []) (fun k => k ≤ s.length ∧ fitF l t n (s.drop k) = fitF l t n s) (fun k => s.length - k) 0 ⟨Nat.zero_le _, rfl⟩ ⟨rfl, trivial⟩ ?_
  rintro i u ⟨hi, hex⟩
  ((try dsimp only); refine C_n ?_; (try simp only [Nat.reduceAdd, Nat.zero_add]))
  by_cases his : i < s.length
  rotate_left
  · obtain rfl : i = s.length := by omega
    rw [List.drop_length] at hex
    replace hex : true = fitF l t n s := hex
    rw [← hex]
    repeat' (first | refine go ?_ | intro _ | (apply cG; first | refine cT ?_ | refine cF ?_ | refine cS (fun _ => ?_) fun _ => ?_) | (apply gW; refine sW ?_) | (apply gI; refine sI ?_) | (apply gE; refine sE ?_) | (apply gP; refine sP ?_) | (apply gC; refine sC ?_) | (apply gD; refine sD ?_) | fail)
    refine E_res1 (by rfl) (by rfl) ⟨rfl, rfl⟩ Sb
  obtain ⟨z, hz⟩ : ∃ z, s[i]? = some z := ⟨_, List.getElem?_eq_getElem his⟩
  have hzr := hs z (List.mem_of_getElem? hz)
  obtain ⟨m, rfl⟩ : ∃ m : Nat, z = (m : Int) := ⟨z.toNat, by omega⟩
  have haz : At s i (m : Int) := ⟨hz⟩
  obtain ⟨a2, ha2⟩ : ∃ a2, l[m]? = some a2 := ⟨_, List.getElem?_eq_getElem (by omega)⟩
  have haa2 : At l m a2 := ⟨ha2⟩
  have hpa2 := posI_at (t := t) ha2
  have hex2 : fitF l t n (s.drop i) = (exF (posI l t n) (posI l t m) && fitF l t n (s.drop (i + 1))) := all_drop hz
  rw [hex2, hpa, hpa2] at hex
  repeat' (first | refine go ?_ | intro _ | (apply cG; first | refine cT ?_ | refine cF ?_ | refine cS (fun _ => ?_) fun _ => ?_) | (apply gW; refine sW ?_) | (apply gI; refine sI ?_) | (apply gE; refine sE ?_) | (apply gP; refine sP ?_) | (apply gC; refine sC ?_) | (apply gD; refine sD ?_) | fail)
  refine C_draw (n := 99) (rd eAK (.slice A l.length c) l :: rd eBX (.slice A2 t.length c2) t :: L) [(0, 1), (1, 1), (2, 1), (3, 1), (4, 1), (5, 1), (6, 1), (7, 1), (8, 1), (9, 1), (10, 1), (11, 1), (12, 0), (13, 1)] (by kernel_rfl) (by kernel_rfl) (Sub.refl _) ?_
  repeat' (first | refine go ?_ | intro _ | (apply cG; first | refine cT ?_ | refine cF ?_ | refine cS (fun _ => ?_) fun _ => ?_) | (apply gW; refine sW ?_) | (apply gI; refine sI ?_) | (apply gE; refine sE ?_) | (apply gP; refine sP ?_) | (apply gC; refine sC ?_) | (apply gD; refine sD ?_) | fail)
  refine D_op rfl ?_; refine X_d (dy_call ArgsI.pf (by first | exact rfl | trivial | (intro a b; rfl)) (rexclude_ct (a := a) (a2 := a2) (t := t) (by repeat (first | exact .head _ | refine .tail _ ?_)) ht)) ?_; rintro _ _ ⟨_, ⟨rfl, hLL⟩, rfl⟩; replace hLL := hLL.symm; subst hLL; refine ⟨(by first | exact .inl rfl | exact .inr Sb), D_n ?_⟩
  cases hov : exF (choF a t) (choF a2 t)
  · rw [hov, Bool.false_and] at hex
    rw [← hex]
    repeat' (first | refine go ?_ | intro _ | (apply cG; first | refine cT ?_ | refine cF ?_ | refine cS (fun _ => ?_) fun _ => ?_) | (apply gW; refine sW ?_) | (apply gI; refine sI ?_) | (apply gE; refine sE ?_) | (apply gP; refine sP ?_) | (apply gC; refine sC ?_) | (apply gD; refine sD ?_) | fail)
    refine E_res1 (by rfl) (by rfl) ⟨rfl, rfl⟩ Sb
  · rw [hov, Bool.true_and] at hex
    repeat' (first | refine go ?_ | intro _ | (apply cG; first | refine cT ?_ | refine cF ?_ | refine cS (fun _ => ?_) fun _ => ?_) | (apply gW; refine sW ?_) | (apply gI; refine sI ?_) | (apply gE; refine sE ?_) | (apply gP; refine sP ?_) | (apply gC; refine sC ?_) | (apply gD; refine sD ?_) | fail)
    exact E_round (i + 1) ⟨his, hex⟩ (by omega) ⟨rfl, trivial⟩ Sb
theorem mxF_bound {l : List AK} (hg : ∀ a ∈ l, a.good) : ∀ (s : List Int) (z : Int), 0 ≤ z → z ≤ 1048576 → 0 ≤ s.foldl (fun m n => max m (wtI l n)) z ∧ s.foldl (fun m n => max m (wtI l n)) z ≤ 1048576
  | [], z, h0, h1 => ⟨h0, h1⟩
  | n :: s, z, h0, h1 => by
    rw [List.foldl_cons]
    have hw : wtI l n ≤ 1048576 := by
      unfold wtI
      split
      · rename_i a ha
        exact (hg a (List.mem_of_getElem? ha)).2.2.2.2.2
      · decide
    exact mxF_bound hg s _ (by omega) (by omega)
theorem total_ct {A A2 : Option Addr} {c c2 : Nat} {l : List AK} {sets : List (List Int)} (hv : rd eAK (.slice A l.length c) l ∈ L) (hv2 : rd (eSl eI) (.slice A2 sets.length c2) sets ∈ L) (hl : sets.length ≤ 1000000) (hg : ∀ a ∈ l, a.good) (hs : ∀ s ∈ sets, s.length ≤ 1000000000 ∧ ∀ m ∈ s, 0 ≤ m ∧ m < l.length) :
    CT Try.prog 52 #[.slice A l.length c, .slice A2 sets.length c2] W0 L fun r L' => r = .int .i64 (sumF25 l sets) ∧ L' = L := by
  refine CT_openX hv2 fun xs hxs => ?_
  refine CT.sub ?_ (sub_dup (.tail _ hv))
  have hxl : xs.length = sets.length := by rw [← hxs, List.length_map]
  have hxb : ∀ x ∈ xs, x.b.length ≤ 1000000000 ∧ ∀ m ∈ x.b, 0 ≤ m ∧ m < l.length := fun x hx => hs x.b (by rw [← hxs]; exact List.mem_map.2 ⟨x, hx, rfl⟩)
  have hsum : sumF25 l sets = xs.foldl (fun z x => z + mxF l x.b) 0 := by
    rw [← hxs]
    unfold sumF25
    rw [List.foldl_map]
  rw [hsum, ← hxl]
  clear hsum hxs
  rw [← hxl] at hl
  refine CT_enter Try.func52 rfl ?_; (simp only [Try.ntmps52, List.size_toArray, List.length_cons, List.length_nil, Nat.reduceAdd, Nat.reduceSub, Array.replicate_succ, Array.replicate_zero, List.push_toArray, List.append_toArray, List.nil_append, List.cons_append])
  repeat' (first | refine go ?_ | intro _ | (apply cG; first | refine cT ?_ | refine cF ?_ | refine cS (fun _ => ?_) fun _ => ?_) | (apply gW; refine sW ?_) | (apply gI; refine sI ?_) | (apply gE; refine sE ?_) | (apply gP; refine sP ?_) | (apply gC; refine sC ?_) | (apply gD; refine sD ?_) | fail)
  refine C_loopS (κ := Nat × Int) [false, false, false, false, false, true, false, true, true, false, true, false, false, true, true, true, true, true, true, true, true, true, true, true, true, true, true, true, true, true, true, true, true, true, true, false] (fun k => [(5, .int .i64 k.2), (13, .int .i64 (k.1 : Int))]) (fun k => []) (fun k => k.1 ≤ xs.length ∧ (xs.drop k.1).foldl (fun z x => z + mxF l x.b) k.2 = xs.foldl (fun z x => z + mxF l x.b) 0 ∧ 0 ≤ k.2 ∧ k.2 ≤ k.1 * 1048576) (fun k => xs.length - k.1) (0, 0) ⟨Nat.zero_le _, rfl, Int.le_refl _, by decide⟩ ⟨rfl, rfl, trivial⟩ ?_
  rintro ⟨i, z⟩ u ⟨hi, hfo, hz0, hz1⟩
  dsimp only at hi hfo hz0 hz1
  dsimp only
  ((try dsimp only); refine C_n ?_; (try simp only [Nat.reduceAdd, Nat.zero_add]))
  by_cases hix : i < xs.length
  rotate_left
  · obtain rfl : i = xs.length := by omega
    rw [List.drop_length] at hfo
    replace hfo : z = _ := hfo
    rw [← hfo]
    repeat' (first | refine go ?_ | intro _ | (apply cG; first | refine cT ?_ | refine cF ?_ | refine cS (fun _ => ?_) fun _ => ?_) | (apply gW; refine sW ?_) | (apply gI; refine sI ?_) | (apply gE; refine sE ?_) | (apply gP; refine sP ?_) | (apply gC; refine sC ?_) | (apply gD; refine sD ?_) | fail)
    refine E_res1 (by rfl) (by rfl) ⟨rfl, rfl⟩ Sb
  obtain ⟨x, hx⟩ : ∃ x, xs[i]? = some x := ⟨_, List.getElem?_eq_getElem hix⟩
  have hax : At xs i x := ⟨hx⟩
  have hxm := hxb x (List.mem_of_getElem? hx)
  rw [List.drop_eq_getElem_cons hix, (List.getElem?_eq_some_iff.1 hx).2, List.foldl_cons] at hfo
  refine C_sub (sub_peekX (v := .slice A2 xs.length c2) (l := xs) (R := eI) (by repeat (first | exact .head _ | refine .tail _ ?_)) hx) ?_
  refine C_form (.head _) fun Ax cx hxv => ?_
  have hec : EncC (eSX eI) x [.slice Ax x.b.length cx] := ⟨fun m cs h => by rw [h.1, hxv]⟩
  rw [hxv]
  repeat' (first | refine go ?_ | intro _ | (apply cG; first | refine cT ?_ | refine cF ?_ | refine cS (fun _ => ?_) fun _ => ?_) | (apply gW; refine sW ?_) | (apply gI; refine sI ?_) | (apply gE; refine sE ?_) | (apply gP; refine sP ?_) | (apply gC; refine sC ?_) | (apply gD; refine sD ?_) | fail)
  refine C_loopS (κ := Nat × Int) [false, false, false, false, false, false, false, false, true, false, true, false, false, false, false, false, false, false, false, true, true, true, true, true, true, true, true, true, true, true, true, false, false, false, false, false] (fun k => [(8, .int .i64 k.2), (19, .int .i64 (k.1 : Int))]) (fun k => []) (fun k => k.1 ≤ x.b.length ∧ (x.b.drop k.1).foldl (fun m n => max m (wtI l n)) k.2 = mxF l x.b ∧ 0 ≤ k.2 ∧ k.2 ≤ 1048576) (fun k => x.b.length - k.1) (0, 0) ⟨Nat.zero_le _, rfl, Int.le_refl _, by decide⟩ ⟨rfl, rfl, trivial⟩ ?_
  rintro ⟨k, y⟩ u2 ⟨hk, hfm, hy0, hy1⟩
  dsimp only at hk hfm hy0 hy1
  dsimp only
  ((try dsimp only); refine C_n ?_; (try simp only [Nat.reduceAdd, Nat.zero_add]))
  by_cases hkx : k < x.b.length
  rotate_left
  · obtain rfl : k = x.b.length := by omega
    rw [List.drop_length] at hfm
    replace hfm : y = mxF l x.b := hfm
    repeat' (first | refine go ?_ | intro _ | (apply cG; first | refine cT ?_ | refine cF ?_ | refine cS (fun _ => ?_) fun _ => ?_) | (apply gW; refine sW ?_) | (apply gI; refine sI ?_) | (apply gE; refine sE ?_) | (apply gP; refine sP ?_) | (apply gC; refine sC ?_) | (apply gD; refine sD ?_) | fail)
    exact E_round (i + 1, z + y) ⟨hix, by dsimp only; rw [hfm]; exact hfo, by dsimp only; omega, by dsimp only; omega⟩ (by dsimp only; omega) ⟨rfl, rfl, trivial⟩ Sb
  obtain ⟨n, hn⟩ : ∃ n, x.b[k]? = some n := ⟨_, List.getElem?_eq_getElem hkx⟩
  have hnr := hxm.2 n (List.mem_of_getElem? hn)
  obtain ⟨m, rfl⟩ : ∃ m : Nat, n = (m : Int) := ⟨n.toNat, by omega⟩
  have han : At x.b k (m : Int) := ⟨hn⟩
  obtain ⟨a, ha⟩ : ∃ a, l[m]? = some a := ⟨_, List.getElem?_eq_getElem (by omega)⟩
  have haa : At l m a := ⟨ha⟩
  have hag := (hg a (List.mem_of_getElem? ha)).2.2.2.2
  rw [List.drop_eq_getElem_cons hkx, (List.getElem?_eq_some_iff.1 hn).2, List.foldl_cons, wtI_at ha] at hfm
  obtain ⟨y2, hy2⟩ : ∃ y2, max y a.g = y2 := ⟨_, rfl⟩
  rw [hy2] at hfm
  repeat' (first | refine go ?_ | intro _ | (apply cG; first | refine cT ?_ | refine cF ?_ | refine cS (fun _ => ?_) fun _ => ?_) | (apply gI; refine sI ?_) | (apply gE; refine sE ?_) | (apply gP; refine sP ?_) | (apply gC; refine sC ?_) | (apply gD; refine sD ?_) | fail)
  apply gW; refine sW (r := y2) ?_ (by rw [← hy2]; split <;> omega)
  repeat' (first | refine go ?_ | intro _ | (apply cG; first | refine cT ?_ | refine cF ?_ | refine cS (fun _ => ?_) fun _ => ?_) | (apply gW; refine sW ?_) | (apply gI; refine sI ?_) | (apply gE; refine sE ?_) | (apply gP; refine sP ?_) | (apply gC; refine sC ?_) | (apply gD; refine sD ?_) | fail)
  exact E_round (k + 1, y2) ⟨hkx, hfm, by dsimp only; omega, by dsimp only; omega⟩ (by dsimp only; omega) ⟨rfl, rfl, trivial⟩ Sb
theorem rsum_ct {A A2 : Option Addr} {c c2 : Nat} {l : List AK} {sets : List (List Int)} (hv : rd eAK (.slice A l.length c) l ∈ L) (hv2 : rd (eSl eI) (.slice A2 sets.length c2) sets ∈ L) (hl : sets.length ≤ 1000000) (hg : ∀ a ∈ l, a.good) (hs : ∀ s ∈ sets, s.length ≤ 1000000000 ∧ ∀ m ∈ s, 0 ≤ m ∧ m < l.length) :
    CT Try.prog 56 #[.slice A l.length c, .slice A2 sets.length c2] W0 L fun r L' => r = .int .i64 (sumF25 l sets) ∧ L' = L := by
  refine CT_openX hv2 fun xs hxs => ?_
  refine CT.sub ?_ (sub_dup (.tail _ hv))
  have hxl : xs.length = sets.length := by rw [← hxs, List.length_map]
  have hxb : ∀ x ∈ xs, x.b.length ≤ 1000000000 ∧ ∀ m ∈ x.b, 0 ≤ m ∧ m < l.length := fun x hx => hs x.b (by rw [← hxs]; exact List.mem_map.2 ⟨x, hx, rfl⟩)
  have hsum : sumF25 l sets = xs.foldl (fun z x => z + mxF l x.b) 0 := by
    rw [← hxs]
    unfold sumF25
    rw [List.foldl_map]
  rw [hsum, ← hxl]
  clear hsum hxs
  rw [← hxl] at hl
  refine CT_enter Try.func56 rfl ?_; (simp only [Try.ntmps56, List.size_toArray, List.length_cons, List.length_nil, Nat.reduceAdd, Nat.reduceSub, Array.replicate_succ, Array.replicate_zero, List.push_toArray, List.append_toArray, List.nil_append, List.cons_append])
  repeat' (first | refine go ?_ | intro _ | (apply cG; first | refine cT ?_ | refine cF ?_ | refine cS (fun _ => ?_) fun _ => ?_) | (apply gW; refine sW ?_) | (apply gI; refine sI ?_) | (apply gE; refine sE ?_) | (apply gP; refine sP ?_) | (apply gC; refine sC ?_) | (apply gD; refine sD ?_) | fail)
  refine C_loopS (κ := Nat × Int) [false, false, false, false, false, true, true, true, true, true, true, true, true, true, true, true, true, true, true, true, true, true, true, true, true, true, true, true, true, true, true, true, true, true, true, true, true, true, true, true, false] (fun k => [(5, .int .i64 k.2), (6, .int .i64 (k.1 : Int))]) (fun k => []) (fun k => k.1 ≤ xs.length ∧ (xs.drop k.1).foldl (fun z x => z + mxF l x.b) k.2 = xs.foldl (fun z x => z + mxF l x.b) 0 ∧ 0 ≤ k.2 ∧ k.2 ≤ k.1 * 1048576) (fun k => xs.length - k.1) (0, 0) ⟨Nat.zero_le _, rfl, Int.le_refl _, by decide⟩ ⟨rfl, rfl, trivial⟩ ?_
  rintro ⟨i, z⟩ u ⟨hi, hfo, hz0, hz1⟩
  dsimp only at hi hfo hz0 hz1
  dsimp only
  ((try dsimp only); refine C_n ?_; (try simp only [Nat.reduceAdd, Nat.zero_add]))
  by_cases hix : i < xs.length
  rotate_left
  · obtain rfl : i = xs.length := by omega
    rw [List.drop_length] at hfo
    replace hfo : z = _ := hfo
    rw [← hfo]
    repeat' (first | refine go ?_ | intro _ | (apply cG; first | refine cT ?_ | refine cF ?_ | refine cS (fun _ => ?_) fun _ => ?_) | (apply gW; refine sW ?_) | (apply gI; refine sI ?_) | (apply gE; refine sE ?_) | (apply gP; refine sP ?_) | (apply gC; refine sC ?_) | (apply gD; refine sD ?_) | fail)
    refine E_res1 (by rfl) (by rfl) ⟨rfl, rfl⟩ Sb
  obtain ⟨x, hx⟩ : ∃ x, xs[i]? = some x := ⟨_, List.getElem?_eq_getElem hix⟩
  have hax : At xs i x := ⟨hx⟩
  have hxm := hxb x (List.mem_of_getElem? hx)
  rw [List.drop_eq_getElem_cons hix, (List.getElem?_eq_some_iff.1 hx).2, List.foldl_cons] at hfo
  refine C_sub (sub_peekX (v := .slice A2 xs.length c2) (l := xs) (R := eI) (by repeat (first | exact .head _ | refine .tail _ ?_)) hx) ?_
  refine C_form (.head _) fun Ax cx hxv => ?_
  have hec : EncC (eSX eI) x [.slice Ax x.b.length cx] := ⟨fun m cs h => by rw [h.1, hxv]⟩
  rw [hxv]
  repeat' (first | refine go ?_ | intro _ | (apply cG; first | refine cT ?_ | refine cF ?_ | refine cS (fun _ => ?_) fun _ => ?_) | (apply gW; refine sW ?_) | (apply gI; refine sI ?_) | (apply gE; refine sE ?_) | (apply gP; refine sP ?_) | (apply gC; refine sC ?_) | (apply gD; refine sD ?_) | fail)
  refine C_loopS (κ := Nat × Int) [false, false, false, false, false, false, false, true, true, false, false, false, false, false, false, true, true, true, true, true, true, true, true, true, true, true, true, true, true, true, true, true, true, true, true, true, true, false, false, false, false] (fun k => [(7, .int .i64 k.2), (8, .int .i64 (k.1 : Int))]) (fun k => []) (fun k => k.1 ≤ x.b.length ∧ (x.b.drop k.1).foldl (fun m n => max m (wtI l n)) k.2 = mxF l x.b ∧ 0 ≤ k.2 ∧ k.2 ≤ 1048576) (fun k => x.b.length - k.1) (0, 0) ⟨Nat.zero_le _, rfl, Int.le_refl _, by decide⟩ ⟨rfl, rfl, trivial⟩ ?_
  rintro ⟨k, y⟩ u2 ⟨hk, hfm, hy0, hy1⟩
  dsimp only at hk hfm hy0 hy1
  dsimp only
  ((try dsimp only); refine C_n ?_; (try simp only [Nat.reduceAdd, Nat.zero_add]))
  by_cases hkx : k < x.b.length
  rotate_left
  · obtain rfl : k = x.b.length := by omega
    rw [List.drop_length] at hfm
    replace hfm : y = mxF l x.b := hfm
    repeat' (first | refine go ?_ | intro _ | (apply cG; first | refine cT ?_ | refine cF ?_ | refine cS (fun _ => ?_) fun _ => ?_) | (apply gW; refine sW ?_) | (apply gI; refine sI ?_) | (apply gE; refine sE ?_) | (apply gP; refine sP ?_) | (apply gC; refine sC ?_) | (apply gD; refine sD ?_) | fail)
    exact E_round (i + 1, z + y) ⟨hix, by dsimp only; rw [hfm]; exact hfo, by dsimp only; omega, by dsimp only; omega⟩ (by dsimp only; omega) ⟨rfl, rfl, trivial⟩ Sb
  obtain ⟨n, hn⟩ : ∃ n, x.b[k]? = some n := ⟨_, List.getElem?_eq_getElem hkx⟩
  have hnr := hxm.2 n (List.mem_of_getElem? hn)
  obtain ⟨m, rfl⟩ : ∃ m : Nat, n = (m : Int) := ⟨n.toNat, by omega⟩
  have han : At x.b k (m : Int) := ⟨hn⟩
  obtain ⟨a, ha⟩ : ∃ a, l[m]? = some a := ⟨_, List.getElem?_eq_getElem (by omega)⟩
  have haa : At l m a := ⟨ha⟩
  have hag := (hg a (List.mem_of_getElem? ha)).2.2.2.2
  rw [List.drop_eq_getElem_cons hkx, (List.getElem?_eq_some_iff.1 hn).2, List.foldl_cons, wtI_at ha] at hfm
  obtain ⟨y2, hy2⟩ : ∃ y2, max y a.g = y2 := ⟨_, rfl⟩
  rw [hy2] at hfm
  repeat' (first | refine go ?_ | intro _ | (apply cG; first | refine cT ?_ | refine cF ?_ | refine cS (fun _ => ?_) fun _ => ?_) | (apply gI; refine sI ?_) | (apply gE; refine sE ?_) | (apply gP; refine sP ?_) | (apply gC; refine sC ?_) | (apply gD; refine sD ?_) | fail)
  apply gW; refine sW (r := y2) ?_ (by rw [← hy2]; split <;> omega)
  repeat' (first | refine go ?_ | intro _ | (apply cG; first | refine cT ?_ | refine cF ?_ | refine cS (fun _ => ?_) fun _ => ?_) | (apply gW; refine sW ?_) | (apply gI; refine sI ?_) | (apply gE; refine sE ?_) | (apply gP; refine sP ?_) | (apply gC; refine sC ?_) | (apply gD; refine sD ?_) | fail)
  exact E_round (k + 1, y2) ⟨hkx, hfm, by dsimp only; omega, by dsimp only; omega⟩ (by dsimp only; omega) ⟨rfl, rfl, trivial⟩ Sb
end
end Go.Proofs.Yteeapkfakehocaa
