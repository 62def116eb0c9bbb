/-
  Walks: the reference's Bound.
-/
import Derived.Test.YteeapkfakehocaaMZA
namespace Go.Proofs.Yteeapkfakehocaa
open Go Go.RowKit
set_option linter.unusedVariables false
set_option linter.unusedSimpArgs false
set_option maxRecDepth 20000
set_option synthInstance.maxSize 100000
set_option synthInstance.maxHeartbeats 400000
section
variable {W0 : World} {L : List HP}
set_option maxHeartbeats 2000000 in
theorem rBound_ct {A A2 : Option Addr} {c c2 : Nat} {l : List AK} {t : List BX} (hv : rd eAK (.slice A l.length c) l ∈ L) (hv2 : rd eBX (.slice A2 t.length c2) t ∈ L) (hc : checkF l t = 0) :
    CT Try.prog 29 #[.slice A l.length c, .slice A2 t.length c2] W0 L fun r L' => ∃ A3 c3, r = .tuple #[.int .i64 (sumF25 l (setsF l t)), .slice A3 (setsF l t).length c3, .int .i64 0] ∧ L' = rd (eSl eI) (.slice A3 (setsF l t).length c3) (setsF l t) :: L := by
  obtain ⟨hl64, ht256, hg, _⟩ := checkF_0 hc
  refine CT.sub ?_ (sub_dup hv2)
  refine CT.sub ?_ (sub_dup (.tail _ hv))
  refine CT_enter Try.func29 rfl ?_; (simp only [Try.ntmps29, List.size_toArray, List.length_cons, List.length_nil, Nat.reduceAdd, Nat.reduceSub, Array.replicate_succ, Array.replicate_zero, List.push_toArray, List.append_toArray, List.nil_append, List.cons_append])
  repeat' (first | refine go ?_ | intro _ | (apply cG; first | refine cT ?_ | refine cF ?_ | refine cS (fun _ => ?_) fun _ => ?_) | (apply gW; refine sW ?_) | (apply gI; refine sI ?_) | (apply gE; refine sE ?_) | (apply gP; refine sP ?_) | (apply gC; refine sC ?_) | (apply gD; refine sD ?_) | fail)
  refine O_d (dy_call ArgsI.pf (by first | exact rfl | trivial | (intro a b; rfl)) (rValid_ct (l := l) (t := t) (by repeat (first | exact .head _ | refine .tail _ ?_)) (by repeat (first | exact .head _ | refine .tail _ ?_)))) ?_; rintro _ _ ⟨_, ⟨rfl, hLL⟩, rfl⟩; replace hLL := hLL.symm; subst hLL; refine O_n ?_
  rw [hc]
  repeat' (first | refine go ?_ | intro _ | (apply cG; first | refine cT ?_ | refine cF ?_ | refine cS (fun _ => ?_) fun _ => ?_) | (apply gW; refine sW ?_) | (apply gI; refine sI ?_) | (apply gE; refine sE ?_) | (apply gP; refine sP ?_) | (apply gC; refine sC ?_) | (apply gD; refine sD ?_) | fail)
  refine C_sub (sub_rows0 (E := 3) (R := eI)) ?_
  refine C_ownnil 22 eSV ?_
  refine C_loopS (κ := Nat × List SlV × Option Addr × Nat) [false, false, false, false, false, false, false, false, true, true, true, false, false, false, false, false, false, true, true, true, true, true, true, true, true, true, true, true, true, true, true, true, true, true, true, true, true, true, true, true, true, true, true, true, true, true, true, true, true, true, true, true, true, true, true, true, true, true, true, true, true, true, true, true, true, true, true, false, false, false, false] (fun k => [(8, .slice k.2.2.1 k.2.1.length k.2.2.2), (9, .int .i64 (k.1 : Int))]) (fun k => [(0, own 22 eSV (.slice k.2.2.1 k.2.1.length k.2.2.2) k.2.1), (1, rows 3 eI k.2.1 (setsN l t k.1))]) (fun k => k.1 ≤ l.length ∧ k.2.1.length = (setsN l t k.1).length) (fun k => l.length - k.1) (0, [], none, 0) ⟨Nat.zero_le _, rfl⟩ ⟨rfl, rfl, trivial⟩ ?_
  rintro ⟨n, vs, A9, c9⟩ u ⟨hn, hvs⟩
  dsimp only at hn hvs
  dsimp only
  ((try dsimp only); refine C_n ?_; (try simp only [Nat.reduceAdd, Nat.zero_add]))
  by_cases hnl : n < l.length
  rotate_left
  · obtain rfl : n = l.length := by omega
    have hsl : setsN l t l.length = setsF l t := rfl
    obtain ⟨hso1, hso2⟩ := setsN_ok l t l.length
    rw [hsl] at hvs hso1 hso2 ⊢
    refine C_sub (sub_perm (List.Perm.swap _ _ _)) ?_
    refine C_frzRows hvs ?_
    refine C_sub sub_faOwn ?_
    refine C_frz 0 ?_
    rw [hvs]
    repeat' (first | refine go ?_ | intro _ | (apply cG; first | refine cT ?_ | refine cF ?_ | refine cS (fun _ => ?_) fun _ => ?_) | (apply gW; refine sW ?_) | (apply gI; refine sI ?_) | (apply gE; refine sE ?_) | (apply gP; refine sP ?_) | (apply gC; refine sC ?_) | (apply gD; refine sD ?_) | fail)
    refine O_d (dy_call ArgsI.pf (by first | exact rfl | trivial | (intro a b; rfl)) (rsum_ct (l := l) (sets := setsF l t) (by repeat (first | exact .head _ | refine .tail _ ?_)) (by repeat (first | exact .head _ | refine .tail _ ?_)) (by omega) hg (fun s hs => ⟨by have := (hso2 s hs).1; omega, fun m hm => by have := (hso2 s hs).2 m hm; omega⟩))) ?_; rintro _ _ ⟨_, ⟨rfl, hLL⟩, rfl⟩; replace hLL := hLL.symm; subst hLL; refine O_n ?_
    repeat' (first | refine go ?_ | intro _ | (apply cG; first | refine cT ?_ | refine cF ?_ | refine cS (fun _ => ?_) fun _ => ?_) | (apply gW; refine sW ?_) | (apply gI; refine sI ?_) | (apply gE; refine sE ?_) | (apply gP; refine sP ?_) | (apply gC; refine sC ?_) | (apply gD; refine sD ?_) | fail)
    refine E_res3 (by rfl) (by rfl) ⟨A9, c9, rfl, rfl⟩ Sb
  obtain ⟨a, ha⟩ : ∃ a, l[n]? = some a := ⟨_, List.getElem?_eq_getElem hnl⟩
  have haa : At l n a := ⟨ha⟩
  have hpx := posI_at (t := t) ha
  have hal := cho_len a t
  obtain ⟨hso1, hso2⟩ := setsN_ok l t n
  have hsu := setsN_succ l t n
  repeat' (first | refine go ?_ | intro _ | (apply cG; first | refine cT ?_ | refine cF ?_ | refine cS (fun _ => ?_) fun _ => ?_) | (apply gW; refine sW ?_) | (apply gI; refine sI ?_) | (apply gE; refine sE ?_) | (apply gP; refine sP ?_) | (apply gC; refine sC ?_) | (apply gD; refine sD ?_) | fail)
  refine O_d (dy_call ArgsI.pf (by first | exact rfl | trivial | (intro a b; rfl)) (possible_ct (a := a) (t := t) (by repeat (first | exact .head _ | refine .tail _ ?_)) (by omega))) ?_; rintro _ _ ⟨_, ⟨A7, c7, rfl, rfl⟩, rfl⟩; refine O_n ?_
  rcases addF_cases l t (setsN l t n) (n : Int) with ⟨hp, e⟩ | hcase
  · rw [e] at hsu
    rw [hpx] at hp
    have hx0 : (choF a t).length = 0 := by rw [hp]; rfl
    repeat' (first | refine go ?_ | intro _ | (apply cG; first | refine cT ?_ | refine cF ?_ | refine cS (fun _ => ?_) fun _ => ?_) | (apply gW; refine sW ?_) | (apply gI; refine sI ?_) | (apply gE; refine sE ?_) | (apply gP; refine sP ?_) | (apply gC; refine sC ?_) | (apply gD; refine sD ?_) | fail)
    exact E_round (n + 1, vs, A9, c9) ⟨hnl, by dsimp only; rw [hsu]; exact hvs⟩ (by dsimp only; omega) ⟨rfl, rfl, trivial⟩ (by dsimp only; rw [hsu]; exact Sb)
  have hp : posI l t (n : Int) ≠ [] := by
    rcases hcase with ⟨h, _⟩ | ⟨_, _, h, _⟩ <;> exact h
  rw [hpx] at hp
  have hx0 : (choF a t).length ≠ 0 := fun h => hp (List.length_eq_zero_iff.1 h)
  repeat' (first | refine go ?_ | intro _ | (apply cG; first | refine cT ?_ | refine cF ?_ | refine cS (fun _ => ?_) fun _ => ?_) | (apply gW; refine sW ?_) | (apply gI; refine sI ?_) | (apply gE; refine sE ?_) | (apply gP; refine sP ?_) | (apply gC; refine sC ?_) | (apply gD; refine sD ?_) | fail)
  refine C_loopS (κ := Nat) [false, false, false, false, false, false, false, false, false, false, true, false, false, false, false, false, false, false, false, false, false, false, false, false, false, false, false, false, false, false, false, true, true, true, true, true, true, true, true, true, true, true, true, true, true, true, true, true, false, false, false, false, false, false, false, false, false, false, false, false, false, false, false, false, false, false, false, false, false, false, false] (fun k => [(10, .int .i64 (k : Int))]) (fun k => []) (fun k => k ≤ vs.length ∧ idxF (fitF l t n) (setsN l t n) 0 = idxF (fitF l t n) ((setsN l t n).drop k) (k : Int)) (fun k => vs.length - k) 0 ⟨Nat.zero_le _, rfl⟩ ⟨rfl, trivial⟩ ?_
  rintro k u2 ⟨hk, hix⟩
  ((try dsimp only); refine C_n ?_; (try simp only [Nat.reduceAdd, Nat.zero_add]))
  by_cases hkv : k < vs.length
  rotate_left
  · obtain rfl : k = vs.length := by omega
    rw [hvs, List.drop_length] at hix
    replace hix : idxF (fitF l t n) (setsN l t n) 0 = -1 := hix
    rcases hcase with ⟨_, _, e⟩ | ⟨k, s, _, hz, _⟩
    rotate_left
    · rw [hix] at hz
      omega
    rw [e] at hsu
    repeat' (first | refine go ?_ | intro _ | (apply cG; first | refine cT ?_ | refine cF ?_ | refine cS (fun _ => ?_) fun _ => ?_) | (apply gW; refine sW ?_) | (apply gI; refine sI ?_) | (apply gE; refine sE ?_) | (apply gP; refine sP ?_) | (apply gC; refine sC ?_) | (apply gD; refine sD ?_) | fail)
    refine O_d (dy_lit1 (R := eI) (n : Int) (hcs := by rfl) (hel := fun _ _ _ => by rfl)) ?_; rintro _ _ ⟨_, rfl, rfl⟩; refine O_n ?_
    rename_i g1
    refine O_d (dy_lit1 (R := eSV) ((some ⟨g1, 0, none⟩, 1, 1) : SlV) (hcs := by rfl) (hel := fun _ _ _ => by rfl)) ?_; rintro _ _ ⟨g2, rfl, rfl⟩; refine O_n ?_
    repeat' (first | refine go ?_ | intro _ | (apply cG; first | refine cT ?_ | refine cF ?_ | refine cS (fun _ => ?_) fun _ => ?_) | (apply gW; refine sW ?_) | (apply gI; refine sI ?_) | (apply gE; refine sE ?_) | (apply gP; refine sP ?_) | (apply gC; refine sC ?_) | (apply gD; refine sD ?_) | fail)
    rename_i A10 c10
    refine E_round (n + 1, vs ++ [(some ⟨g1, 0, none⟩, 1, 1)], A10, c10) ⟨hnl, by dsimp only; rw [hsu, List.length_append, List.length_append, hvs]; rfl⟩ (by dsimp only; omega) ⟨by dsimp only; rw [List.length_append]; rfl, rfl, trivial⟩ ?_
    dsimp only
    rw [hsu, List.length_append]
    exact Sub.trans (B := own 3 eI (.slice (some ⟨g1, 0, none⟩) 1 1) [(n : Int)] :: rows 3 eI vs (setsN l t n) :: own 22 eSV (.slice A10 (vs.length + 1) c10) (vs ++ [(some ⟨g1, 0, none⟩, 1, 1)]) :: rd eAK (.slice A l.length c) l :: rd eBX (.slice A2 t.length c2) t :: L) Sb (Sub.trans (sub_rowsSnoc hvs) Sb)
  obtain ⟨s, hks⟩ : ∃ s, (setsN l t n)[k]? = some s := ⟨_, List.getElem?_eq_getElem (by omega)⟩
  obtain ⟨⟨Aq, nq, cq⟩, hqi⟩ : ∃ q, vs[k]? = some q := ⟨_, List.getElem?_eq_getElem hkv⟩
  obtain ⟨hs1, hl1⟩ := split_at hqi
  obtain ⟨hs2, hl2⟩ := split_at hks
  obtain ⟨d1, hd1⟩ : ∃ d1, vs.take k = d1 := ⟨_, rfl⟩
  obtain ⟨d2, hd2⟩ : ∃ d2, vs.drop (k + 1) = d2 := ⟨_, rfl⟩
  obtain ⟨l1, hl1'⟩ : ∃ l1, (setsN l t n).take k = l1 := ⟨_, rfl⟩
  obtain ⟨l2, hl2'⟩ : ∃ l2, (setsN l t n).drop (k + 1) = l2 := ⟨_, rfl⟩
  rw [hd1, hd2] at hs1
  rw [hl1', hl2'] at hs2
  rw [hd1] at hl1
  rw [hl1'] at hl2
  have hrw : rows 3 eI vs (setsN l t n) = rows 3 eI (d1 ++ (Aq, nq, cq) :: d2) (l1 ++ s :: l2) := by rw [← hs1, ← hs2]
  have hsl := (hso2 s (List.mem_of_getElem? hks)).1
  have hsm := (hso2 s (List.mem_of_getElem? hks)).2
  rw [idxF_drop hks] at hix
  refine C_sub (S := own 3 eI (.slice Aq nq cq) s :: own 22 eSV (.slice A9 vs.length c9) vs :: rows 3 eI (d1 ++ d2) (l1 ++ l2) :: rd eBX (.slice A7 (choF a t).length c7) ((choF a t).map Prod.snd) :: rd eAK (.slice A l.length c) l :: rd eBX (.slice A2 t.length c2) t :: L) ?_ ?_
  · rw [hrw]
    exact Sub.trans (B := rows 3 eI (d1 ++ (Aq, nq, cq) :: d2) (l1 ++ s :: l2) :: own 22 eSV (.slice A9 vs.length c9) vs :: rd eBX (.slice A7 (choF a t).length c7) ((choF a t).map Prod.snd) :: rd eAK (.slice A l.length c) l :: rd eBX (.slice A2 t.length c2) t :: L) Sb (Sub.trans (sub_rowsOut (by omega)) (sub_skip (sub_perm (List.Perm.swap _ _ _))))
  refine C_fact (fun w s => own_form s) ?_
  rintro ⟨A11, c11, e11⟩
  injection e11 with e1 e2 e3
  subst e1 e2 e3
  have hat : At vs k (Aq, s.length, cq) := ⟨hqi⟩
  repeat' (first | refine go ?_ | intro _ | (apply cG; first | refine cT ?_ | refine cF ?_ | refine cS (fun _ => ?_) fun _ => ?_) | (apply gW; refine sW ?_) | (apply gI; refine sI ?_) | (apply gE; refine sE ?_) | (apply gP; refine sP ?_) | (apply gC; refine sC ?_) | (apply gD; refine sD ?_) | fail)
  refine O_d (dy_call ArgsI.pf (by first | exact rfl | trivial | (intro a b; rfl)) (fits_ct (n := n) (l := l) (t := t) (s := s) (by repeat (first | exact .head _ | refine .tail _ ?_)) (by repeat (first | exact .head _ | refine .tail _ ?_)) (.inr ⟨_, .head _⟩) (by omega) hnl (fun m hm => by have := hsm m hm; omega) (by omega))) ?_; rintro _ _ ⟨_, ⟨rfl, hLL⟩, rfl⟩; replace hLL := hLL.symm; subst hLL; refine O_n ?_
  cases hφ : fitF l t n s
  · rw [hφ] at hix
    repeat' (first | refine go ?_ | intro _ | (apply cG; first | refine cT ?_ | refine cF ?_ | refine cS (fun _ => ?_) fun _ => ?_) | (apply gW; refine sW ?_) | (apply gI; refine sI ?_) | (apply gE; refine sE ?_) | (apply gP; refine sP ?_) | (apply gC; refine sC ?_) | (apply gD; refine sD ?_) | fail)
    refine E_round (k + 1) ⟨hkv, by rw [hix]; rfl⟩ (by omega) ⟨rfl, trivial⟩ ?_
    rw [hrw]
    exact Sub.trans (sub_skip (sub_perm (List.Perm.swap _ _ _))) (Sub.trans (sub_rowsIn (by omega)) Sb)
  rw [hφ] at hix
  replace hix : idxF (fitF l t n) (setsN l t n) 0 = (k : Int) := hix
  rcases hcase with ⟨_, hz, _⟩ | ⟨k', s', _, hz, hk', _, e⟩
  · rw [hix] at hz
    omega
  obtain rfl : k' = k := by rw [hix] at hz; omega
  rw [hks] at hk'
  obtain rfl := Option.some.inj hk'
  rw [e, hl1', hl2'] at hsu
  repeat' (first | refine go ?_ | intro _ | (apply cG; first | refine cT ?_ | refine cF ?_ | refine cS (fun _ => ?_) fun _ => ?_) | (apply gW; refine sW ?_) | (apply gI; refine sI ?_) | (apply gE; refine sE ?_) | (apply gP; refine sP ?_) | (apply gC; refine sC ?_) | (apply gD; refine sD ?_) | fail)
  refine O_d (dy_lit1 (R := eI) (n : Int) (hcs := by rfl) (hel := fun _ _ _ => by rfl)) ?_; rintro _ _ ⟨_, rfl, rfl⟩; refine O_n ?_
  repeat' (first | refine go ?_ | intro _ | (apply cG; first | refine cT ?_ | refine cF ?_ | refine cS (fun _ => ?_) fun _ => ?_) | (apply gW; refine sW ?_) | (apply gI; refine sI ?_) | (apply gE; refine sE ?_) | (apply gP; refine sP ?_) | (apply gC; refine sC ?_) | (apply gD; refine sD ?_) | fail)
  rename_i A12 c12
  refine O_d (dy_storeE (f := fun q : SlV => .slice q.1 q.2.1 q.2.2) (hf := slv_one) (n := vs.length) (c := c9) ((A12, s.length + 1, c12) : SlV) (hy := Ev.pf) (hj := by omega)) ?_; rintro _ _ ⟨rfl, rfl⟩; refine O_n ?_
  have hset : vs.set k' (A12, s.length + 1, c12) = d1 ++ (A12, s.length + 1, c12) :: d2 := by
    conv => lhs; rw [hs1]
    rw [mid_set hl1]
  have hvl : (d1 ++ (A12, s.length + 1, c12) :: d2).length = vs.length := by
    conv => rhs; rw [hs1]
    simp
  rw [hset]
  repeat' (first | refine go ?_ | intro _ | (apply cG; first | refine cT ?_ | refine cF ?_ | refine cS (fun _ => ?_) fun _ => ?_) | (apply gW; refine sW ?_) | (apply gI; refine sI ?_) | (apply gE; refine sE ?_) | (apply gP; refine sP ?_) | (apply gC; refine sC ?_) | (apply gD; refine sD ?_) | fail)
  refine E_round (n + 1, d1 ++ (A12, s.length + 1, c12) :: d2, A9, c9) ⟨hnl, by dsimp only; rw [hvl, hvs, hsu, hs2]; simp⟩ (by dsimp only; omega) ⟨by dsimp only; rw [hvl]; rfl, rfl, trivial⟩ ?_
  dsimp only
  rw [hsu, hvl]
  exact Sub.trans (B := own 3 eI (.slice A12 (s.length + 1) c12) (s ++ [(n : Int)]) :: rows 3 eI (d1 ++ d2) (l1 ++ l2) :: own 22 eSV (.slice A9 vs.length c9) (d1 ++ (A12, s.length + 1, c12) :: d2) :: rd eAK (.slice A l.length c) l :: rd eBX (.slice A2 t.length c2) t :: L) Sb (Sub.trans (sub_rowsIn (by omega)) Sb)
end
end Go.Proofs.Yteeapkfakehocaa
namespace Go.Proofs.Yteeapkfakehocaa
open Go Go.RowKit
set_option linter.unusedVariables false
set_option linter.unusedSimpArgs false
set_option maxRecDepth 20000
set_option synthInstance.maxSize 100000
set_option synthInstance.maxHeartbeats 400000
/-- a certificate that is one -/
structure ChkOk (l : List AK) (t : List BX) (sets : List (List Int)) : Prop where
  ne : ∀ s ∈ sets, s ≠ []
  rg : ∀ s ∈ sets, ∀ n ∈ s, 0 ≤ n ∧ n < l.length
  ft : ∀ s ∈ sets, ∀ (k : Nat) (n : Int), s[k]? = some n → fitF l t n (s.take k) = true
  nd : sets.flatten.Nodup
  al : ∀ i : Nat, i < l.length → (i : Int) ∉ sets.flatten → posI l t i = []
theorem bool_one (b : Bool) : (Value.bool b).oneCell' = true := rfl
abbrev eBl : Enc Bool := e1 (fun b => .bool b) bool_one
theorem not_nodup {l k : List Int} {z : Int} {r : List Int} (h : z ∈ l ++ k) : ¬ (l ++ (k ++ z :: r)).Nodup := by
  rw [← List.append_assoc]
  intro hn
  exact (List.nodup_append.1 hn).2.2 z h z (.head _) rfl
theorem flat_split {sets : List (List Int)} {i : Nat} {s : List Int} (h : sets[i]? = some s) : sets.flatten = (sets.take i).flatten ++ (s ++ (sets.drop (i + 1)).flatten) := by
  obtain ⟨e, _⟩ := split_at h
  conv => lhs; rw [e]
  rw [List.flatten_append, List.flatten_cons]
theorem take_flat {sets : List (List Int)} {i : Nat} {s : List Int} (h : sets[i]? = some s) : (sets.take (i + 1)).flatten = (sets.take i).flatten ++ s := by
  rw [List.take_add_one, h]
  simp
theorem dup_split {sets : List (List Int)} {i k : Nat} {s : List Int} {z : Int} (h : sets[i]? = some s) (hk : s[k]? = some z) (hz : z ∈ (sets.take i).flatten ++ s.take k) : ¬ sets.flatten.Nodup := by
  rw [flat_split h]
  obtain ⟨e, _⟩ := split_at hk
  have e2 : s ++ (sets.drop (i + 1)).flatten = s.take k ++ z :: (s.drop (k + 1) ++ (sets.drop (i + 1)).flatten) := by
    conv => lhs; rw [e]
    rw [List.append_assoc, List.cons_append]
  rw [e2]
  exact not_nodup hz
section
variable {W0 : World} {L : List HP}
set_option maxHeartbeats 2000000 in
theorem Check_ct {A A2 A3 : Option Addr} {c c2 c3 : Nat} {l : List AK} {t : List BX} {sets : List (List Int)} {q : Bool} (hv : rd eAK (.slice A l.length c) l ∈ L) (hv2 : rd eBX (.slice A2 t.length c2) t ∈ L) (hv3 : rd (eSl eI) (.slice A3 sets.length c3) sets ∈ L) (hc : checkF l t = 0) (hsl : sets.length ≤ 1000) (hss : ∀ s ∈ sets, s.length ≤ 1000) (hq : q = true ↔ ChkOk l t sets) :
    CT Try.prog 31 #[.slice A l.length c, .slice A2 t.length c2, .slice A3 sets.length c3] W0 L fun r L' => r = .tuple #[.int .i64 (if q then sumF25 l sets else 0), .int .i64 (if q then 0 else 14)] ∧ L' = L := by
  obtain ⟨hl64, ht256, hg, _⟩ := checkF_0 hc
  have eg : Enters Try.prog 57 := by first | exact rfl | trivial | (intro a b; rfl)
  refine CT_openX hv3 fun ss hs' => ?_
  have hssl : ss.length = sets.length := by rw [← hs', List.length_map]
  refine CT.sub ?_ (sub_dup (.tail _ hv3))
  refine CT.sub ?_ (sub_dup (.tail _ (.tail _ hv2)))
  refine CT.sub ?_ (sub_dup (.tail _ (.tail _ (.tail _ hv))))
  refine CT_enter Try.func31 rfl ?_; (simp only [Try.ntmps31, List.size_toArray, List.length_cons, List.length_nil, Nat.reduceAdd, Nat.reduceSub, Array.replicate_succ, Array.replicate_zero, List.push_toArray, List.append_toArray, List.nil_append, List.cons_append])
  repeat' (first | refine go ?_ | intro _ | (apply cG; first | refine cT ?_ | refine cF ?_ | refine cS (fun _ => ?_) fun _ => ?_) | (apply gW; refine sW ?_) | (apply gI; refine sI ?_) | (apply gE; refine sE ?_) | (apply gP; refine sP ?_) | (apply gC; refine sC ?_) | (apply gD; refine sD ?_) | fail)
  refine O_d (dy_call ArgsI.pf (by first | exact rfl | trivial | (intro a b; rfl)) (check_ct (l := l) (t := t) (by repeat (first | exact .head _ | refine .tail _ ?_)) (by repeat (first | exact .head _ | refine .tail _ ?_)))) ?_; rintro _ _ ⟨_, ⟨rfl, hLL⟩, rfl⟩; replace hLL := hLL.symm; subst hLL; refine O_n ?_
  rw [hc]
  repeat' (first | refine go ?_ | intro _ | (apply cG; first | refine cT ?_ | refine cF ?_ | refine cS (fun _ => ?_) fun _ => ?_) | (apply gW; refine sW ?_) | (apply gI; refine sI ?_) | (apply gE; refine sE ?_) | (apply gP; refine sP ?_) | (apply gC; refine sC ?_) | (apply gD; refine sD ?_) | fail)
  refine O_d (dy_call ArgsI.pf (by first | exact rfl | trivial | (intro a b; rfl)) (choices_ct (l := l) (t := t) (by repeat (first | exact .head _ | refine .tail _ ?_)) (by repeat (first | exact .head _ | refine .tail _ ?_)) (by omega) (by omega))) ?_; rintro _ _ ⟨_, ⟨A7, c7, rfl, rfl⟩, rfl⟩; refine O_n ?_
  repeat' (first | refine go ?_ | intro _ | (apply cG; first | refine cT ?_ | refine cF ?_ | refine cS (fun _ => ?_) fun _ => ?_) | (apply gW; refine sW ?_) | (apply gI; refine sI ?_) | (apply gE; refine sE ?_) | (apply gP; refine sP ?_) | (apply gC; refine sC ?_) | (apply gD; refine sD ?_) | fail)
  rename_i p9
  refine O_openX (.tail _ (.head _)) fun xs hxs => ?_
  have hxl : xs.length = l.length := by
    have := congrArg List.length hxs
    rwa [List.length_map, List.length_map] at this
  have hxb : ∀ x ∈ xs, x.b.length ≤ 4 := fun x hx => by
    have : x.b ∈ l.map fun a => choF a t := by rw [← hxs]; exact List.mem_map.2 ⟨x, hx, rfl⟩
    obtain ⟨a, _, e⟩ := List.mem_map.1 this
    rw [← e]
    exact cho_len a t
  refine O_d (dy_make (f := fun b : Bool => .bool b) (hf := bool_one) false (n := l.length) (by rfl) Ev.pf Ev.pf (by omega) (by omega)) ?_; rintro _ _ ⟨g, rfl, rfl⟩; refine O_n ?_
  repeat' (first | refine go ?_ | intro _ | (apply cG; first | refine cT ?_ | refine cF ?_ | refine cS (fun _ => ?_) fun _ => ?_) | (apply gW; refine sW ?_) | (apply gI; refine sI ?_) | (apply gE; refine sE ?_) | (apply gP; refine sP ?_) | (apply gC; refine sC ?_) | (apply gD; refine sD ?_) | fail)
  refine C_loopS (κ := Nat × List Bool) [false, false, false, false, false, false, true, true, false, false, false, false, true, true, true, false, false, false, false, false, false, false, false, false, false, false, false, false, false, false, false, true, true, true, true, true, true, true, true, true, true, true, true, true, true, true, true, true, true, true, true, true, true, true, true, true, true, true, true, true, true, true, true, true, true, true, true, true, true, true, true, false, false, false, false, false, false, false, false, false, false, false, false, false, false, false, false, false, false, false, false, false] (fun k => [(31, .int .i64 (k.1 : Int))]) (fun k => [(0, own 4 eBl (.slice (some ⟨g, 0, none⟩) l.length l.length) k.2)]) (fun k => k.1 ≤ sets.length ∧ k.2.length = l.length ∧ (∀ j : Nat, j < l.length → k.2[j]? = some (decide ((j : Int) ∈ (sets.take k.1).flatten))) ∧ (∀ s ∈ sets.take k.1, s ≠ [] ∧ (∀ n ∈ s, 0 ≤ n ∧ n < l.length) ∧ ∀ (k : Nat) (n : Int), s[k]? = some n → fitF l t n (s.take k) = true) ∧ (sets.take k.1).flatten.Nodup) (fun k => sets.length - k.1) (0, List.replicate l.length false) ⟨Nat.zero_le _, List.length_replicate, fun j hj => by rw [List.getElem?_replicate, if_pos hj]; simp, fun s hs => absurd hs (by simp), by simp⟩ ⟨rfl, trivial⟩ ?_
  rintro ⟨i, sn⟩ u ⟨hi, hsn, hsj, hpre, hnd⟩
  dsimp only at hi hsn hsj hpre hnd
  dsimp only
  ((try dsimp only); refine C_n ?_; (try simp only [Nat.reduceAdd, Nat.zero_add]))
  by_cases hil : i < sets.length
  rotate_left
  · obtain rfl : i = sets.length := by omega
    rw [List.take_length] at hsj hpre hnd
    repeat' (first | refine go ?_ | intro _ | (apply cG; first | refine cT ?_ | refine cF ?_ | refine cS (fun _ => ?_) fun _ => ?_) | (apply gW; refine sW ?_) | (apply gI; refine sI ?_) | (apply gE; refine sE ?_) | (apply gP; refine sP ?_) | (apply gC; refine sC ?_) | (apply gD; refine sD ?_) | fail)
    refine C_loopS (κ := Nat) [false, false, false, false, false, false, true, true, false, false, false, false, false, false, false, true, true, false, false, false, false, false, false, false, false, false, false, false, false, false, false, false, false, false, false, false, false, false, false, false, false, false, false, false, false, false, false, false, false, false, false, false, false, false, false, false, false, false, false, false, false, false, false, false, false, false, false, false, false, false, false, false, false, true, true, true, true, true, true, true, true, true, true, true, true, true, true, true, true, false, false, false] (fun k => [(73, .int .i64 (k : Int))]) (fun k => []) (fun k => k ≤ l.length ∧ ∀ j : Nat, j < k → (j : Int) ∉ sets.flatten → posI l t j = []) (fun k => l.length - k) 0 ⟨Nat.zero_le _, fun j h => absurd h (Nat.not_lt_zero _)⟩ ⟨rfl, trivial⟩ ?_
    rintro j u2 ⟨hj, hall⟩
    ((try dsimp only); refine C_n ?_; (try simp only [Nat.reduceAdd, Nat.zero_add]))
    by_cases hjl : j < l.length
    rotate_left
    · obtain rfl : j = l.length := by omega
      obtain rfl : q = true := hq.2 ⟨fun s hs => (hpre s hs).1, fun s hs => (hpre s hs).2.1, fun s hs => (hpre s hs).2.2, hnd, hall⟩
      repeat' (first | refine go ?_ | intro _ | (apply cG; first | refine cT ?_ | refine cF ?_ | refine cS (fun _ => ?_) fun _ => ?_) | (apply gW; refine sW ?_) | (apply gI; refine sI ?_) | (apply gE; refine sE ?_) | (apply gP; refine sP ?_) | (apply gC; refine sC ?_) | (apply gD; refine sD ?_) | fail)
      refine O_d (dy_call ArgsI.pf (by first | exact rfl | trivial | (intro a b; rfl)) (total_ct (l := l) (sets := sets) (by repeat (first | exact .head _ | refine .tail _ ?_)) (by repeat (first | exact .head _ | refine .tail _ ?_)) (by omega) hg (fun s hs => ⟨by have := hss s hs; omega, (hpre s hs).2.1⟩))) ?_; rintro _ _ ⟨_, ⟨rfl, hLL⟩, rfl⟩; replace hLL := hLL.symm; subst hLL; refine O_n ?_
      repeat' (first | refine go ?_ | intro _ | (apply cG; first | refine cT ?_ | refine cF ?_ | refine cS (fun _ => ?_) fun _ => ?_) | (apply gW; refine sW ?_) | (apply gI; refine sI ?_) | (apply gE; refine sE ?_) | (apply gP; refine sP ?_) | (apply gC; refine sC ?_) | (apply gD; refine sD ?_) | fail)
      refine E_res2 (by rfl) (by rfl) ⟨rfl, rfl⟩ Sb
    obtain ⟨x, hx⟩ : ∃ x, xs[j]? = some x := ⟨_, List.getElem?_eq_getElem (by omega)⟩
    have hax : At xs j x := ⟨hx⟩
    have hpx := fit_any (l := l) (t := t) hxs hx
    refine C_sub (sub_peekX (v := .slice A7 l.length c7) (l := xs) (R := eCH) (by repeat (first | exact .head _ | refine .tail _ ?_)) hx) ?_
    refine C_form (.head _) fun Ax cx hxv => ?_
    have hec : EncC (eSX eCH) x [.slice Ax x.b.length cx] := ⟨fun m cs h => by rw [h.1, hxv]⟩
    rw [hxv]
    have hb := hsj j hjl
    have hab : At sn j (decide ((j : Int) ∈ sets.flatten)) := ⟨hb⟩
    by_cases hjm : (j : Int) ∈ sets.flatten
    · have hab : At sn j true := ⟨by rw [hb, decide_eq_true hjm]⟩
      clear hb
      rename_i hab0 _ 
      clear hab0
      repeat' (first | refine go ?_ | intro _ | (apply cG; first | refine cT ?_ | refine cF ?_ | refine cS (fun _ => ?_) fun _ => ?_) | (apply gW; refine sW ?_) | (apply gI; refine sI ?_) | (apply gE; refine sE ?_) | (apply gP; refine sP ?_) | (apply gC; refine sC ?_) | (apply gD; refine sD ?_) | fail)
      exact E_round (j + 1) ⟨hjl, fun j' h' hm => by
        by_cases e : j' = j
        · subst e; exact absurd hjm hm
        · exact hall j' (by omega) hm⟩ (by omega) ⟨rfl, trivial⟩ Sb
    · have hab : At sn j false := ⟨by rw [hb, decide_eq_false hjm]⟩
      clear hb
      rename_i hab0 _
      clear hab0
      by_cases hx0 : x.b.length = 0
      · repeat' (first | refine go ?_ | intro _ | (apply cG; first | refine cT ?_ | refine cF ?_ | refine cS (fun _ => ?_) fun _ => ?_) | (apply gW; refine sW ?_) | (apply gI; refine sI ?_) | (apply gE; refine sE ?_) | (apply gP; refine sP ?_) | (apply gC; refine sC ?_) | (apply gD; refine sD ?_) | fail)
        exact E_round (j + 1) ⟨hjl, fun j' h' hm => by
          by_cases e : j' = j
          · subst e; rw [hpx]; exact List.length_eq_zero_iff.1 hx0
          · exact hall j' (by omega) hm⟩ (by omega) ⟨rfl, trivial⟩ Sb
      · obtain rfl : q = false := Bool.eq_false_iff.2 fun h => (fun h2 : ChkOk l t sets => hx0 (by rw [← hpx, h2.al j hjl hjm]; rfl)) (hq.1 h)
        repeat' (first | refine go ?_ | intro _ | (apply cG; first | refine cT ?_ | refine cF ?_ | refine cS (fun _ => ?_) fun _ => ?_) | (apply gW; refine sW ?_) | (apply gI; refine sI ?_) | (apply gE; refine sE ?_) | (apply gP; refine sP ?_) | (apply gC; refine sC ?_) | (apply gD; refine sD ?_) | fail)
        refine E_res2 (by rfl) (by rfl) ⟨rfl, rfl⟩ Sb
  obtain ⟨s, hsi⟩ : ∃ s, ss[i]? = some s := ⟨_, List.getElem?_eq_getElem (by omega)⟩
  have has : At ss i s := ⟨hsi⟩
  have hss0 : sets[i]? = some s.b := getX hs' hsi
  have hsm := List.mem_of_getElem? hss0
  have hs1k := hss _ hsm
  refine C_sub (sub_peekX (v := .slice A3 sets.length c3) (l := ss) (R := eI) (by repeat (first | exact .head _ | refine .tail _ ?_)) hsi) ?_
  refine C_form (.head _) fun As cs hsv => ?_
  have hec : EncC (eSX eI) s [.slice As s.b.length cs] := ⟨fun m cs h => by rw [h.1, hsv]⟩
  rw [hsv]
  by_cases hs0 : s.b.length = 0
  · obtain rfl : q = false := Bool.eq_false_iff.2 fun h => (fun h2 : ChkOk l t sets => h2.ne _ hsm (List.length_eq_zero_iff.1 hs0)) (hq.1 h)
    repeat' (first | refine go ?_ | intro _ | (apply cG; first | refine cT ?_ | refine cF ?_ | refine cS (fun _ => ?_) fun _ => ?_) | (apply gW; refine sW ?_) | (apply gI; refine sI ?_) | (apply gE; refine sE ?_) | (apply gP; refine sP ?_) | (apply gC; refine sC ?_) | (apply gD; refine sD ?_) | fail)
    refine E_res2 (by rfl) (by rfl) ⟨rfl, rfl⟩ Sb
  have hsne : s.b ≠ [] := fun h => hs0 (by rw [h]; rfl)
  repeat' (first | refine go ?_ | intro _ | (apply cG; first | refine cT ?_ | refine cF ?_ | refine cS (fun _ => ?_) fun _ => ?_) | (apply gW; refine sW ?_) | (apply gI; refine sI ?_) | (apply gE; refine sE ?_) | (apply gP; refine sP ?_) | (apply gC; refine sC ?_) | (apply gD; refine sD ?_) | fail)
  refine C_loopS (κ := Nat × List Bool) [false, false, false, false, false, false, true, true, false, false, false, false, false, true, true, false, false, false, false, false, false, false, false, false, false, false, false, false, false, false, false, false, false, false, false, false, false, false, false, false, true, true, true, true, true, true, true, true, true, true, true, true, true, true, true, true, true, true, true, true, true, true, true, true, true, true, true, true, true, true, false, false, false, false, false, false, false, false, false, false, false, false, false, false, false, false, false, false, false, false, false, false] (fun k => [(40, .int .i64 (k.1 : Int))]) (fun k => [(1, own 4 eBl (.slice (some ⟨g, 0, none⟩) l.length l.length) k.2)]) (fun k => k.1 ≤ s.b.length ∧ k.2.length = l.length ∧ (∀ j : Nat, j < l.length → k.2[j]? = some (decide ((j : Int) ∈ (sets.take i).flatten ++ s.b.take k.1))) ∧ (∀ n ∈ s.b.take k.1, 0 ≤ n ∧ n < l.length) ∧ (∀ (k' : Nat) (n : Int), k' < k.1 → s.b[k']? = some n → fitF l t n (s.b.take k') = true) ∧ ((sets.take i).flatten ++ s.b.take k.1).Nodup) (fun k => s.b.length - k.1) (0, sn) ⟨Nat.zero_le _, hsn, fun j hj => by dsimp only; rw [hsj j hj, List.take_zero, List.append_nil], fun n hn => absurd hn (by simp), fun k' n h => absurd h (Nat.not_lt_zero _), by dsimp only; rw [List.take_zero, List.append_nil]; exact hnd⟩ ⟨rfl, trivial⟩ ?_
  rintro ⟨k, sn2⟩ u2 ⟨hk, hsn2, hsj2, hrg, hft, hnd2⟩
  dsimp only at hk hsn2 hsj2 hrg hft hnd2
  dsimp only
  ((try dsimp only); refine C_n ?_; (try simp only [Nat.reduceAdd, Nat.zero_add]))
  by_cases hks : k < s.b.length
  rotate_left
  · obtain rfl : k = s.b.length := by omega
    rw [List.take_length] at hsj2 hrg hnd2
    have htf := take_flat hss0
    repeat' (first | refine go ?_ | intro _ | (apply cG; first | refine cT ?_ | refine cF ?_ | refine cS (fun _ => ?_) fun _ => ?_) | (apply gW; refine sW ?_) | (apply gI; refine sI ?_) | (apply gE; refine sE ?_) | (apply gP; refine sP ?_) | (apply gC; refine sC ?_) | (apply gD; refine sD ?_) | fail)
    refine E_round (i + 1, sn2) ⟨hil, hsn2, by dsimp only; rw [htf]; exact hsj2, ?_, by dsimp only; rw [htf]; exact hnd2⟩ (by dsimp only; omega) ⟨rfl, trivial⟩ Sb
    intro s' hs'
    dsimp only at hs'
    rw [List.take_add_one, hss0] at hs'
    rcases List.mem_append.1 hs' with h | h
    · exact hpre s' h
    · simp only [Option.toList_some, List.mem_cons, List.not_mem_nil, or_false] at h
      subst h
      exact ⟨hsne, hrg, fun k' n h => hft k' n (List.getElem?_eq_some_iff.1 h).1 h⟩
  obtain ⟨z, hz⟩ : ∃ z, s.b[k]? = some z := ⟨_, List.getElem?_eq_getElem hks⟩
  have haz : At s.b k z := ⟨hz⟩
  have hzm := List.mem_of_getElem? hz
  by_cases hz0 : z < 0
  · obtain rfl : q = false := Bool.eq_false_iff.2 fun h => (fun h2 : ChkOk l t sets => absurd (h2.rg _ hsm z hzm).1 (by omega)) (hq.1 h)
    repeat' (first | refine go ?_ | intro _ | (apply cG; first | refine cT ?_ | refine cF ?_ | refine cS (fun _ => ?_) fun _ => ?_) | (apply gW; refine sW ?_) | (apply gI; refine sI ?_) | (apply gE; refine sE ?_) | (apply gP; refine sP ?_) | (apply gC; refine sC ?_) | (apply gD; refine sD ?_) | fail)
    refine E_res2 (by rfl) (by rfl) ⟨rfl, rfl⟩ Sb
  by_cases hz1 : z ≥ l.length
  · obtain rfl : q = false := Bool.eq_false_iff.2 fun h => (fun h2 : ChkOk l t sets => absurd (h2.rg _ hsm z hzm).2 (by omega)) (hq.1 h)
    repeat' (first | refine go ?_ | intro _ | (apply cG; first | refine cT ?_ | refine cF ?_ | refine cS (fun _ => ?_) fun _ => ?_) | (apply gW; refine sW ?_) | (apply gI; refine sI ?_) | (apply gE; refine sE ?_) | (apply gP; refine sP ?_) | (apply gC; refine sC ?_) | (apply gD; refine sD ?_) | fail)
    refine E_res2 (by rfl) (by rfl) ⟨rfl, rfl⟩ Sb
  obtain ⟨m, rfl⟩ : ∃ m : Nat, z = (m : Int) := ⟨z.toNat, by omega⟩
  have hml : m < l.length := by omega
  have hb := hsj2 m hml
  by_cases hmm : (m : Int) ∈ (sets.take i).flatten ++ s.b.take k
  · have hab : At sn2 m true := ⟨by rw [hb, decide_eq_true hmm]⟩
    obtain rfl : q = false := Bool.eq_false_iff.2 fun h => (fun h2 : ChkOk l t sets => dup_split hss0 hz hmm h2.nd) (hq.1 h)
    repeat' (first | refine go ?_ | intro _ | (apply cG; first | refine cT ?_ | refine cF ?_ | refine cS (fun _ => ?_) fun _ => ?_) | (apply gW; refine sW ?_) | (apply gI; refine sI ?_) | (apply gE; refine sE ?_) | (apply gP; refine sP ?_) | (apply gC; refine sC ?_) | (apply gD; refine sD ?_) | fail)
    refine E_res2 (by rfl) (by rfl) ⟨rfl, rfl⟩ Sb
  have hab : At sn2 m false := ⟨by rw [hb, decide_eq_false hmm]⟩
  clear hb
  obtain ⟨pre, hpe⟩ : ∃ pre, s.b.take k = pre := ⟨_, rfl⟩
  have hplen : pre.length = k := by rw [← hpe, List.length_take]; omega
  subst hplen
  repeat' (first | refine go ?_ | intro _ | (apply cG; first | refine cT ?_ | refine cF ?_ | refine cS (fun _ => ?_) fun _ => ?_) | (apply gW; refine sW ?_) | (apply gI; refine sI ?_) | (apply gE; refine sE ?_) | (apply gP; refine sP ?_) | (apply gC; refine sC ?_) | (apply gD; refine sD ?_) | fail)
  rename_i A14 c14 p14
  rw [List.drop_zero, hpe]
  rw [hpe] at hrg hmm hnd2
  refine O_d (dy_call ArgsI.pf (by first | exact rfl | trivial | (intro a b; rfl)) (ConIS_ct (l := pre) (φ := fun n => !exF (posI l t m) (posI l t n)) eg (.inl (by repeat (first | exact .head _ | refine .tail _ ?_))) (by omega) (fun n hn => by
      have hzr := hrg n hn
      obtain ⟨n, rfl⟩ : ∃ n' : Nat, n = (n' : Int) := ⟨n.toNat, by omega⟩
      obtain ⟨x, hx⟩ : ∃ x, xs[m]? = some x := ⟨_, List.getElem?_eq_getElem (by omega)⟩
      obtain ⟨y, hy⟩ : ∃ y, xs[n]? = some y := ⟨_, List.getElem?_eq_getElem (by omega)⟩
      rw [fit_any hxs hx, fit_any hxs hy]
      exact check1cb_ct hxl (by repeat (first | exact .head _ | refine .tail _ ?_)) (by repeat (first | exact .head _ | refine .tail _ ?_)) (by repeat (first | exact .head _ | refine .tail _ ?_)) hx hy (by have := hxb x (List.mem_of_getElem? hx); omega) (by have := hxb y (List.mem_of_getElem? hy); omega) (by omega)))) ?_; rintro _ _ ⟨_, ⟨rfl, hLL⟩, rfl⟩; replace hLL := hLL.symm; subst hLL; refine O_n ?_
  have hfit := fit_not l t (m : Int) pre
  cases hany : pre.any fun n => !exF (posI l t m) (posI l t n)
  rotate_left
  · rw [hany] at hfit
    obtain rfl : q = false := Bool.eq_false_iff.2 fun h => (fun h2 : ChkOk l t sets => by
      have := h2.ft _ hsm _ _ hz
      rw [hpe, hfit] at this
      cases this) (hq.1 h)
    repeat' (first | refine go ?_ | intro _ | (apply cG; first | refine cT ?_ | refine cF ?_ | refine cS (fun _ => ?_) fun _ => ?_) | (apply gW; refine sW ?_) | (apply gI; refine sI ?_) | (apply gE; refine sE ?_) | (apply gP; refine sP ?_) | (apply gC; refine sC ?_) | (apply gD; refine sD ?_) | fail)
    refine E_res2 (by rfl) (by rfl) ⟨rfl, rfl⟩ Sb
  rw [hany] at hfit
  repeat' (first | refine go ?_ | intro _ | (apply cG; first | refine cT ?_ | refine cF ?_ | refine cS (fun _ => ?_) fun _ => ?_) | (apply gW; refine sW ?_) | (apply gI; refine sI ?_) | (apply gE; refine sE ?_) | (apply gP; refine sP ?_) | (apply gC; refine sC ?_) | (apply gD; refine sD ?_) | fail)
  refine O_d (dy_storeE (f := fun b : Bool => .bool b) (hf := bool_one) (j := m) (n := l.length) (c := l.length) true (hy := Ev.pf) (hj := by omega)) ?_; rintro _ _ ⟨rfl, rfl⟩; refine O_n ?_
  repeat' (first | refine go ?_ | intro _ | (apply cG; first | refine cT ?_ | refine cF ?_ | refine cS (fun _ => ?_) fun _ => ?_) | (apply gW; refine sW ?_) | (apply gI; refine sI ?_) | (apply gE; refine sE ?_) | (apply gP; refine sP ?_) | (apply gC; refine sC ?_) | (apply gD; refine sD ?_) | fail)
  have htk : s.b.take (pre.length + 1) = pre ++ [(m : Int)] := by rw [List.take_add_one, hz, hpe]; rfl
  refine E_round (pre.length + 1, sn2.set m true) ⟨hks, by dsimp only; rw [List.length_set]; exact hsn2, fun j hj => ?_, ?_, fun k' n hk' hn => ?_, ?_⟩ (by dsimp only; omega) ⟨rfl, trivial⟩ Sb
  · dsimp only
    rw [htk, List.getElem?_set, ← List.append_assoc]
    by_cases e : m = j
    · subst e
      rw [if_pos rfl, if_pos (by omega), decide_eq_true]
      exact List.mem_append_right _ (.head _)
    · rw [if_neg e, hsj2 j hj, hpe]
      congr 1
      have : (j : Int) ≠ (m : Int) := by omega
      simp [List.mem_append, this]
  · dsimp only
    rw [htk]
    intro n hn
    rcases List.mem_append.1 hn with h | h
    · exact hrg n h
    · simp only [List.mem_cons, List.not_mem_nil, or_false] at h
      omega
  · dsimp only at hk'
    by_cases e : k' = pre.length
    · subst e
      rw [hz] at hn
      rw [← Option.some.inj hn, hpe, hfit]
      rfl
    · exact hft k' n (by omega) hn
  · dsimp only
    rw [htk, ← List.append_assoc]
    refine List.nodup_append.2 ⟨hnd2, by simp, fun a ha b hb => ?_⟩
    simp only [List.mem_cons, List.not_mem_nil, or_false] at hb
    subst hb
    intro e
    rw [e] at ha
    exact hmm ha
end
end Go.Proofs.Yteeapkfakehocaa
