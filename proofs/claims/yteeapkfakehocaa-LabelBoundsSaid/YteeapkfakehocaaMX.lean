/-
  The law LabelPlaces.
-/
import Derived.Test.YteeapkfakehocaaMW
import Derived.Test.YteeapkfakehocaaMR
namespace Go.Proofs.Yteeapkfakehocaa
open Go Go.RowKit
set_option linter.unusedVariables false
set_option linter.unusedSimpArgs false
set_option maxRecDepth 20000
set_option synthInstance.maxSize 100000
set_option synthInstance.maxHeartbeats 400000
theorem placeF_ok {l : List AK} {t : List BX} {f : Int} (h : checkF l t = 0) (hs : ((enterR t l 0 [] [] ⟨[], -1, 0⟩).steps : Int) ≤ f) : placeF l t f = ((bestF l t).1, (bestF l t).2, 0) := by
  obtain ⟨_, _, hg, _⟩ := checkF_0 h
  have hb := enterR_best l t fun a ha => by have := (hg a ha).2.2.2.2; omega
  unfold placeF
  rw [if_pos h, if_pos hs, ← hb]
theorem placeF_len (l : List AK) (t : List BX) (f : Int) : (placeF l t f).1.length ≤ l.length := by
  by_cases h : checkF l t = 0
  · by_cases hs : ((enterR t l 0 [] [] ⟨[], -1, 0⟩).steps : Int) ≤ f
    · rw [placeF_ok h hs, (okc_len t (best_ok l t)).1]
      exact Nat.le_refl _
    · unfold placeF
      rw [if_pos h, if_neg hs]
      exact Nat.zero_le _
  · unfold placeF
    rw [if_neg h]
    exact Nat.zero_le _
section
variable {W0 : World} {L : List HP}
theorem BoundE_ct {A A2 : Option Addr} {c c2 : Nat} {l : List AK} {t : List BX} (hv : rd eAK (.slice A l.length c) l ∈ L) (hv2 : rd eBX (.slice A2 t.length c2) t ∈ L) (hc : checkF l t ≠ 0) :
    CT Try.prog 26 #[.slice A l.length c, .slice A2 t.length c2] W0 L fun r L' => r = .tuple #[.int .i64 0, .slice none 0 0, .int .i64 (checkF l t)] ∧ L' = L := by
  refine CT_enter Try.func26 rfl ?_; (simp only [Try.ntmps26, List.size_toArray, List.length_cons, List.length_nil, Nat.reduceAdd, Nat.reduceSub, Array.replicate_succ, Array.replicate_zero, List.push_toArray, List.append_toArray, List.nil_append, List.cons_append])
  repeat' (first | refine go ?_ | intro _ | (apply cG; first | refine cT ?_ | refine cF ?_ | refine cS (fun _ => ?_) fun _ => ?_) | (apply gW; refine sW ?_) | (apply gI; refine sI ?_) | (apply gE; refine sE ?_) | (apply gP; refine sP ?_) | (apply gC; refine sC ?_) | (apply gD; refine sD ?_) | fail)
  refine O_d (dy_call ArgsI.pf (by first | exact rfl | trivial | (intro a b; rfl)) (check_ct (l := l) (t := t) hv hv2)) ?_; rintro _ _ ⟨_, ⟨rfl, hLL⟩, rfl⟩; replace hLL := hLL.symm; subst hLL; refine O_n ?_
  repeat' (first | refine go ?_ | intro _ | (apply cG; first | refine cT ?_ | refine cF ?_ | refine cS (fun _ => ?_) fun _ => ?_) | (apply gW; refine sW ?_) | (apply gI; refine sI ?_) | (apply gE; refine sE ?_) | (apply gP; refine sP ?_) | (apply gC; refine sC ?_) | (apply gD; refine sD ?_) | fail)
  refine E_res3 (by rfl) (by rfl) ⟨rfl, rfl⟩ Sb
theorem LabelPlaces_ct {v vm : Value} {li lm : List Int} {at_ how by_ : Int} (hv : rd eI v li ∈ L) (hl : li.length ≤ 9223372036854775807) (hr : ∀ n ∈ li, I64 n) (hv2 : rd eI vm lm ∈ L) (hl2 : lm.length ≤ 9223372036854775807) (hr2 : ∀ n ∈ lm, I64 n) (ha : I64 at_) (hh : I64 how) (hb : I64 by_) :
    CT Try.prog 7 #[v, vm, .int .i64 at_, .int .i64 how, .int .i64 by_] W0 L fun r L' => r = .bool true ∧ L' = L := by
  refine CT_fact (fun w s => ((Src.sl (.inl hv) s).form)) ?_
  rintro ⟨A0, c0, rfl, hc0⟩
  refine CT_fact (fun w s => ((Src.sl (.inl hv2) s).form)) ?_
  rintro ⟨B0, d0, rfl, hd0⟩
  refine CT.sub ?_ (sub_dup hv)
  refine CT.sub ?_ (sub_dup (.tail _ hv2))
  refine CT_enter Try.func7 rfl ?_; (simp only [Try.ntmps7, List.size_toArray, List.length_cons, List.length_nil, Nat.reduceAdd, Nat.reduceSub, Array.replicate_succ, Array.replicate_zero, List.push_toArray, List.append_toArray, List.nil_append, List.cons_append])
  repeat' (first | refine go ?_ | intro _ | (apply cG; first | refine cT ?_ | refine cF ?_ | refine cS (fun _ => ?_) fun _ => ?_) | (apply gW; refine sW ?_) | (apply gI; refine sI ?_) | (apply gE; refine sE ?_) | (apply gP; refine sP ?_) | (apply gC; refine sC ?_) | (apply gD; refine sD ?_) | fail)
  refine O_d (dy_call ArgsI.pf (by first | exact rfl | trivial | (intro a b; rfl)) (Some_ct (m := 5) (by repeat (first | exact .head _ | refine .tail _ ?_)) hr hl (by decide))) ?_; rintro _ _ ⟨_, ⟨A1, c1, x, rfl, hx4, hxok, rfl⟩, rfl⟩; refine O_n ?_
  repeat' (first | refine go ?_ | intro _ | (apply cG; first | refine cT ?_ | refine cF ?_ | refine cS (fun _ => ?_) fun _ => ?_) | (apply gW; refine sW ?_) | (apply gI; refine sI ?_) | (apply gE; refine sE ?_) | (apply gP; refine sP ?_) | (apply gC; refine sC ?_) | (apply gD; refine sD ?_) | fail)
  refine O_frz 0 ?_
  refine O_d (dy_call ArgsI.pf (by first | exact rfl | trivial | (intro a b; rfl)) (Boxes_ct (m := 3) (by repeat (first | exact .head _ | refine .tail _ ?_)) hr2 hl2 (by decide))) ?_; rintro _ _ ⟨_, ⟨B1, d1, t, rfl, ht3, htok, rfl⟩, rfl⟩; refine O_n ?_
  repeat' (first | refine go ?_ | intro _ | (apply cG; first | refine cT ?_ | refine cF ?_ | refine cS (fun _ => ?_) fun _ => ?_) | (apply gW; refine sW ?_) | (apply gI; refine sI ?_) | (apply gE; refine sE ?_) | (apply gP; refine sP ?_) | (apply gC; refine sC ?_) | (apply gD; refine sD ?_) | fail)
  refine O_frz 0 ?_
  refine O_d (dy_call ArgsI.pf (by first | exact rfl | trivial | (intro a b; rfl)) (Spoilt_ct (l := x) (by repeat (first | exact .head _ | refine .tail _ ?_)) (by omega) ha hh hb)) ?_; rintro _ _ ⟨_, ⟨A2, c2, y, rfl, hy4, rfl⟩, rfl⟩; refine O_n ?_
  refine O_frz 0 ?_
  repeat' (first | refine go ?_ | intro _ | (apply cG; first | refine cT ?_ | refine cF ?_ | refine cS (fun _ => ?_) fun _ => ?_) | (apply gW; refine sW ?_) | (apply gI; refine sI ?_) | (apply gE; refine sE ?_) | (apply gP; refine sP ?_) | (apply gC; refine sC ?_) | (apply gD; refine sD ?_) | fail)
  refine O_d (dy_litS (R := eSX eAK) [⟨.slice A1 x.length c1, x⟩, ⟨.slice A2 y.length c2, y⟩] [.slice A1 x.length c1, .slice A2 y.length c2] (by rfl) (fun m h hs => ⟨⟨rfl, rd_mem hs (by repeat (first | exact .head _ | refine .tail _ ?_))⟩, ⟨rfl, rd_mem hs (by repeat (first | exact .head _ | refine .tail _ ?_))⟩, trivial⟩)) ?_; rintro _ _ ⟨g, rfl, rfl⟩; refine O_n ?_
  refine O_frz 0 ?_
  repeat' (first | refine go ?_ | intro _ | (apply cG; first | refine cT ?_ | refine cF ?_ | refine cS (fun _ => ?_) fun _ => ?_) | (apply gW; refine sW ?_) | (apply gI; refine sI ?_) | (apply gE; refine sE ?_) | (apply gP; refine sP ?_) | (apply gC; refine sC ?_) | (apply gD; refine sD ?_) | fail)
  refine O_d (dy_lit0 eBX rfl) ?_; rintro _ _ ⟨_, rfl, rfl⟩; refine O_n ?_
  repeat' (first | refine go ?_ | intro _ | (apply cG; first | refine cT ?_ | refine cF ?_ | refine cS (fun _ => ?_) fun _ => ?_) | (apply gW; refine sW ?_) | (apply gI; refine sI ?_) | (apply gE; refine sE ?_) | (apply gP; refine sP ?_) | (apply gC; refine sC ?_) | (apply gD; refine sD ?_) | fail)
  refine O_d (dy_lit1 (R := eBX) (⟨1, 0, 0, 0⟩ : BX) (hcs := by rfl) (hel := fun _ _ _ => by rfl)) ?_; rintro _ _ ⟨_, rfl, rfl⟩; refine O_n ?_
  repeat' (first | refine go ?_ | intro _ | (apply cG; first | refine cT ?_ | refine cF ?_ | refine cS (fun _ => ?_) fun _ => ?_) | (apply gW; refine sW ?_) | (apply gI; refine sI ?_) | (apply gE; refine sE ?_) | (apply gP; refine sP ?_) | (apply gC; refine sC ?_) | (apply gD; refine sD ?_) | fail)
  refine O_frz 1 ?_
  rename_i B2 d2
  refine O_d (dy_litS (R := eSX eBX) [⟨.slice B1 t.length d1, t⟩, ⟨.slice B2 (t.length + 1) d2, t ++ [⟨1, 0, 0, 0⟩]⟩] [.slice B1 t.length d1, .slice B2 (t.length + 1) d2] (by rfl) (fun m h hs => ⟨⟨rfl, rd_mem hs (by repeat (first | exact .head _ | refine .tail _ ?_))⟩, ⟨rfl, rd_mem hs (by repeat (first | exact .head _ | refine .tail _ ?_))⟩, trivial⟩)) ?_; rintro _ _ ⟨g2, rfl, rfl⟩; refine O_n ?_
  refine O_frz 0 ?_
  repeat' (first | refine go ?_ | intro _ | (apply cG; first | refine cT ?_ | refine cF ?_ | refine cS (fun _ => ?_) fun _ => ?_) | (apply gW; refine sW ?_) | (apply gI; refine sI ?_) | (apply gE; refine sE ?_) | (apply gP; refine sP ?_) | (apply gC; refine sC ?_) | (apply gD; refine sD ?_) | fail)
  have hf2 := around_in (n := by_) (most := 40) (by decide)
  refine O_d (dy_call ArgsI.pf (by first | exact rfl | trivial | (intro a b; rfl)) (Around_ct (most := 40) hb.1 hb.2 (by decide) (by decide))) ?_; rintro _ _ ⟨_, ⟨rfl, hLL⟩, rfl⟩; replace hLL := hLL.symm; subst hLL; refine O_n ?_
  obtain ⟨f1, hf1⟩ : ∃ f1, around by_ 40 = f1 := ⟨_, rfl⟩
  rw [hf1] at hf2 ⊢
  repeat' (first | refine go ?_ | intro _ | (apply cG; first | refine cT ?_ | refine cF ?_ | refine cS (fun _ => ?_) fun _ => ?_) | (apply gW; refine sW ?_) | (apply gI; refine sI ?_) | (apply gE; refine sE ?_) | (apply gP; refine sP ?_) | (apply gC; refine sC ?_) | (apply gD; refine sD ?_) | fail)
  refine O_d (dy_litP (f := iv) (hf := fun _ => rfl) [1048576, f1, by_] (by rfl)) ?_; rintro _ LI' ⟨_, rfl, hLL⟩; replace hLL : LI' = own _ eI _ _ :: _ := hLL; subst hLL; refine O_n ?_
  refine O_frz 0 ?_
  have hz0 : ∀ z ∈ [(⟨.slice A1 x.length c1, x⟩ : SX AK), ⟨.slice A2 y.length c2, y⟩], z.b.length ≤ 7 ∧ ∃ A c, z.v = .slice A z.b.length c := by
    intro z hz
    simp only [List.mem_cons, List.not_mem_nil, or_false] at hz
    rcases hz with rfl | rfl
    · exact ⟨by dsimp only; omega, A1, c1, rfl⟩
    · exact ⟨by dsimp only; omega, A2, c2, rfl⟩
  have hzl : [(⟨.slice A1 x.length c1, x⟩ : SX AK), ⟨.slice A2 y.length c2, y⟩].length = 2 := rfl
  obtain ⟨zs, hzs⟩ : ∃ zs : List (SX AK), [⟨.slice A1 x.length c1, x⟩, ⟨.slice A2 y.length c2, y⟩] = zs := ⟨_, rfl⟩
  rw [hzs] at hz0 hzl ⊢
  clear hzs
  have ht0 : ∀ z ∈ [(⟨.slice B1 t.length d1, t⟩ : SX BX), ⟨.slice B2 (t.length + 1) d2, t ++ [⟨1, 0, 0, 0⟩]⟩], ∃ A c, z.v = .slice A z.b.length c := by
    intro z hz
    simp only [List.mem_cons, List.not_mem_nil, or_false] at hz
    rcases hz with rfl | rfl
    · exact ⟨B1, d1, rfl⟩
    · exact ⟨B2, d2, by dsimp only; rw [List.length_append]; rfl⟩
  have htl : [(⟨.slice B1 t.length d1, t⟩ : SX BX), ⟨.slice B2 (t.length + 1) d2, t ++ [⟨1, 0, 0, 0⟩]⟩].length = 2 := rfl
  obtain ⟨ts, hts⟩ : ∃ ts : List (SX BX), [⟨.slice B1 t.length d1, t⟩, ⟨.slice B2 (t.length + 1) d2, t ++ [⟨1, 0, 0, 0⟩]⟩] = ts := ⟨_, rfl⟩
  rw [hts] at ht0 htl ⊢
  clear hts
  have hf0 : ∀ f ∈ [1048576, f1, by_], I64 f := by
    intro f hf
    simp only [List.mem_cons, List.not_mem_nil, or_false] at hf
    rcases hf with rfl | rfl | rfl
    · decide
    · exact ⟨by omega, by omega⟩
    · exact hb
  have hfl : [1048576, f1, by_].length = 3 := rfl
  obtain ⟨fs, hfs⟩ : ∃ fs : List Int, [1048576, f1, by_] = fs := ⟨_, rfl⟩
  rw [hfs] at hf0 hfl ⊢
  clear hfs
  repeat' (first | refine go ?_ | intro _ | (apply cG; first | refine cT ?_ | refine cF ?_ | refine cS (fun _ => ?_) fun _ => ?_) | (apply gW; refine sW ?_) | (apply gI; refine sI ?_) | (apply gE; refine sE ?_) | (apply gP; refine sP ?_) | (apply gC; refine sC ?_) | (apply gD; refine sD ?_) | fail)
  rename_i g3
  refine C_loopS (κ := Nat) [false, false, false, false, false, false, false, false, false, false, true, false, false, false, false, false, true, true, true, true, true, true, true, true, true, false, false, false, false, false, false, false, false, false, false, false, false, false, false, false, false, false, false, false, false, false, false, false, false, false, false, false, false, false, false, true, true, true, true, true, true, true, true, true, true, true, true, true, true, true, true, true, true, true, true, true, true, true, true, true, true, true, true, true, true, true, true, true, true, true, true, true, true, true, true, true, true, true, true, true, true, true, true, true, true, true, true, true, true, true, true, true, true, true, true, true, false, false, false, false, false, false, false, false, false, false, false, false, false, false, false, false, false, false, false, false, false] (fun k => [(16, .int .i64 (k : Int))]) (fun k => []) (fun k => k ≤ 2) (fun k => 2 - k) 0 (Nat.zero_le _) ⟨rfl, trivial⟩ ?_
  rintro i u hi
  ((try dsimp only); refine C_n ?_; (try simp only [Nat.reduceAdd, Nat.zero_add]))
  by_cases hi2 : i < 2
  rotate_left
  · repeat' (first | refine go ?_ | intro _ | (apply cG; first | refine cT ?_ | refine cF ?_ | refine cS (fun _ => ?_) fun _ => ?_) | (apply gW; refine sW ?_) | (apply gI; refine sI ?_) | (apply gE; refine sE ?_) | (apply gP; refine sP ?_) | (apply gC; refine sC ?_) | (apply gD; refine sD ?_) | fail)
    refine O_d (dy_makeN (R := eAK) (n := 65) ⟨0, 0, 0, 0, 0⟩) ?_; rintro _ _ ⟨g4, rfl, rfl⟩; refine O_n ?_
    refine O_frz 0 ?_
    refine O_rdnil eBX none 0 ?_
    have hp4 : placeF (List.replicate 65 ⟨0, 0, 0, 0, 0⟩) [] 5 = ([], 0, 4) := by decide +kernel
    have hc4 : checkF (List.replicate 65 ⟨0, 0, 0, 0, 0⟩) [] ≠ 0 := by decide +kernel
    refine O_d (dy_call ArgsI.pf (by first | exact rfl | trivial | (intro a b; rfl)) (Place_ct (l := List.replicate 65 ⟨0, 0, 0, 0, 0⟩) (t := []) (A := some ⟨g4, 0, none⟩) (c := 65) (A2 := none) (c2 := 0) (fuel := 5) (.tail _ (.head _)) (.head _) (by decide) (.inr hc4))) ?_; rintro _ _ ⟨_, ⟨A7, c7, rfl, rfl⟩, rfl⟩; refine O_n ?_
    rw [hp4]
    dsimp only
    repeat' (first | refine go ?_ | intro _ | (apply cG; first | refine cT ?_ | refine cF ?_ | refine cS (fun _ => ?_) fun _ => ?_) | (apply gW; refine sW ?_) | (apply gI; refine sI ?_) | (apply gE; refine sE ?_) | (apply gP; refine sP ?_) | (apply gC; refine sC ?_) | (apply gD; refine sD ?_) | fail)
    refine O_d (dy_makeN (R := eBX) (n := 257) ⟨0, 0, 0, 0⟩) ?_; rintro _ _ ⟨g5, rfl, rfl⟩; refine O_n ?_
    refine O_frz 0 ?_
    refine O_rdnil eAK none 0 ?_
    have hc5 : checkF [] (List.replicate 257 ⟨0, 0, 0, 0⟩) = 4 := by decide +kernel
    refine O_d (dy_call ArgsI.pf (by first | exact rfl | trivial | (intro a b; rfl)) (BoundE_ct (l := []) (t := List.replicate 257 ⟨0, 0, 0, 0⟩) (A := none) (c := 0) (A2 := some ⟨g5, 0, none⟩) (c2 := 257) (.head _) (.tail _ (.head _)) (by rw [hc5]; decide))) ?_; rintro _ _ ⟨_, ⟨rfl, rfl⟩, rfl⟩; refine O_n ?_
    rw [hc5]
    repeat' (first | refine go ?_ | intro _ | (apply cG; first | refine cT ?_ | refine cF ?_ | refine cS (fun _ => ?_) fun _ => ?_) | (apply gW; refine sW ?_) | (apply gI; refine sI ?_) | (apply gE; refine sE ?_) | (apply gP; refine sP ?_) | (apply gC; refine sC ?_) | (apply gD; refine sD ?_) | fail)
    refine O_d (dy_call ArgsI.pf (by first | exact rfl | trivial | (intro a b; rfl)) (lives_ct)) ?_; rintro _ _ ⟨_, ⟨rfl, hLL⟩, rfl⟩; replace hLL := hLL.symm; subst hLL; refine O_n ?_
    repeat' (first | refine go ?_ | intro _ | (apply cG; first | refine cT ?_ | refine cF ?_ | refine cS (fun _ => ?_) fun _ => ?_) | (apply gW; refine sW ?_) | (apply gI; refine sI ?_) | (apply gE; refine sE ?_) | (apply gP; refine sP ?_) | (apply gC; refine sC ?_) | (apply gD; refine sD ?_) | fail)
    refine E_res1 (by rfl) (by rfl) ⟨rfl, rfl⟩ Sb
  obtain ⟨z, hz⟩ : ∃ z, zs[i]? = some z := ⟨_, List.getElem?_eq_getElem (by omega)⟩
  have haz : At zs i z := ⟨hz⟩
  obtain ⟨hz4, Az, cz, hzv⟩ := hz0 z (List.mem_of_getElem? hz)
  have hec : EncC (eSX eAK) z [.slice Az z.b.length cz] := ⟨fun m cs h => by rw [h.1, hzv]⟩
  refine C_sub (sub_peekX (v := .slice (some ⟨g, 0, none⟩) 2 2) (l := zs) (R := eAK) (by repeat (first | exact .head _ | refine .tail _ ?_)) hz) ?_
  rw [hzv]
  repeat' (first | refine go ?_ | intro _ | (apply cG; first | refine cT ?_ | refine cF ?_ | refine cS (fun _ => ?_) fun _ => ?_) | (apply gW; refine sW ?_) | (apply gI; refine sI ?_) | (apply gE; refine sE ?_) | (apply gP; refine sP ?_) | (apply gC; refine sC ?_) | (apply gD; refine sD ?_) | fail)
  refine C_loopS (κ := Nat) [false, false, false, false, false, false, false, false, false, false, true, false, false, false, false, false, false, true, true, true, true, true, true, true, true, false, false, false, false, false, false, false, false, false, false, false, false, false, false, false, false, false, false, false, false, false, false, false, false, false, false, false, false, false, false, false, false, false, false, true, true, true, true, true, true, true, true, true, true, true, true, true, true, true, true, true, true, true, true, true, true, true, true, true, true, true, true, true, true, true, true, true, true, true, true, true, true, true, true, true, true, true, true, true, true, true, true, true, true, true, true, true, true, true, true, true, false, false, false, false, false, false, false, false, false, false, false, false, false, false, false, false, false, false, false, false, false] (fun k => [(17, .int .i64 (k : Int))]) (fun k => []) (fun k => k ≤ 2) (fun k => 2 - k) 0 (Nat.zero_le _) ⟨rfl, trivial⟩ ?_
  rintro k u2 hk
  ((try dsimp only); refine C_n ?_; (try simp only [Nat.reduceAdd, Nat.zero_add]))
  by_cases hk2 : k < 2
  rotate_left
  · repeat' (first | refine go ?_ | intro _ | (apply cG; first | refine cT ?_ | refine cF ?_ | refine cS (fun _ => ?_) fun _ => ?_) | (apply gW; refine sW ?_) | (apply gI; refine sI ?_) | (apply gE; refine sE ?_) | (apply gP; refine sP ?_) | (apply gC; refine sC ?_) | (apply gD; refine sD ?_) | fail)
    exact E_round (i + 1) hi2 (by omega) ⟨rfl, trivial⟩ Sb
  obtain ⟨tz, htz⟩ : ∃ tz, ts[k]? = some tz := ⟨_, List.getElem?_eq_getElem (by omega)⟩
  have hatz : At ts k tz := ⟨htz⟩
  obtain ⟨Bz, dz, htv⟩ := ht0 tz (List.mem_of_getElem? htz)
  have hec2 : EncC (eSX eBX) tz [.slice Bz tz.b.length dz] := ⟨fun m cs h => by rw [h.1, htv]⟩
  refine C_sub (sub_peekX (v := .slice (some ⟨g2, 0, none⟩) 2 2) (l := ts) (R := eBX) (by repeat (first | exact .head _ | refine .tail _ ?_)) htz) ?_
  rw [htv]
  repeat' (first | refine go ?_ | intro _ | (apply cG; first | refine cT ?_ | refine cF ?_ | refine cS (fun _ => ?_) fun _ => ?_) | (apply gW; refine sW ?_) | (apply gI; refine sI ?_) | (apply gE; refine sE ?_) | (apply gP; refine sP ?_) | (apply gC; refine sC ?_) | (apply gD; refine sD ?_) | fail)
  refine C_loopS (κ := Nat) [false, false, false, false, false, false, false, false, false, false, true, false, false, false, false, false, false, false, true, true, true, true, true, true, true, false, false, false, false, false, false, false, false, false, false, false, false, false, false, false, false, false, false, false, false, false, false, false, false, false, false, false, false, false, false, false, false, false, false, false, false, false, false, true, true, true, true, true, true, true, true, true, true, true, true, true, true, true, true, true, true, true, true, true, true, true, true, true, true, true, true, true, true, true, true, true, true, true, true, true, true, true, true, true, true, true, true, true, true, true, true, true, true, true, true, true, false, false, false, false, false, false, false, false, false, false, false, false, false, false, false, false, false, false, false, false, false] (fun k => [(18, .int .i64 (k : Int))]) (fun k => []) (fun k => k ≤ 3) (fun k => 3 - k) 0 (Nat.zero_le _) ⟨rfl, trivial⟩ ?_
  rintro j u3 hj
  ((try dsimp only); refine C_n ?_; (try simp only [Nat.reduceAdd, Nat.zero_add]))
  by_cases hj3 : j < 3
  rotate_left
  · repeat' (first | refine go ?_ | intro _ | (apply cG; first | refine cT ?_ | refine cF ?_ | refine cS (fun _ => ?_) fun _ => ?_) | (apply gW; refine sW ?_) | (apply gI; refine sI ?_) | (apply gE; refine sE ?_) | (apply gP; refine sP ?_) | (apply gC; refine sC ?_) | (apply gD; refine sD ?_) | fail)
    exact E_round (k + 1) hk2 (by omega) ⟨rfl, trivial⟩ Sb
  obtain ⟨f, hfj⟩ : ∃ f, fs[j]? = some f := ⟨_, List.getElem?_eq_getElem (by omega)⟩
  have haf : At fs j f := ⟨hfj⟩
  have hff := hf0 f (List.mem_of_getElem? hfj)
  obtain ⟨⟨pl, pn, pe⟩, hpf⟩ : ∃ q, placeF z.b tz.b f = q := ⟨_, rfl⟩
  repeat' (first | refine go ?_ | intro _ | (apply cG; first | refine cT ?_ | refine cF ?_ | refine cS (fun _ => ?_) fun _ => ?_) | (apply gW; refine sW ?_) | (apply gI; refine sI ?_) | (apply gE; refine sE ?_) | (apply gP; refine sP ?_) | (apply gC; refine sC ?_) | (apply gD; refine sD ?_) | fail)
  refine C_draw (n := 99) [rd (eSX eAK) (.slice (some ⟨g, 0, none⟩) 2 2) zs, rd (eSX eBX) (.slice (some ⟨g2, 0, none⟩) 2 2) ts, rd eI (.slice (some ⟨g3, 0, none⟩) 3 3) fs] [(0, 1), (1, 1), (2, 1), (3, 1), (5, 1), (6, 1), (7, 1), (8, 1), (9, 1), (10, 1), (11, 1), (12, 1), (4, 0), (13, 0), (14, 1), (15, 1), (16, 1), (17, 1), (18, 1), (19, 1), (20, 1)] (by kernel_rfl) (by kernel_rfl) Sb ?_
  repeat' (first | refine go ?_ | intro _ | (apply cG; first | refine cT ?_ | refine cF ?_ | refine cS (fun _ => ?_) fun _ => ?_) | (apply gW; refine sW ?_) | (apply gI; refine sI ?_) | (apply gE; refine sE ?_) | (apply gP; refine sP ?_) | (apply gC; refine sC ?_) | (apply gD; refine sD ?_) | fail)
  refine D_op rfl ?_; refine X_d (dy_call ArgsI.pf (by first | exact rfl | trivial | (intro a b; rfl)) (own_ct (l := z.b) (by repeat (first | exact .head _ | refine .tail _ ?_)) (by omega))) ?_; rintro _ _ ⟨_, ⟨A3, c3, rfl, rfl⟩, rfl⟩; refine ⟨(by first | exact .inl rfl | exact .inr Sb), D_n ?_⟩
  refine D_frz 0 ?_
  repeat' (first | refine go ?_ | intro _ | (apply cG; first | refine cT ?_ | refine cF ?_ | refine cS (fun _ => ?_) fun _ => ?_) | (apply gW; refine sW ?_) | (apply gI; refine sI ?_) | (apply gE; refine sE ?_) | (apply gP; refine sP ?_) | (apply gC; refine sC ?_) | (apply gD; refine sD ?_) | fail)
  refine D_op rfl ?_; refine X_d (dy_call ArgsI.pf (by first | exact rfl | trivial | (intro a b; rfl)) (Place_ct (l := z.b) (t := tz.b) (fuel := f) (by repeat (first | exact .head _ | refine .tail _ ?_)) (by repeat (first | exact .head _ | refine .tail _ ?_)) hff (.inl (by omega)))) ?_; rintro _ _ ⟨_, ⟨A4, c4, rfl, rfl⟩, rfl⟩; refine ⟨(by first | exact .inl rfl | exact .inr Sb), D_n ?_⟩
  rw [hpf]
  dsimp only
  repeat' (first | refine go ?_ | intro _ | (apply cG; first | refine cT ?_ | refine cF ?_ | refine cS (fun _ => ?_) fun _ => ?_) | (apply gW; refine sW ?_) | (apply gI; refine sI ?_) | (apply gE; refine sE ?_) | (apply gP; refine sP ?_) | (apply gC; refine sC ?_) | (apply gD; refine sD ?_) | fail)
  refine C_draw (n := 99) [rd (eSX eAK) (.slice (some ⟨g, 0, none⟩) 2 2) zs, rd (eSX eBX) (.slice (some ⟨g2, 0, none⟩) 2 2) ts, rd eI (.slice (some ⟨g3, 0, none⟩) 3 3) fs] [(0, 1), (1, 1), (2, 1), (3, 1), (4, 1), (5, 1), (6, 1), (7, 1), (8, 1), (9, 1), (10, 1), (11, 1), (12, 0), (13, 1), (14, 1), (15, 1), (16, 1), (17, 1), (18, 1), (19, 1)] (by kernel_rfl) (by kernel_rfl) Sb ?_
  repeat' (first | refine go ?_ | intro _ | (apply cG; first | refine cT ?_ | refine cF ?_ | refine cS (fun _ => ?_) fun _ => ?_) | (apply gW; refine sW ?_) | (apply gI; refine sI ?_) | (apply gE; refine sE ?_) | (apply gP; refine sP ?_) | (apply gC; refine sC ?_) | (apply gD; refine sD ?_) | fail)
  refine D_op rfl ?_; refine X_d (dy_call ArgsI.pf (by first | exact rfl | trivial | (intro a b; rfl)) (rPlace_ct (l := z.b) (t := tz.b) (fuel := f) (by repeat (first | exact .head _ | refine .tail _ ?_)) (by repeat (first | exact .head _ | refine .tail _ ?_)) hff (.inl (by omega)))) ?_; rintro _ _ ⟨_, ⟨A5, c5, rfl, rfl⟩, rfl⟩; refine ⟨(by first | exact .inl rfl | exact .inr Sb), D_n ?_⟩
  rw [hpf]
  dsimp only
  repeat' (first | refine go ?_ | intro _ | (apply cG; first | refine cT ?_ | refine cF ?_ | refine cS (fun _ => ?_) fun _ => ?_) | (apply gW; refine sW ?_) | (apply gI; refine sI ?_) | (apply gE; refine sE ?_) | (apply gP; refine sP ?_) | (apply gC; refine sC ?_) | (apply gD; refine sD ?_) | fail)
  have hpl : pl.length ≤ 100000000 := by
    have := placeF_len z.b tz.b f
    rw [hpf] at this
    dsimp only at this
    omega
  refine O_d (dy_call ArgsI.pf (by first | exact rfl | trivial | (intro a b; rfl)) (SameInts_ct (la := pl) (lb := pl) (q := true) Sc.pf Sc.pf (by omega) (by omega) (decide_eq_true rfl))) ?_; rintro _ _ ⟨_, ⟨rfl, hLL⟩, rfl⟩; replace hLL := hLL.symm; subst hLL; refine O_n ?_
  repeat' (first | refine go ?_ | intro _ | (apply cG; first | refine cT ?_ | refine cF ?_ | refine cS (fun _ => ?_) fun _ => ?_) | (apply gW; refine sW ?_) | (apply gI; refine sI ?_) | (apply gE; refine sE ?_) | (apply gP; refine sP ?_) | (apply gC; refine sC ?_) | (apply gD; refine sD ?_) | fail)
  exact E_round (j + 1) hj3 (by omega) ⟨rfl, trivial⟩ Sb
end
theorem LabelPlaces_any {v vm : Value} {li lm : List Int} {at_ how by_ : Int} {w : World} (s : St w w [rd eI v li, rd eI vm lm]) (hl : li.length ≤ 9223372036854775807) (hr : ∀ n ∈ li, I64 n) (hl2 : lm.length ≤ 9223372036854775807) (hr2 : ∀ n ∈ lm, I64 n) (ha : I64 at_) (hh : I64 how) (hb : I64 by_) :
    Calls Try.prog 7 #[v, vm, .int .i64 at_, .int .i64 how, .int .i64 by_] w fun e w' => e = .returned (.bool true) ∧ Below w.heap.size w w' :=
  ((LabelPlaces_ct (W0 := w) (.head _) hl hr (.tail _ (.head _)) hl2 hr2 ha hh hb).run w s).mono fun e w' h => by
    obtain ⟨v, L', rfl, ⟨rfl, rfl⟩, s⟩ := h
    exact ⟨rfl, s.below⟩
end Go.Proofs.Yteeapkfakehocaa
namespace Go.Proofs.Yteeapkfakehocaa
open Go Go.RowKit
set_option linter.unusedVariables false
set_option linter.unusedSimpArgs false
/-- the boxes of a list of positions, the weight, the error -/
def collF : List AK → List Int → List BX → Int → List BX × Int × Int
  | a :: l, p :: ps, bx, w => if p < 0 then collF l ps bx w else if (boxF a p).2 = 0 then collF l ps (bx ++ [(boxF a p).1]) (w + a.g) else (bx, w, (boxF a p).2)
  | _, _, bx, w => (bx, w, 0)
def conF (t : List BX) : List BX → List BX → Bool
  | _, [] => false
  | pre, b :: r => !freeF b t || !freeF b pre || conF t (pre ++ [b]) r
def valF (l : List AK) (t : List BX) (p : List Int) : Int × Int :=
  if checkF l t ≠ 0 then (0, checkF l t) else if p.length ≠ l.length ∨ ∃ q ∈ p, q < -1 ∨ 3 < q then (0, 1) else
    if (collF l p [] 0).2.2 ≠ 0 then (0, (collF l p [] 0).2.2) else if conF t [] (collF l p [] 0).1 then (0, 13) else ((collF l p [] 0).2.1, 0)
theorem boxF_err {a : AK} {p : Int} (h : (boxF a p).2 ≠ 0) (hg : a.good) (h0 : 0 ≤ p) (h3 : p ≤ 3) : (boxF a p).2 = 5 := by
  unfold boxF at h ⊢
  rw [if_pos ⟨hg, h0, h3⟩] at h ⊢
  split
  · rename_i hb; rw [if_pos hb] at h; exact absurd rfl h
  · rfl
theorem coll_spec (t : List BX) : ∀ {ls : List AK} {ps : List Int} {bx : List BX} {w0 : Int}, ps.length = ls.length → (∀ p ∈ ps, -1 ≤ p ∧ p ≤ 3) → (∀ a ∈ ls, a.good) →
    ((collF ls ps bx w0).2.2 = 0 ∧ ∃ new, (collF ls ps bx w0).1 = bx ++ new ∧ okc t ls ps bx = if conF t bx new = true then none else some ((collF ls ps bx w0).2.1 - w0)) ∨ ((collF ls ps bx w0).2.2 = 5 ∧ okc t ls ps bx = none)
  | [], [], bx, w0, _, _, _ => .inl ⟨rfl, [], by show bx = _; simp, by simp [okc, collF, conF]⟩
  | [], p :: ps, bx, w0, h, _, _ => by simp at h
  | a :: ls, [], bx, w0, h, _, _ => by simp at h
  | a :: ls, p :: ps, bx, w0, h, hp, hg => by
    have hp0 := hp p (.head _)
    have hl : ps.length = ls.length := by simpa using h
    have hp' : ∀ q ∈ ps, -1 ≤ q ∧ q ≤ 3 := fun q hq => hp q (.tail _ hq)
    have hg' : ∀ b ∈ ls, b.good := fun b hb => hg b (.tail _ hb)
    unfold collF okc
    by_cases h1 : p = -1
    · rw [if_pos (by omega), if_pos h1]
      exact coll_spec t hl hp' hg'
    rw [if_neg (by omega), if_neg h1]
    by_cases hb : (boxF a p).2 = 0
    · rw [if_pos hb]
      rcases coll_spec t (bx := bx ++ [(boxF a p).1]) (w0 := w0 + a.g) hl hp' hg' with ⟨h2, new, h3, h4⟩ | ⟨h2, h3⟩
      · refine .inl ⟨h2, (boxF a p).1 :: new, by rw [h3, List.append_assoc]; rfl, ?_⟩
        unfold conF
        by_cases hf : freeF (boxF a p).1 t = true ∧ freeF (boxF a p).1 bx = true
        · rw [if_pos ⟨hb, hf.1, hf.2⟩, h4, hf.1, hf.2]
          simp only [Bool.not_true, Bool.false_or]
          split
          · rfl
          · rw [Option.map_some]
            congr 1
            omega
        · rw [if_neg (fun h => hf h.2)]
          rw [if_pos]
          simp only [Bool.or_eq_true, Bool.not_eq_true']
          by_cases hf1 : freeF (boxF a p).1 t = true
          · exact .inl (.inr (by simpa using fun h => hf ⟨hf1, h⟩))
          · exact .inl (.inl (by simpa using hf1))
      · exact .inr ⟨h2, by rw [h3]; split <;> rfl⟩
    · rw [if_neg hb, if_neg (fun h => hb h.1)]
      exact .inr ⟨boxF_err hb (hg a (.head _)) (by omega) hp0.2, rfl⟩
theorem val_ok {l : List AK} {t : List BX} {p : List Int} (hc : checkF l t = 0) (hl : p.length = l.length) (hp : ∀ q ∈ p, -1 ≤ q ∧ q ≤ 3) (hg : ∀ a ∈ l, a.good) :
    (∃ w, okc t l p [] = some w ∧ valF l t p = (w, 0)) ∨ (okc t l p [] = none ∧ (valF l t p = (0, 5) ∨ valF l t p = (0, 13))) := by
  have e1 : ¬ (p.length ≠ l.length ∨ ∃ q ∈ p, q < -1 ∨ 3 < q) := by
    rintro (h | ⟨q, hq, h⟩)
    · exact h hl
    · have := hp q hq
      omega
  unfold valF
  rw [if_neg (by simp [hc]), if_neg e1]
  rcases coll_spec t (bx := []) (w0 := 0) hl hp hg with ⟨h2, new, h3, h4⟩ | ⟨h2, h3⟩
  · rw [List.nil_append] at h3
    rw [if_neg (by simp [h2]), h3]
    by_cases hcf : conF t [] new = true
    · rw [if_pos hcf] at h4 ⊢
      exact .inr ⟨h4, .inr rfl⟩
    · rw [if_neg hcf] at h4 ⊢
      rw [Int.sub_zero] at h4
      exact .inl ⟨_, h4, rfl⟩
  · rw [if_pos (by simp [h2]), h2]
    exact .inr ⟨h3, .inl rfl⟩
/-! ### moved -/
def AK.mv (dx dy : Int) (a : AK) : AK := ⟨a.x + dx, a.y + dy, a.w, a.h, a.g⟩
def BX.mv (dx dy : Int) (b : BX) : BX := ⟨b.x0 + dx, b.y0 + dy, b.x1 + dx, b.y1 + dy⟩
section
variable {dx dy : Int}
/-- boxes in all positions, before and after -/
structure MvOk (dx dy : Int) (a : AK) : Prop where
  g : a.good
  g' : (a.mv dx dy).good
  b : ∀ p, 0 ≤ p → p ≤ 3 → (boxA a p).good
  b' : ∀ p, 0 ≤ p → p ≤ 3 → (boxA (a.mv dx dy) p).good
theorem boxA_mv {a : AK} {p : Int} : boxA (a.mv dx dy) p = (boxA a p).mv dx dy := by
  unfold boxA AK.mv BX.mv
  dsimp only
  congr 1 <;> split <;> omega
theorem boxF_mv {a : AK} (h : MvOk dx dy a) {p : Int} (h0 : 0 ≤ p) (h3 : p ≤ 3) : boxF a p = (boxA a p, 0) ∧ boxF (a.mv dx dy) p = ((boxA a p).mv dx dy, 0) := by
  unfold boxF
  rw [if_pos ⟨h.g, h0, h3⟩, if_pos (h.b p h0 h3)]
  refine ⟨rfl, ?_⟩
  rw [if_pos ⟨h.g', h0, h3⟩, if_pos (h.b' p h0 h3), boxA_mv]
theorem ovF_mv {a b : BX} : ovF (a.mv dx dy) (b.mv dx dy) = ovF a b := by
  unfold ovF BX.mv
  dsimp only
  have e : ∀ x y z u d : Int, max (x + d) (y + d) < min (z + d) (u + d) ↔ max x y < min z u := by
    intro x y z u d
    omega
  simp only [e]
theorem freeF_mv {b : BX} : ∀ {t : List BX}, freeF (b.mv dx dy) (t.map (BX.mv dx dy)) = freeF b t
  | [] => rfl
  | c :: t => by
    have := freeF_mv (b := b) (t := t)
    unfold freeF at this ⊢
    rw [List.map_cons, List.all_cons, List.all_cons, ovF_mv, this]
theorem choF_mv {a : AK} {t : List BX} (h : MvOk dx dy a) : choF (a.mv dx dy) (t.map (BX.mv dx dy)) = (choF a t).map fun c => (c.1, c.2.mv dx dy) := by
  have e : ∀ l : List Int, (∀ p ∈ l, 0 ≤ p ∧ p ≤ 3) → l.filterMap (fun p => if (boxF (a.mv dx dy) p).2 = 0 ∧ freeF (boxF (a.mv dx dy) p).1 (t.map (BX.mv dx dy)) = true then some (p, (boxF (a.mv dx dy) p).1) else none) =
      (l.filterMap fun p => if (boxF a p).2 = 0 ∧ freeF (boxF a p).1 t = true then some (p, (boxF a p).1) else none).map fun c => (c.1, c.2.mv dx dy) := by
    intro l
    induction l with
    | nil => intro _; rfl
    | cons p l ih =>
      intro hp
      have h0 := hp p (.head _)
      have ih := ih fun q hq => hp q (.tail _ hq)
      obtain ⟨e1, e2⟩ := boxF_mv h h0.1 h0.2
      rw [List.filterMap_cons, List.filterMap_cons, ih, e1, e2]
      dsimp only
      rw [freeF_mv]
      by_cases hf : freeF (boxA a p) t = true
      · simp [hf]
      · simp [hf]
  unfold choF
  exact e _ (by decide)
theorem comps_mv {t : List BX} : ∀ {ls : List AK} {bx : List BX}, (∀ a ∈ ls, MvOk dx dy a) → comps (t.map (BX.mv dx dy)) (ls.map (AK.mv dx dy)) (bx.map (BX.mv dx dy)) = comps t ls bx
  | [], _, _ => rfl
  | a :: ls, bx, h => by
    have h' : ∀ b ∈ ls, MvOk dx dy b := fun b hb => h b (.tail _ hb)
    rw [List.map_cons]
    unfold comps
    rw [choF_mv (h a (.head _)), comps_mv h']
    congr 1
    rw [List.flatMap_map]
    congr 1
    funext c
    dsimp only
    rw [freeF_mv]
    have : (bx.map (BX.mv dx dy)) ++ [c.2.mv dx dy] = (bx ++ [c.2]).map (BX.mv dx dy) := by rw [List.map_append]; rfl
    rw [this, comps_mv h']
    rfl
theorem best_mv {t : List BX} {ls : List AK} (h : ∀ a ∈ ls, MvOk dx dy a) : bestF (ls.map (AK.mv dx dy)) (t.map (BX.mv dx dy)) = bestF ls t := by
  unfold bestF
  have := comps_mv (t := t) (bx := []) h
  rw [List.map_nil] at this
  rw [this]
end
end Go.Proofs.Yteeapkfakehocaa
