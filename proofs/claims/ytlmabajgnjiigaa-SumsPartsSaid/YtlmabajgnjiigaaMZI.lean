/-
  The law SumsParts.
-/
import Derived.Test.YtlmabajgnjiigaaMZH
import Derived.Test.YtlmabajgnjiigaaMM
import Derived.Test.YtlmabajgnjiigaaMC
namespace Go.Proofs.Ytlmabajgnjiigaa
open Go Go.RowKit
set_option linter.unusedVariables false
set_option linter.unusedSimpArgs false
set_option maxRecDepth 20000
set_option synthInstance.maxSize 100000
set_option synthInstance.maxHeartbeats 400000
section
variable {W0 : World} {L : List HP}
set_option maxHeartbeats 4000000 in
theorem SumsParts_ct {v : Value} {li : List Int} {n gr : Int} (hv : rd eI v li ∈ L) (hl : li.length ≤ 9223372036854775807) (hr : ∀ n ∈ li, I64 n) (hn : I64 n) (hgr : I64 gr) :
    CT Try.prog 4 #[v, .int .i64 n, .int .i64 gr] W0 L fun r L' => r = .bool true ∧ L' = L := by
  obtain ⟨hn1, hn2⟩ := hn
  obtain ⟨hgr1, hgr2⟩ := hgr
  refine CT_fact (fun w s => ((Src.sl (.inl hv) s).form)) ?_
  rintro ⟨A0, c0, rfl, hc0⟩
  refine CT.sub ?_ (sub_dup hv)
  refine CT_enter Try.func4 rfl ?_; (simp only [Try.ntmps4, List.size_toArray, List.length_cons, List.length_nil, Nat.reduceAdd, Nat.reduceSub, Array.replicate_succ, Array.replicate_zero, List.push_toArray, List.append_toArray, List.nil_append, List.cons_append])
  repeat' (first | refine go ?_ | intro _ | (apply cG; first | refine cT ?_ | refine cF ?_ | refine cS (fun _ => ?_) fun _ => ?_) | (apply gW; refine sW ?_) | (apply gI; refine sI ?_) | (apply gE; refine sE ?_) | (apply gP; refine sP ?_) | (apply gC; refine sC ?_) | (apply gD; refine sD ?_) | fail)
  refine O_d (dy_call ArgsI.pf (by first | exact rfl | trivial | (intro a b; rfl)) (rSome_ct (l := li) (.head _) hr hl)) ?_; rintro _ _ ⟨_, ⟨t, G, rfl, ⟨hc, hxs, hU9, hG3, hu49⟩, rfl⟩, rfl⟩; refine O_n ?_
  obtain ⟨p, A1, B1, C1, ca, cb, cc, U, F, xs⟩ := t
  dsimp only at hc hxs hU9 hu49 ⊢
  have hs49 := sumL_49 hu49
  have hFl := hc.len
  have hxl : xs.length = G.length := by rw [← hxs, List.length_map]
  repeat' (first | refine go ?_ | intro _ | (apply cG; first | refine cT ?_ | refine cF ?_ | refine cS (fun _ => ?_) fun _ => ?_) | (apply gW; refine sW ?_) | (apply gI; refine sI ?_) | (apply gE; refine sE ?_) | (apply gP; refine sP ?_) | (apply gC; refine sC ?_) | (apply gD; refine sD ?_) | fail)
  refine O_d (dy_call ArgsI.pf (by first | exact rfl | trivial | (intro a b; rfl)) (made_ok (t := ⟨p, A1, B1, C1, ca, cb, cc, U, F, xs⟩) ⟨.head _, .tail _ (.head _), .tail _ (.tail _ (.head _)), .tail _ (.tail _ (.tail _ (.head _)))⟩ hxs (by dsimp only; omega) (by omega) hc (by dsimp only; omega))) ?_; rintro _ _ ⟨_, ⟨T, hT, rfl, rfl⟩, rfl⟩; refine O_n ?_
  dsimp only at hT
  repeat' (first | refine go ?_ | intro _ | (apply cG; first | refine cT ?_ | refine cF ?_ | refine cS (fun _ => ?_) fun _ => ?_) | (apply gW; refine sW ?_) | (apply gI; refine sI ?_) | (apply gE; refine sE ?_) | (apply gP; refine sP ?_) | (apply gC; refine sC ?_) | (apply gD; refine sD ?_) | fail)
  have hLl := lstF_len (k := around n 1048576) U.length
  have hLi := fun x hx => lstF_in (k := around n 1048576) (n := U.length) (x := x) hx
  have hLa := lstF_asc (k := around n 1048576) (n := U.length)
  refine O_d (dy_call ArgsI.pf (by first | exact rfl | trivial | (intro a b; rfl)) (rList_ct (t := ⟨p, A1, B1, C1, ca, cb, cc, U, F, xs⟩) ⟨.tail _ (.head _), .tail _ (.tail _ (.head _)), .tail _ (.tail _ (.tail _ (.head _))), .tail _ (.tail _ (.tail _ (.tail _ (.head _))))⟩ (by dsimp only; omega) ⟨hn1, hn2⟩)) ?_; rintro _ _ ⟨_, ⟨A2, c2, rfl, rfl⟩, rfl⟩; refine O_n ?_
  dsimp only
  obtain ⟨la, hla⟩ : ∃ la, lstF (around n 1048576) U.length = la := ⟨_, rfl⟩
  rw [hla] at hLl hLi hLa ⊢
  refine O_frz 0 ?_
  have hca := covE_ok hLi hLa
  have hco : covO F G U.length la = covF F G la := by unfold covO; rw [if_pos hca]
  have hol := covF_len hc (l := la)
  have hai := fun y hy => ats_in hc hLi (y := y) hy
  have hcn := covF_cnt hc hLa
  have hkm := fun y hy => covF_mem hc (l := la) (y := y) hy
  repeat' (first | refine go ?_ | intro _ | (apply cG; first | refine cT ?_ | refine cF ?_ | refine cS (fun _ => ?_) fun _ => ?_) | (apply gW; refine sW ?_) | (apply gI; refine sI ?_) | (apply gE; refine sE ?_) | (apply gP; refine sP ?_) | (apply gC; refine sC ?_) | (apply gD; refine sD ?_) | fail)
  refine O_d (dy_call ArgsI.pf (by first | exact rfl | trivial | (intro a b; rfl)) (CT.pull (i := 1) (by rfl) (Cover_ct (l := la) hT hc (by omega) (.head _) (by omega) (by omega)))) ?_; rintro _ _ ⟨_, ⟨A3, c3, rfl, rfl⟩, rfl⟩; refine O_n ?_
  rw [hca, hco]
  obtain ⟨o, ho⟩ : ∃ o, covF F G la = o := ⟨_, rfl⟩
  rw [ho] at hol hai hcn hkm ⊢
  refine O_frz 0 ?_
  repeat' (first | refine go ?_ | intro _ | (apply cG; first | refine cT ?_ | refine cF ?_ | refine cS (fun _ => ?_) fun _ => ?_) | (apply gW; refine sW ?_) | (apply gI; refine sI ?_) | (apply gE; refine sE ?_) | (apply gP; refine sP ?_) | (apply gC; refine sC ?_) | (apply gD; refine sD ?_) | fail)
  refine O_d (dy_make (f := Value.int .i64) (hf := fun _ => rfl) 0 (n := U.length) rfl Ev.pf Ev.pf (by omega) (by omega)) ?_; rintro _ _ ⟨gt, rfl, rfl⟩; refine O_n ?_
  rw [← tmL_nil]
  repeat' (first | refine go ?_ | intro _ | (apply cG; first | refine cT ?_ | refine cF ?_ | refine cS (fun _ => ?_) fun _ => ?_) | (apply gW; refine sW ?_) | (apply gI; refine sI ?_) | (apply gE; refine sE ?_) | (apply gP; refine sP ?_) | (apply gC; refine sC ?_) | (apply gD; refine sD ?_) | fail)
  refine C_sub (S := own 3 eI (.slice (some ⟨gt, 0, none⟩) U.length U.length) (tmL U.length (flatF F G (o.take 0))) :: rd ePr (.slice A3 o.length c3) o :: tbl T :: rd eI (.slice A2 la.length c2) la :: cel p [.slice A1 U.length ca, .slice B1 F.length cb, .slice C1 xs.length cc] 32 :: rd eI (.slice A1 U.length ca) U :: rd eI (.slice B1 F.length cb) F :: rd (eSX eI) (.slice C1 xs.length cc) xs :: L) Sb ?_
  refine C_loopS (κ := Nat) [false, false, false, false, false, false, true, false, false, false, false, false, false, false, true, true, true, false, false, false, false, false, false, false, false, false, false, false, false, false, false, false, false, false, false, false, false, false, false, false, false, false, false, false, false, false, false, false, false, false, false, false, false, false, false, false, false, false, false, false, false, false, true, true, true, true, true, true, true, true, true, true, true, true, true, true, true, true, true, true, true, true, true, true, true, true, true, true, true, true, true, true, true, true, true, true, true, true, true, true, true, true, true, true, true, true, true, true, true, true, true, true, true, true, true, true, true, true, true, true, true, true, true, true, false, false, false, false, false, false, false, false, false, false, false, false, false, false, false, false, false, false, false, false, false, false, false, false, false, false, false, false, false, false, false, false, false, false, false, false, false, false, false, false, false, false, false, false, false, false, false, false, false, false, false, false, false, false, false, false, false, false, false, false, false, false, false, false, false, false, false, false, false, false, false, false, false, false, false, false, false, false, false, false, false] (fun k => [(14, .int .i64 (k : Int))]) (fun k => [(0, own 3 eI (.slice (some ⟨gt, 0, none⟩) U.length U.length) (tmL U.length (flatF F G (o.take k))))]) (fun k => k ≤ o.length) (fun k => o.length - k) 0 (Nat.zero_le _) ⟨rfl, trivial⟩ ?_
  rintro i u hi
  ((try dsimp only); refine C_n ?_; (try simp only [Nat.reduceAdd, Nat.zero_add]))
  by_cases hio : i < o.length
  · obtain ⟨y, hy⟩ : ∃ y, o[i]? = some y := ⟨_, List.getElem?_eq_getElem (by omega)⟩
    have hay : At o i y := ⟨hy⟩
    have hyo := List.mem_of_getElem? hy
    have hya := hai y hyo
    have hatl : (atsF F G y).length ≤ 1000 := by
      unfold atsF
      split
      · have := mbrF_len (F := F) (G := G) (s := y.1) (g := y.2)
        omega
      · show 1 ≤ 1000
        decide
    have htk : o.take (i + 1) = o.take i ++ [y] := by rw [List.take_add_one, hy]; rfl
    have hfl : ∀ (k a : Nat), (flatF F G (o.take i) ++ (atsF F G y).take k).count (a : Int) ≤ 1 := fun k a => by
      have h1 := hcn (a : Int)
      have h2 : flatF F G o = flatF F G (o.take i) ++ (atsF F G y ++ flatF F G (o.drop (i + 1))) := by
        rw [← flatF_one, ← flatF_app, ← flatF_app]
        congr 1
        conv => lhs; rw [← List.take_append_drop i o]
        rw [List.drop_eq_getElem_cons hio, (List.getElem?_eq_some_iff.1 hy).2]
        rfl
      have h3 := (List.take_sublist k (atsF F G y)).count_le (a : Int)
      rw [h2, List.count_append, List.count_append] at h1
      rw [List.count_append]
      split at h1 <;> omega
    repeat' (first | refine go ?_ | intro _ | (apply cG; first | refine cT ?_ | refine cF ?_ | refine cS (fun _ => ?_) fun _ => ?_) | (apply gW; refine sW ?_) | (apply gI; refine sI ?_) | (apply gE; refine sE ?_) | (apply gP; refine sP ?_) | (apply gC; refine sC ?_) | (apply gD; refine sD ?_) | fail)
    refine O_d (dy_lit1 (R := eI) y.2 (hcs := by rfl) (hel := fun _ _ _ => by rfl)) ?_; rintro _ _ ⟨_, rfl, rfl⟩; refine O_n ?_
    rename_i gl
    repeat' (first | ((fail_if_success apply AtE); refine go ?_) | intro _ | (apply cG; first | refine cT ?_ | refine cF ?_ | refine cS (fun _ => ?_) fun _ => ?_) | (apply gW; refine sW ?_) | (apply gI; refine sI ?_) | (apply gE; refine sE ?_) | (apply gP; refine sP ?_) | (apply gC; refine sC ?_) | (apply gD; refine sD ?_) | fail)
    refine go ?_
    refine go ?_
    refine C_joinL (κ := Option Addr × Nat) (fun k => rd eI (.slice k.1 (atsF F G y).length k.2) (atsF F G y) :: own 3 eI (.slice (some ⟨gt, 0, none⟩) U.length U.length) (tmL U.length (flatF F G (o.take i))) :: rd ePr (.slice A3 o.length c3) o :: tbl T :: rd eI (.slice A2 la.length c2) la :: cel p [.slice A1 U.length ca, .slice B1 F.length cb, .slice C1 xs.length cc] 32 :: rd eI (.slice A1 U.length ca) U :: rd eI (.slice B1 F.length cb) F :: rd (eSX eI) (.slice C1 xs.length cc) xs :: L) [false, false, false, false, false, false, false, false, false, false, false, false, false, false, false, true, false, false, false, false, false, false, false, false, false, false, false, false, false, false, false, false, false, false, false, false, false, false, false, false, false, false, false, false, false, false, false, false, false, false, false, false, false, false, false, false, false, false, false, false, false, false, false, false, false, false, false, false, false, false, false, false, false, false, true, true, true, true, true, true, true, true, true, true, true, true, true, true, true, true, true, true, true, true, true, false, false, false, false, false, false, false, false, false, false, false, false, false, false, false, false, false, false, false, false, false, false, false, false, false, false, false, false, false, false, false, false, false, false, false, false, false, false, false, false, false, false, false, false, false, false, false, false, false, false, false, false, false, false, false, false, false, false, false, false, false, false, false, false, false, false, false, false, false, false, false, false, false, false, false, false, false, false, false, false, false, false, false, false, false, false, false, false, false, false, false, false, false, false, false, false, false, false, false, false, false, false, false, false, false, false, false, false, false, false] (fun k => [(15, .slice k.1 (atsF F G y).length k.2)]) (fun _ => True) ?_ ?_
    · rcases hkm y hyo with h | ⟨h1, h2⟩
      · obtain ⟨s, g, m, R, hye, hsG, hgx, hm, hgm⟩ := keyS_mem hc _ (Nat.le_refl _) y h
        have hy1 : y.1 = (s : Int) := by rw [hye]
        have hy2 : y.2 = (g : Int) := by rw [hye]
        have hat : atsF F G y = mbrF F G y.1 y.2 := by unfold atsF; rw [if_pos (by omega)]
        have hm0 := numF_le hm
        have hlen9 := (hc.g s R hgx).1
        have hmany := hc.many
        rw [hat]
        repeat' (first | refine go ?_ | intro _ | (apply cG; first | refine cT ?_ | refine cF ?_ | refine cS (fun _ => ?_) fun _ => ?_) | (apply gW; refine sW ?_) | (apply gI; refine sI ?_) | (apply gE; refine sE ?_) | (apply gP; refine sP ?_) | (apply gC; refine sC ?_) | (apply gD; refine sD ?_) | fail)
        refine C_draw (n := 99) [rd ePr (.slice A3 o.length c3) o] [(0, 1), (1, 1), (2, 1), (3, 1), (4, 1), (5, 1), (6, 1), (7, 1), (8, 1), (9, 1), (10, 1), (11, 0), (12, 1), (13, 1), (14, 1), (15, 1)] (by kernel_rfl) (by kernel_rfl) Sb ?_
        repeat' (first | refine go ?_ | intro _ | (apply cG; first | refine cT ?_ | refine cF ?_ | refine cS (fun _ => ?_) fun _ => ?_) | (apply gW; refine sW ?_) | (apply gI; refine sI ?_) | (apply gE; refine sE ?_) | (apply gP; refine sP ?_) | (apply gC; refine sC ?_) | (apply gD; refine sD ?_) | fail)
        refine D_op rfl ?_; refine X_d (dy_call ArgsI.pf (by first | exact rfl | trivial | (intro a b; rfl)) (rMembers_ct (t := ⟨p, A1, B1, C1, ca, cb, cc, U, F, xs⟩) (s := y.1) (g := y.2) (G := G) ⟨.tail _ (.tail _ (.tail _ (.tail _ (.tail _ (.head _))))), .tail _ (.tail _ (.tail _ (.tail _ (.tail _ (.tail _ (.head _)))))), .tail _ (.tail _ (.tail _ (.tail _ (.tail _ (.tail _ (.tail _ (.head _))))))), .tail _ (.tail _ (.tail _ (.tail _ (.tail _ (.tail _ (.tail _ (.tail _ (.head _))))))))⟩ hxs (by dsimp only; omega) hc.inG ⟨by omega, by omega⟩)) ?_; rintro _ _ ⟨_, ⟨A5, c5, rfl, rfl⟩, rfl⟩; refine ⟨(by first | exact .inl rfl | exact .inr Sb), D_n ?_⟩
        dsimp only
        repeat' (first | refine go ?_ | intro _ | (apply cG; first | refine cT ?_ | refine cF ?_ | refine cS (fun _ => ?_) fun _ => ?_) | (apply gW; refine sW ?_) | (apply gI; refine sI ?_) | (apply gE; refine sE ?_) | (apply gP; refine sP ?_) | (apply gC; refine sC ?_) | (apply gD; refine sD ?_) | fail)
        refine E_frz 0 ?_
        exact E_join (A5, c5) trivial ⟨rfl, trivial⟩ Sb
      · have hat : atsF F G y = [y.2] := by unfold atsF; rw [if_neg (by omega)]
        rw [hat]
        have hy1 : ¬ (y.1 ≥ 0) := by omega
        repeat' (first | refine go ?_ | intro _ | (apply cG; first | refine cT ?_ | refine cF ?_ | refine cS (fun _ => ?_) fun _ => ?_) | (apply gW; refine sW ?_) | (apply gI; refine sI ?_) | (apply gE; refine sE ?_) | (apply gP; refine sP ?_) | (apply gC; refine sC ?_) | (apply gD; refine sD ?_) | fail)
        refine E_frz 0 ?_
        exact E_join (some ⟨gl, 0, none⟩, 1) trivial ⟨rfl, trivial⟩ Sb
    rintro ⟨A5, c5⟩ u2 _
    dsimp only
    ((try dsimp only); refine C_n ?_; (try simp only [Nat.reduceAdd, Nat.zero_add]))
    repeat' (first | refine go ?_ | intro _ | (apply cG; first | refine cT ?_ | refine cF ?_ | refine cS (fun _ => ?_) fun _ => ?_) | (apply gW; refine sW ?_) | (apply gI; refine sI ?_) | (apply gE; refine sE ?_) | (apply gP; refine sP ?_) | (apply gC; refine sC ?_) | (apply gD; refine sD ?_) | fail)
    refine C_loopS (κ := Nat) [false, false, false, false, false, false, true, false, false, false, false, false, false, false, false, false, true, false, false, false, false, false, false, false, false, false, false, false, false, false, false, false, false, false, false, false, false, false, false, false, false, false, false, false, false, false, false, false, false, false, false, false, false, false, false, false, false, false, false, false, false, false, false, false, false, false, false, false, false, false, false, false, false, false, false, false, false, false, false, false, false, false, false, false, false, false, false, false, false, false, false, false, false, false, false, true, true, true, true, true, true, true, true, true, true, true, true, true, true, true, true, true, true, true, true, true, true, true, true, true, true, true, true, true, false, false, false, false, false, false, false, false, false, false, false, false, false, false, false, false, false, false, false, false, false, false, false, false, false, false, false, false, false, false, false, false, false, false, false, false, false, false, false, false, false, false, false, false, false, false, false, false, false, false, false, false, false, false, false, false, false, false, false, false, false, false, false, false, false, false, false, false, false, false, false, false, false, false, false, false, false, false, false, false, false] (fun k => [(16, .int .i64 (k : Int))]) (fun k => [(1, own 3 eI (.slice (some ⟨gt, 0, none⟩) U.length U.length) (tmL U.length (flatF F G (o.take i) ++ (atsF F G y).take k)))]) (fun k => k ≤ (atsF F G y).length) (fun k => (atsF F G y).length - k) 0 (Nat.zero_le _) ⟨rfl, trivial⟩ ?_ (by rw [List.take_zero, List.append_nil]; exact Sub.refl _)
    rintro k u3 hk
    ((try dsimp only); refine C_n ?_; (try simp only [Nat.reduceAdd, Nat.zero_add]))
    by_cases hkl : k < (atsF F G y).length
    · obtain ⟨a, ha⟩ : ∃ a, (atsF F G y)[k]? = some a := ⟨_, List.getElem?_eq_getElem (by omega)⟩
      have haa : At (atsF F G y) k a := ⟨ha⟩
      obtain ⟨ha0, ha1⟩ := hya a (List.mem_of_getElem? ha)
      obtain ⟨b, rfl⟩ : ∃ b : Nat, a = (b : Int) := ⟨a.toNat, by omega⟩
      have hcb := hfl k b
      have htk2 : flatF F G (o.take i) ++ (atsF F G y).take (k + 1) = flatF F G (o.take i) ++ (atsF F G y).take k ++ [(b : Int)] := by
        rw [List.take_add_one, ha, List.append_assoc]
        rfl
      obtain ⟨fl, hflv⟩ : ∃ fl, flatF F G (o.take i) ++ (atsF F G y).take k = fl := ⟨_, rfl⟩
      rw [hflv] at hcb htk2 ⊢
      have hge : At (tmL U.length fl) b ((fl.count (b : Int) : Nat) : Int) := ⟨tmL_get (by omega)⟩
      have htl := tmL_len (n := U.length) (fl := fl)
      repeat' (first | refine go ?_ | intro _ | (apply cG; first | refine cT ?_ | refine cF ?_ | refine cS (fun _ => ?_) fun _ => ?_) | (apply gW; refine sW ?_) | (apply gI; refine sI ?_) | (apply gE; refine sE ?_) | (apply gP; refine sP ?_) | (apply gC; refine sC ?_) | (apply gD; refine sD ?_) | fail)
      refine O_d (dy_storeE (f := Value.int .i64) (hf := fun _ => rfl) (n := U.length) (c := U.length) (((fl.count (b : Int) : Nat) : Int) + 1) (hy := by rfl) (hj := by rw [htl]; omega)) ?_; rintro _ _ ⟨rfl, rfl⟩; refine O_n ?_
      try simp only [List.set_cons_succ, List.set_cons_zero]
      rw [tmL_step (by omega)]
      repeat' (first | refine go ?_ | intro _ | (apply cG; first | refine cT ?_ | refine cF ?_ | refine cS (fun _ => ?_) fun _ => ?_) | (apply gW; refine sW ?_) | (apply gI; refine sI ?_) | (apply gE; refine sE ?_) | (apply gP; refine sP ?_) | (apply gC; refine sC ?_) | (apply gD; refine sD ?_) | fail)
      exact E_round (k + 1) hkl (by omega) ⟨rfl, trivial⟩ (by rw [htk2]; exact Sb)
    obtain rfl : k = (atsF F G y).length := by omega
    rw [List.take_length]
    repeat' (first | refine go ?_ | intro _ | (apply cG; first | refine cT ?_ | refine cF ?_ | refine cS (fun _ => ?_) fun _ => ?_) | (apply gW; refine sW ?_) | (apply gI; refine sI ?_) | (apply gE; refine sE ?_) | (apply gP; refine sP ?_) | (apply gC; refine sC ?_) | (apply gD; refine sD ?_) | fail)
    exact E_round (i + 1) hio (by omega) ⟨rfl, trivial⟩ (by rw [htk, flatF_app, flatF_one]; exact Sb)
  obtain rfl : i = o.length := by omega
  rw [List.take_length]
  repeat' (first | refine go ?_ | intro _ | (apply cG; first | refine cT ?_ | refine cF ?_ | refine cS (fun _ => ?_) fun _ => ?_) | (apply gW; refine sW ?_) | (apply gI; refine sI ?_) | (apply gE; refine sE ?_) | (apply gP; refine sP ?_) | (apply gC; refine sC ?_) | (apply gD; refine sD ?_) | fail)
  refine C_loopS (κ := Nat) [false, false, false, false, false, false, true, false, false, false, false, false, false, false, false, false, false, true, true, false, false, false, false, false, false, false, false, false, false, false, false, false, false, false, false, false, false, false, false, false, false, false, false, false, false, false, false, false, false, false, false, false, false, false, false, false, false, false, false, false, false, false, false, false, false, false, false, false, false, false, false, false, false, false, false, false, false, false, false, false, false, false, false, false, false, false, false, false, false, false, false, false, false, false, false, false, false, false, false, false, false, false, false, false, false, false, false, false, false, false, false, false, false, false, false, false, false, false, false, false, false, false, false, false, true, true, true, true, true, true, true, true, true, true, true, true, true, true, true, false, false, false, false, false, false, false, false, false, false, false, false, false, false, false, false, false, false, false, false, false, false, false, false, false, false, false, false, false, false, false, false, false, false, false, false, false, false, false, false, false, false, false, false, false, false, false, false, false, false, false, false, false, false, false, false, false, false, false, false, false, false, false, false, false, false] (fun k => [(17, .int .i64 (k : Int))]) (fun k => []) (fun k => k ≤ U.length) (fun k => U.length - k) 0 (Nat.zero_le _) ⟨rfl, trivial⟩ ?_
  rintro i u4 hiU
  ((try dsimp only); refine C_n ?_; (try simp only [Nat.reduceAdd, Nat.zero_add]))
  by_cases hil : i < U.length
  · have hge : At (tmL U.length (flatF F G o)) i (((flatF F G o).count (i : Int) : Nat) : Int) := ⟨tmL_get hil⟩
    have hci := hcn (i : Int)
    repeat' (first | refine go ?_ | intro _ | (apply cG; first | refine cT ?_ | refine cF ?_ | refine cS (fun _ => ?_) fun _ => ?_) | (apply gW; refine sW ?_) | (apply gI; refine sI ?_) | (apply gE; refine sE ?_) | (apply gP; refine sP ?_) | (apply gC; refine sC ?_) | (apply gD; refine sD ?_) | fail)
    refine O_d (dy_call ArgsI.pf (by first | exact rfl | trivial | (intro a b; rfl)) (Has_ct (l := la) (n := (i : Int)) (.inl (.tail _ (.tail _ (.tail _ (.head _))))) (by omega))) ?_; rintro _ _ ⟨_, ⟨rfl, hLL⟩, rfl⟩; replace hLL := hLL.symm; subst hLL; refine O_n ?_
    cases hm : memB la (i : Int)
    · rw [if_neg (of_decide_eq_false hm)] at hci
      rw [hci] at hge
      repeat' (first | refine go ?_ | intro _ | (apply cG; first | refine cT ?_ | refine cF ?_ | refine cS (fun _ => ?_) fun _ => ?_) | (apply gW; refine sW ?_) | (apply gI; refine sI ?_) | (apply gE; refine sE ?_) | (apply gP; refine sP ?_) | (apply gC; refine sC ?_) | (apply gD; refine sD ?_) | fail)
      exact E_round (i + 1) hil (by omega) ⟨rfl, trivial⟩ Sb
    · rw [if_pos (of_decide_eq_true hm)] at hci
      rw [hci] at hge
      repeat' (first | refine go ?_ | intro _ | (apply cG; first | refine cT ?_ | refine cF ?_ | refine cS (fun _ => ?_) fun _ => ?_) | (apply gW; refine sW ?_) | (apply gI; refine sI ?_) | (apply gE; refine sE ?_) | (apply gP; refine sP ?_) | (apply gC; refine sC ?_) | (apply gD; refine sD ?_) | fail)
      exact E_round (i + 1) hil (by omega) ⟨rfl, trivial⟩ Sb
  by_cases hG0 : G.length = 0
  · have hx0 : (xs.length : Int) = 0 := by omega
    repeat' (first | refine go ?_ | intro _ | (apply cG; first | refine cT ?_ | refine cF ?_ | refine cS (fun _ => ?_) fun _ => ?_) | (apply gW; refine sW ?_) | (apply gI; refine sI ?_) | (apply gE; refine sE ?_) | (apply gP; refine sP ?_) | (apply gC; refine sC ?_) | (apply gD; refine sD ?_) | fail)
    refine O_d (dy_call ArgsI.pf (by first | exact rfl | trivial | (intro a b; rfl)) (lives_ct)) ?_; rintro _ _ ⟨_, ⟨rfl, hLL⟩, rfl⟩; replace hLL := hLL.symm; subst hLL; refine O_n ?_
    repeat' (first | refine go ?_ | intro _ | (apply cG; first | refine cT ?_ | refine cF ?_ | refine cS (fun _ => ?_) fun _ => ?_) | (apply gW; refine sW ?_) | (apply gI; refine sI ?_) | (apply gE; refine sE ?_) | (apply gP; refine sP ?_) | (apply gC; refine sC ?_) | (apply gD; refine sD ?_) | fail)
    refine E_res1 (by rfl) (by rfl) ⟨rfl, rfl⟩ Sb
  have hx0 : ¬ (xs.length : Int) = 0 := by omega
  by_cases hF0 : F.length = 0
  · have hx1 : (F.length : Int) = 0 := by omega
    repeat' (first | refine go ?_ | intro _ | (apply cG; first | refine cT ?_ | refine cF ?_ | refine cS (fun _ => ?_) fun _ => ?_) | (apply gW; refine sW ?_) | (apply gI; refine sI ?_) | (apply gE; refine sE ?_) | (apply gP; refine sP ?_) | (apply gC; refine sC ?_) | (apply gD; refine sD ?_) | fail)
    refine O_d (dy_call ArgsI.pf (by first | exact rfl | trivial | (intro a b; rfl)) (lives_ct)) ?_; rintro _ _ ⟨_, ⟨rfl, hLL⟩, rfl⟩; replace hLL := hLL.symm; subst hLL; refine O_n ?_
    repeat' (first | refine go ?_ | intro _ | (apply cG; first | refine cT ?_ | refine cF ?_ | refine cS (fun _ => ?_) fun _ => ?_) | (apply gW; refine sW ?_) | (apply gI; refine sI ?_) | (apply gE; refine sE ?_) | (apply gP; refine sP ?_) | (apply gC; refine sC ?_) | (apply gD; refine sD ?_) | fail)
    refine E_res1 (by rfl) (by rfl) ⟨rfl, rfl⟩ Sb
  have hx1 : ¬ (F.length : Int) = 0 := by omega
  obtain ⟨s, hs⟩ : ∃ s, G.length = s + 1 := ⟨G.length - 1, by omega⟩
  obtain ⟨x, hx⟩ : ∃ x, xs[s]? = some x := ⟨_, List.getElem?_eq_getElem (by omega)⟩
  have hgx := getX hxs hx
  obtain ⟨m, hm, hmF, _⟩ := hc.cnt hgx
  have hxlen := (hc.g s _ hgx).1
  have hmany := hc.many
  have hxb : 0 < x.b.length := by
    obtain ⟨f, hf⟩ := List.exists_mem_of_ne_nil F (fun h => hF0 (by rw [h]; rfl))
    have := facF_ge hf
    have := (hc.f f hf).1
    omega
  have en : (xs.length : Int) - 1 = (s : Int) := by omega
  have hax0 : At xs ((xs.length : Int) - 1).toNat x := ⟨by rw [en, Int.toNat_natCast]; exact hx⟩
  have hax1 := hax0
  unfold Int.toNat at hax1
  refine C_sub (sub_peekX (.tail _ (.tail _ (.tail _ (.tail _ (.tail _ (.tail _ (.tail _ (.head _)))))))) hx) ?_
  refine C_form (.head _) fun Ax cx hxv => ?_
  have hec : EncC (eSX eI) x [.slice Ax x.b.length cx] := ⟨fun m cs h => by rw [h.1, hxv]⟩
  rw [hxv]
  repeat' (first | refine go ?_ | intro _ | (apply cG; first | refine cT ?_ | refine cF ?_ | refine cS (fun _ => ?_) fun _ => ?_) | (apply gW; refine sW ?_) | (apply gI; refine sI ?_) | (apply gE; refine sE ?_) | (apply gP; refine sP ?_) | (apply gC; refine sC ?_) | (apply gD; refine sD ?_) | fail)
  refine C_draw (n := 99) [rd eI (.slice Ax x.b.length cx) x.b, rd (eSX eI) (.slice C1 xs.length cc) xs, cel p [.slice A1 U.length ca, .slice B1 F.length cb, .slice C1 xs.length cc] 32] [(0, 1), (1, 1), (2, 1), (3, 1), (4, 1), (5, 1), (6, 1), (7, 1), (8, 1), (9, 1), (10, 1), (11, 1), (12, 1), (13, 1), (14, 1), (15, 1), (16, 0), (17, 1), (18, 1), (19, 1)] (by kernel_rfl) (by kernel_rfl) Sb ?_
  repeat' (first | refine go ?_ | intro _ | (apply cG; first | refine cT ?_ | refine cF ?_ | refine cS (fun _ => ?_) fun _ => ?_) | (apply gW; refine sW ?_) | (apply gI; refine sI ?_) | (apply gE; refine sE ?_) | (apply gP; refine sP ?_) | (apply gC; refine sC ?_) | (apply gD; refine sD ?_) | fail)
  refine D_op rfl ?_; refine X_d (dy_call ArgsI.pf (by first | exact rfl | trivial | (intro a b; rfl)) (Around_ct (n := gr) (most := (x.b.length : Int)) hgr1 hgr2 (by omega) (by omega))) ?_; rintro _ _ ⟨_, ⟨rfl, hLL⟩, rfl⟩; replace hLL := hLL.symm; subst hLL; refine ⟨(by first | exact .inl rfl | exact .inr Sb), D_n ?_⟩
  obtain ⟨hr0, hr1⟩ := around_in (n := gr) (most := (x.b.length : Int)) (by omega)
  obtain ⟨ar, har⟩ : ∃ ar, around gr (x.b.length : Int) = ar := ⟨_, rfl⟩
  rw [har] at hr0 hr1 ⊢
  obtain ⟨j, rfl⟩ : ∃ j : Nat, ar = (j : Int) := ⟨ar.toNat, by omega⟩
  obtain ⟨z, hz⟩ : ∃ z, x.b[j]? = some z := ⟨_, List.getElem?_eq_getElem (by omega)⟩
  have haz : At x.b j z := ⟨hz⟩
  obtain ⟨hz0, hz1⟩ := (numF_mem hm).2 z (List.mem_of_getElem? hz)
  obtain ⟨g, rfl⟩ : ∃ g : Nat, z = (g : Int) := ⟨z.toNat, by omega⟩
  have hgm : g < m := by omega
  have hwh := covF_whole hc hs.symm hgx hm hgm
  have hwl := mbrF_len (F := F) (G := G) (s := (s : Int)) (g := (g : Int))
  have hwa := mbrF_asc (F := F) (G := G) (s := (s : Int)) (g := (g : Int))
  have hwi : ∀ x ∈ mbrF F G (s : Int) (g : Int), 0 ≤ x ∧ x < (U.length : Int) := fun x hx => by
    have := mbrN_in (F := F) (G := G) (n := F.length) x hx
    omega
  repeat' (first | refine go ?_ | intro _ | (apply cG; first | refine cT ?_ | refine cF ?_ | refine cS (fun _ => ?_) fun _ => ?_) | (apply gW; refine sW ?_) | (apply gI; refine sI ?_) | (apply gE; refine sE ?_) | (apply gP; refine sP ?_) | (apply gC; refine sC ?_) | (apply gD; refine sD ?_) | fail)
  rw [en]
  refine O_d (dy_call ArgsI.pf (by first | exact rfl | trivial | (intro a b; rfl)) (rMembers_ct (t := ⟨p, A1, B1, C1, ca, cb, cc, U, F, xs⟩) (s := (s : Int)) (g := (g : Int)) (G := G) ⟨.tail _ (.tail _ (.tail _ (.tail _ (.tail _ (.head _))))), .tail _ (.tail _ (.tail _ (.tail _ (.tail _ (.tail _ (.head _)))))), .tail _ (.tail _ (.tail _ (.tail _ (.tail _ (.tail _ (.tail _ (.head _))))))), .tail _ (.tail _ (.tail _ (.tail _ (.tail _ (.tail _ (.tail _ (.tail _ (.head _))))))))⟩ hxs (by dsimp only; omega) hc.inG ⟨by omega, by omega⟩)) ?_; rintro _ _ ⟨_, ⟨A6, c6, rfl, rfl⟩, rfl⟩; refine O_n ?_
  dsimp only
  obtain ⟨ms, hms⟩ : ∃ ms, mbrF F G (s : Int) (g : Int) = ms := ⟨_, rfl⟩
  rw [hms] at hwh hwl hwa hwi ⊢
  have hwe := covE_ok hwi hwa
  have hwo : covO F G U.length ms = [((s : Int), (g : Int))] := by unfold covO; rw [if_pos hwe, hwh]
  refine O_frz 0 ?_
  repeat' (first | refine go ?_ | intro _ | (apply cG; first | refine cT ?_ | refine cF ?_ | refine cS (fun _ => ?_) fun _ => ?_) | (apply gW; refine sW ?_) | (apply gI; refine sI ?_) | (apply gE; refine sE ?_) | (apply gP; refine sP ?_) | (apply gC; refine sC ?_) | (apply gD; refine sD ?_) | fail)
  refine O_d (dy_call ArgsI.pf (by first | exact rfl | trivial | (intro a b; rfl)) (CT.pull (i := 4) (by rfl) (Cover_ct (l := ms) hT hc (by omega) (.head _) (by omega) (by omega)))) ?_; rintro _ _ ⟨_, ⟨A7, c7, rfl, rfl⟩, rfl⟩; refine O_n ?_
  rw [hwe, hwo]
  refine O_frz 0 ?_
  repeat' (first | refine go ?_ | intro _ | (apply cG; first | refine cT ?_ | refine cF ?_ | refine cS (fun _ => ?_) fun _ => ?_) | (apply gW; refine sW ?_) | (apply gI; refine sI ?_) | (apply gE; refine sE ?_) | (apply gP; refine sP ?_) | (apply gC; refine sC ?_) | (apply gD; refine sD ?_) | fail)
  refine O_d (dy_lit1 (R := ePr) (((s : Int), (g : Int)) : Int × Int) (hcs := by rfl) (hel := fun _ _ _ => by rfl)) ?_; rintro _ _ ⟨_, rfl, rfl⟩; refine O_n ?_
  refine O_frz 0 ?_
  refine O_d (dy_call ArgsI.pf (by first | exact rfl | trivial | (intro a b; rfl)) (samePairs_ct (a := [((s : Int), (g : Int))]) (.tail _ (.head _)) (.head _) (by show 1 ≤ 1000000000; decide))) ?_; rintro _ _ ⟨_, ⟨rfl, hLL⟩, rfl⟩; replace hLL := hLL.symm; subst hLL; refine O_n ?_
  repeat' (first | refine go ?_ | intro _ | (apply cG; first | refine cT ?_ | refine cF ?_ | refine cS (fun _ => ?_) fun _ => ?_) | (apply gW; refine sW ?_) | (apply gI; refine sI ?_) | (apply gE; refine sE ?_) | (apply gP; refine sP ?_) | (apply gC; refine sC ?_) | (apply gD; refine sD ?_) | fail)
  refine O_d (dy_call ArgsI.pf (by first | exact rfl | trivial | (intro a b; rfl)) (lives_ct)) ?_; rintro _ _ ⟨_, ⟨rfl, hLL⟩, rfl⟩; replace hLL := hLL.symm; subst hLL; refine O_n ?_
  repeat' (first | refine go ?_ | intro _ | (apply cG; first | refine cT ?_ | refine cF ?_ | refine cS (fun _ => ?_) fun _ => ?_) | (apply gW; refine sW ?_) | (apply gI; refine sI ?_) | (apply gE; refine sE ?_) | (apply gP; refine sP ?_) | (apply gC; refine sC ?_) | (apply gD; refine sD ?_) | fail)
  refine E_res1 (by rfl) (by rfl) ⟨rfl, rfl⟩ Sb
end
theorem SumsParts_any {v : Value} {li : List Int} {n gr : Int} {w : World} (s : St w w [rd eI v li]) (hl : li.length ≤ 9223372036854775807) (hr : ∀ n ∈ li, I64 n) (hn : I64 n) (hgr : I64 gr) :
    Calls Try.prog 4 #[v, .int .i64 n, .int .i64 gr] w fun e w' => e = .returned (.bool true) ∧ Below w.heap.size w w' :=
  ((SumsParts_ct (W0 := w) (.head _) hl hr hn hgr).run w s).mono fun e w' h => by
    obtain ⟨v, L', rfl, ⟨rfl, rfl⟩, s⟩ := h
    exact ⟨rfl, s.below⟩
end Go.Proofs.Ytlmabajgnjiigaa
namespace Go.Proofs.Ytlmabajgnjiigaa
open Go Go.RowKit
set_option linter.unusedVariables false
set_option linter.unusedSimpArgs false
def toB (n : Int) : UInt8 := UInt8.ofNat n.toNat
theorem toB_wf {n : Int} (h : (Lit.int .u8 n).wf = true) : ((toB n).toNat : Int) = n := by
  simp [Lit.wf, IntKind.min, IntKind.max, IntKind.signed, IntKind.bits] at h
  unfold toB
  simp
  omega
/-- a row of numbers of one kind, said as the rows' proofs say it -/
theorem row_sl {α : Type} {f : α → Value} {hf : ∀ a, (f a).oneCell' = true} {k : IntKind} {w : World} {a : Option Addr} {len cap : Nat} {zs : List Int} {l : List α} (hl : l.map f = (zs.take len).map (Value.int k)) (hz : zs.length = cap) (hlc : len ≤ cap)
    {x : Addr} (ha : a = some x) (hcell : ∀ i, i < zs.length → w.cell? (x.add i) = some (.int k (zs.getD i 0))) : Sl (Hp.of w) (e1 f hf) (.slice a len cap) l := by
  have hlen : l.length = len := by
    have := congrArg List.length hl
    simp at this
    omega
  subst hlen
  refine ⟨a, cap, l.map fun b => [f b], rfl, hlc, all2_e1.2 rfl, ?_⟩
  by_cases h0 : l = []
  · exact .inl h0
  · right
    have hpos : 0 < l.length := List.length_pos_iff.2 h0
    obtain ⟨b, off, spot⟩ := x
    have h1 := hcell 0 (by omega)
    have hspot : spot = none := by simpa [Addr.add] using World.cell?_spot h1
    subst hspot
    rw [flat_one]
    have hb : ∃ cs t fr, w.heap[b]? = some (.cells cs t fr) := by
      unfold World.cell? at h1
      simp only [Addr.add] at h1
      split at h1
      · rename_i cs t fr he; exact ⟨cs, t, fr, he⟩
      · cases h1
    obtain ⟨cs, t, fr, hb⟩ := hb
    refine ⟨b, off, cs, t, fr, ha, hb, ?_⟩
    intro j u hj
    rw [hl] at hj
    have hjl : j < l.length := by
      have := (List.getElem?_eq_some_iff.1 hj).1
      simp at this
      omega
    have h2 := hcell j (by omega)
    have h3 : w.cell? ⟨b, off + j, none⟩ = some (.int k (zs.getD j 0)) := by
      have e : (Addr.add ⟨b, off, none⟩ j) = ⟨b, off + j, none⟩ := by
        by_cases hj0 : j = 0
        · subst hj0; rfl
        · simp [Addr.add, hj0]
      rw [e] at h2
      exact h2
    have h4 : cs[off + j]? = some (.int k (zs.getD j 0)) := by simpa [World.cell?, hb] using h3
    rw [h4]
    rw [List.getElem?_map, List.getElem?_take, if_pos hjl] at hj
    rw [List.getD_eq_getElem?_getD]
    cases hzz : zs[j]? with
    | none => rw [hzz] at hj; cases hj
    | some z => rw [hzz] at hj; simpa using hj
theorem row_i64 {w : World} {a : Option Addr} {len cap : Nat} {zs : List Int} (h : (a = none ∧ len = 0 ∧ cap = 0 ∧ zs = []) ∨
    ∃ x, a = some x ∧ len ≤ cap ∧ cap ≤ maxLen ∧ zs.length = cap ∧ (∀ i, i < zs.length → w.cell? (x.add i) = some (.int .i64 (zs.getD i 0))) ∧ ∀ n ∈ zs, (Lit.int .i64 n).wf = true) :
    ∃ l : List Int, Sl (Hp.of w) eI (.slice a len cap) l ∧ l.length = len ∧ len ≤ 9223372036854775807 ∧ ∀ n ∈ l, -9223372036854775808 ≤ n ∧ n ≤ 9223372036854775807 := by
  rcases h with ⟨rfl, rfl, rfl, rfl⟩ | ⟨x, ha, hl, hm, hz, hc, hw⟩
  · exact ⟨[], ⟨none, 0, [], rfl, Nat.le_refl _, trivial, .inl rfl⟩, rfl, by omega, by simp⟩
  · unfold maxLen at hm
    refine ⟨zs.take len, row_sl rfl hz hl ha hc, by simp; omega, by omega, fun n hn => ?_⟩
    have := hw n (List.mem_of_mem_take hn)
    simpa [Lit.wf, IntKind.min, IntKind.max, IntKind.signed, IntKind.bits] using this
theorem row_u8 {w : World} {a : Option Addr} {len cap : Nat} {zs : List Int} (h : (a = none ∧ len = 0 ∧ cap = 0 ∧ zs = []) ∨
    ∃ x, a = some x ∧ len ≤ cap ∧ cap ≤ maxLen ∧ zs.length = cap ∧ (∀ i, i < zs.length → w.cell? (x.add i) = some (.int .u8 (zs.getD i 0))) ∧ ∀ n ∈ zs, (Lit.int .u8 n).wf = true) :
    ∃ l : List UInt8, Sl (Hp.of w) eB (.slice a len cap) l ∧ l.length = len ∧ len ≤ 9223372036854775807 := by
  rcases h with ⟨rfl, rfl, rfl, rfl⟩ | ⟨x, ha, hl, hm, hz, hc, hw⟩
  · exact ⟨[], ⟨none, 0, [], rfl, Nat.le_refl _, trivial, .inl rfl⟩, rfl, by omega⟩
  · unfold maxLen at hm
    refine ⟨(zs.take len).map toB, row_sl ?_ hz hl ha hc, by simp; omega, by omega⟩
    rw [List.map_map]
    refine List.map_congr_left fun n hn => ?_
    show bv (toB n) = _
    rw [bv, toB_wf (hw n (List.mem_of_mem_take hn))]
theorem St.mem_ {W : World} {α : Type} {R : Enc α} {v : Value} {l : List α} {L : List HP} (h : Sl (Hp.of W) R v l) (hS : St W W L) : St W W (Go.Proofs.Ytlmabajgnjiigaa.rd R v l :: L) := hS.old h
end Go.Proofs.Ytlmabajgnjiigaa
