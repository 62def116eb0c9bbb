/-
  The law SumsCover.
-/
import Derived.Test.YtlmabajgnjiigaaMZE
namespace Go.Proofs.Ytlmabajgnjiigaa
open Go Go.RowKit
set_option linter.unusedVariables false
set_option linter.unusedSimpArgs false
set_option maxRecDepth 20000
set_option synthInstance.maxSize 100000
set_option synthInstance.maxHeartbeats 400000
theorem ChkT.inG {U F : List Int} {G : List (List Int)} (hc : ChkT U F G) : ∀ x ∈ G, ∀ f ∈ F, 0 ≤ f ∧ f < (x.length : Int) := fun x hx => by
  obtain ⟨s, hs⟩ := List.getElem?_of_mem hx
  exact hc.inR hs
theorem cov_ok {n : Nat} {l : List Int} (h : covE n l = 0) : l.length ≤ n ∧ (∀ x ∈ l, 0 ≤ x ∧ x < (n : Int)) ∧ l.Pairwise (· < ·) := by
  unfold covE at h
  split at h
  · rename_i h1
    split at h
    · rename_i h2
      have h3 : ∀ x ∈ l, 0 ≤ x ∧ x < (n : Int) := fun x hx => of_decide_eq_true (List.all_eq_true.1 h1 x hx)
      exact ⟨asc_len (incF_asc h2) h3, h3, incF_asc h2⟩
    · cases h
  · cases h
theorem covE_en {n : Nat} {l : List Int} : covE n l = 0 ∨ covE n l = 7 ∨ covE n l = 16 := by
  unfold covE
  split
  · split
    · exact .inl rfl
    · exact .inr (.inr rfl)
  · exact .inr (.inl rfl)
/-- a list in a list of lists -/
def LsOk (z : SX Int) : Prop := z.b.length ≤ 9223372036854775807 ∧ ∃ A c, z.v = .slice A z.b.length c
section
variable {W0 : World} {L : List HP}
set_option maxHeartbeats 2000000 in
theorem SumsCover_ct {v vm : Value} {li lm : List Int} {n : Int} (hv : rd eI v li ∈ L) (hl : li.length ≤ 9223372036854775807) (hr : ∀ n ∈ li, I64 n) (hvm : rd eI vm lm ∈ L) (hlm : lm.length ≤ 9223372036854775807) (hn : I64 n) :
    CT Try.prog 6 #[v, vm, .int .i64 n] W0 L fun r L' => r = .bool true ∧ L' = L := by
  obtain ⟨hn1, hn2⟩ := hn
  refine CT_fact (fun w s => ((Src.sl (.inl hv) s).form)) ?_
  rintro ⟨A0, c0, rfl, hc0⟩
  refine CT_fact (fun w s => ((Src.sl (.inl hvm) s).form)) ?_
  rintro ⟨B0, d0, rfl, hd0⟩
  refine CT.sub ?_ (sub_dup hv)
  refine CT.sub ?_ (sub_dup (.tail _ hvm))
  refine CT_enter Try.func6 rfl ?_; (simp only [Try.ntmps6, List.size_toArray, List.length_cons, List.length_nil, Nat.reduceAdd, Nat.reduceSub, Array.replicate_succ, Array.replicate_zero, List.push_toArray, List.append_toArray, List.nil_append, List.cons_append])
  repeat' (first | refine go ?_ | intro _ | (apply cG; first | refine cT ?_ | refine cF ?_ | refine cS (fun _ => ?_) fun _ => ?_) | (apply gW; refine sW ?_) | (apply gI; refine sI ?_) | (apply gE; refine sE ?_) | (apply gP; refine sP ?_) | (apply gC; refine sC ?_) | (apply gD; refine sD ?_) | fail)
  refine O_d (dy_call ArgsI.pf (by first | exact rfl | trivial | (intro a b; rfl)) (rSome_ct (l := li) (.tail _ (.head _)) hr hl)) ?_; rintro _ _ ⟨_, ⟨t, G, rfl, ⟨hc, hxs, hU9, hG3, hu49⟩, rfl⟩, rfl⟩; refine O_n ?_
  obtain ⟨p, A1, B1, C1, ca, cb, cc, U, F, xs⟩ := t
  dsimp only at hc hxs hU9 hu49 ⊢
  have hs49 := sumL_49 hu49
  have hFl := hc.len
  have hxl : xs.length = G.length := by rw [← hxs, List.length_map]
  repeat' (first | refine go ?_ | intro _ | (apply cG; first | refine cT ?_ | refine cF ?_ | refine cS (fun _ => ?_) fun _ => ?_) | (apply gW; refine sW ?_) | (apply gI; refine sI ?_) | (apply gE; refine sE ?_) | (apply gP; refine sP ?_) | (apply gC; refine sC ?_) | (apply gD; refine sD ?_) | fail)
  refine O_d (dy_call ArgsI.pf (by first | exact rfl | trivial | (intro a b; rfl)) (made_ok (t := ⟨p, A1, B1, C1, ca, cb, cc, U, F, xs⟩) ⟨.head _, .tail _ (.head _), .tail _ (.tail _ (.head _)), .tail _ (.tail _ (.tail _ (.head _)))⟩ hxs (by dsimp only; omega) (by omega) hc (by dsimp only; omega))) ?_; rintro _ _ ⟨_, ⟨T, hT, rfl, rfl⟩, rfl⟩; refine O_n ?_
  dsimp only at hT
  repeat' (first | refine go ?_ | intro _ | (apply cG; first | refine cT ?_ | refine cF ?_ | refine cS (fun _ => ?_) fun _ => ?_) | (apply gW; refine sW ?_) | (apply gI; refine sI ?_) | (apply gE; refine sE ?_) | (apply gP; refine sP ?_) | (apply gC; refine sC ?_) | (apply gD; refine sD ?_) | fail)
  have hLl := lstF_len (k := around n 1048576) U.length
  refine O_d (dy_call ArgsI.pf (by first | exact rfl | trivial | (intro a b; rfl)) (rList_ct (t := ⟨p, A1, B1, C1, ca, cb, cc, U, F, xs⟩) ⟨.tail _ (.head _), .tail _ (.tail _ (.head _)), .tail _ (.tail _ (.tail _ (.head _))), .tail _ (.tail _ (.tail _ (.tail _ (.head _))))⟩ (by dsimp only; omega) ⟨hn1, hn2⟩)) ?_; rintro _ _ ⟨_, ⟨A2, c2, rfl, rfl⟩, rfl⟩; refine O_n ?_
  dsimp only
  obtain ⟨la, hla⟩ : ∃ la, lstF (around n 1048576) U.length = la := ⟨_, rfl⟩
  rw [hla] at hLl ⊢
  refine O_frz 0 ?_
  repeat' (first | refine go ?_ | intro _ | (apply cG; first | refine cT ?_ | refine cF ?_ | refine cS (fun _ => ?_) fun _ => ?_) | (apply gW; refine sW ?_) | (apply gI; refine sI ?_) | (apply gE; refine sE ?_) | (apply gP; refine sP ?_) | (apply gC; refine sC ?_) | (apply gD; refine sD ?_) | fail)
  refine O_d (dy_call ArgsI.pf (by first | exact rfl | trivial | (intro a b; rfl)) (rList_ct (t := ⟨p, A1, B1, C1, ca, cb, cc, U, F, xs⟩) ⟨.tail _ (.tail _ (.head _)), .tail _ (.tail _ (.tail _ (.head _))), .tail _ (.tail _ (.tail _ (.tail _ (.head _)))), .tail _ (.tail _ (.tail _ (.tail _ (.tail _ (.head _)))))⟩ (by dsimp only; omega) ⟨hn1, hn2⟩)) ?_; rintro _ _ ⟨_, ⟨A3, c3, rfl, rfl⟩, rfl⟩; refine O_n ?_
  dsimp only
  rw [hla]
  repeat' (first | refine go ?_ | intro _ | (apply cG; first | refine cT ?_ | refine cF ?_ | refine cS (fun _ => ?_) fun _ => ?_) | (apply gW; refine sW ?_) | (apply gI; refine sI ?_) | (apply gE; refine sE ?_) | (apply gP; refine sP ?_) | (apply gC; refine sC ?_) | (apply gD; refine sD ?_) | fail)
  refine O_d (dy_lit1 (R := eI) n (hcs := by rfl) (hel := fun _ _ _ => by rfl)) ?_; rintro _ _ ⟨_, rfl, rfl⟩; refine O_n ?_
  repeat' (first | refine go ?_ | intro _ | (apply cG; first | refine cT ?_ | refine cF ?_ | refine cS (fun _ => ?_) fun _ => ?_) | (apply gW; refine sW ?_) | (apply gI; refine sI ?_) | (apply gE; refine sE ?_) | (apply gP; refine sP ?_) | (apply gC; refine sC ?_) | (apply gD; refine sD ?_) | fail)
  rename_i w1 A4 c4
  refine O_frz 1 ?_
  refine O_rdnil eI none 0 ?_
  refine O_d (dy_litS (R := eSX eI) [(⟨.slice A2 la.length c2, la⟩ : SX Int), ⟨.slice B0 lm.length d0, lm⟩, ⟨.slice none 0 0, []⟩, ⟨.slice A4 (la.length + 1) c4, la ++ [n]⟩] [.slice A2 la.length c2, .slice B0 lm.length d0, .slice none 0 0, .slice A4 (la.length + 1) c4] (by rfl) (fun m h hs => ⟨⟨rfl, rd_mem hs (by repeat (first | exact .head _ | refine .tail _ ?_))⟩, ⟨rfl, rd_mem hs (by repeat (first | exact .head _ | refine .tail _ ?_))⟩, ⟨rfl, rd_mem hs (by repeat (first | exact .head _ | refine .tail _ ?_))⟩, ⟨rfl, rd_mem hs (by repeat (first | exact .head _ | refine .tail _ ?_))⟩, trivial⟩)) ?_; rintro _ _ ⟨gz, rfl, rfl⟩; refine O_n ?_
  have hz0 : ∀ z ∈ [(⟨.slice A2 la.length c2, la⟩ : SX Int), ⟨.slice B0 lm.length d0, lm⟩, ⟨.slice none 0 0, []⟩, ⟨.slice A4 (la.length + 1) c4, la ++ [n]⟩], LsOk z := fun z hz => by
    simp only [List.mem_cons, List.not_mem_nil, or_false] at hz
    rcases hz with rfl | rfl | rfl | rfl
    · exact ⟨by dsimp only; omega, _, _, rfl⟩
    · exact ⟨hlm, _, _, rfl⟩
    · exact ⟨by decide, _, _, rfl⟩
    · exact ⟨by dsimp only; rw [List.length_append]; show la.length + 1 ≤ _; omega, A4, c4, by dsimp only; rw [List.length_append]; rfl⟩
  have hzl : ([(⟨.slice A2 la.length c2, la⟩ : SX Int), ⟨.slice B0 lm.length d0, lm⟩, ⟨.slice none 0 0, []⟩, ⟨.slice A4 (la.length + 1) c4, la ++ [n]⟩]).length = 4 := rfl
  obtain ⟨zs, hzs⟩ : ∃ zs, [(⟨.slice A2 la.length c2, la⟩ : SX Int), ⟨.slice B0 lm.length d0, lm⟩, ⟨.slice none 0 0, []⟩, ⟨.slice A4 (la.length + 1) c4, la ++ [n]⟩] = zs := ⟨_, rfl⟩
  rw [hzs] at hz0 hzl ⊢
  clear hzs
  repeat' (first | ((fail_if_success apply AtE); refine go ?_) | intro _ | (apply cG; first | refine cT ?_ | refine cF ?_ | refine cS (fun _ => ?_) fun _ => ?_) | (apply gW; refine sW ?_) | (apply gI; refine sI ?_) | (apply gE; refine sE ?_) | (apply gP; refine sP ?_) | (apply gC; refine sC ?_) | (apply gD; refine sD ?_) | fail)
  refine go ?_
  refine go ?_
  refine C_join (κ := Option Addr × Nat × List (SX Int)) [false, false, false, false, false, false, false, false, false, false, true, true, true, false, false, false, false, false, false, false, false, false, false, false, false, false, false, false, false, false, false, false, false, false, false, false, false, false, false, false, false, false, false, false, false, true, true, true, true, true, true, true, true, true, true, true, true, true, true, true, true, true, true, true, true, true, true, true, true, true, true, true, true, true, true, false, false, false, false, false, false, false, false, false, false, false, false, false, false, false, false, false, false, false, false, false, false, false, false, false, false, false, false, false, false, false, false, false, false, false, false, false, false, false, false, false, false, false, false, false, false, false, false, false, false, false, false, false, false, false, false, false, false, false, false, false, false, false, false, false, false, false, false, false, false, false, false, false, false, false, false, false, false, false, false, false] (fun k => [(10, .slice k.1 k.2.2.length k.2.1)]) (fun k => [(0, own 22 (eSX eI) (.slice k.1 k.2.2.length k.2.1) k.2.2)]) (fun k => k.2.2.length ≤ 5 ∧ ∀ z ∈ k.2.2, LsOk z) ?_ ?_
  · by_cases hG0 : G.length = 0
    · have hx0 : ¬ ((xs.length : Int) > 0) := by omega
      repeat' (first | refine go ?_ | intro _ | (apply cG; first | refine cT ?_ | refine cF ?_ | refine cS (fun _ => ?_) fun _ => ?_) | (apply gW; refine sW ?_) | (apply gI; refine sI ?_) | (apply gE; refine sE ?_) | (apply gP; refine sP ?_) | (apply gC; refine sC ?_) | (apply gD; refine sD ?_) | fail)
      exact E_join (some ⟨gz, 0, none⟩, 4, zs) ⟨by dsimp only; omega, hz0⟩ ⟨by dsimp only; rw [hzl]; rfl, trivial⟩ (by dsimp only; rw [hzl]; exact Sb)
    · have hx0 : (xs.length : Int) > 0 := by omega
      by_cases hF0 : F.length = 0
      · have hx1 : ¬ ((F.length : Int) > 0) := by omega
        repeat' (first | refine go ?_ | intro _ | (apply cG; first | refine cT ?_ | refine cF ?_ | refine cS (fun _ => ?_) fun _ => ?_) | (apply gW; refine sW ?_) | (apply gI; refine sI ?_) | (apply gE; refine sE ?_) | (apply gP; refine sP ?_) | (apply gC; refine sC ?_) | (apply gD; refine sD ?_) | fail)
        exact E_join (some ⟨gz, 0, none⟩, 4, zs) ⟨by dsimp only; omega, hz0⟩ ⟨by dsimp only; rw [hzl]; rfl, trivial⟩ (by dsimp only; rw [hzl]; exact Sb)
      · have hx1 : (F.length : Int) > 0 := by omega
        repeat' (first | refine go ?_ | intro _ | (apply cG; first | refine cT ?_ | refine cF ?_ | refine cS (fun _ => ?_) fun _ => ?_) | (apply gW; refine sW ?_) | (apply gI; refine sI ?_) | (apply gE; refine sE ?_) | (apply gP; refine sP ?_) | (apply gC; refine sC ?_) | (apply gD; refine sD ?_) | fail)
        refine O_d (dy_call ArgsI.pf (by first | exact rfl | trivial | (intro a b; rfl)) (Around_ct (n := n) (most := (xs.length : Int)) hn1 hn2 (by omega) (by omega))) ?_; rintro _ _ ⟨_, ⟨rfl, hLL⟩, rfl⟩; replace hLL := hLL.symm; subst hLL; refine O_n ?_
        obtain ⟨ha0, ha1⟩ := around_in (n := n) (most := (xs.length : Int)) (by omega)
        obtain ⟨ar, har⟩ : ∃ ar, around n (xs.length : Int) = ar := ⟨_, rfl⟩
        rw [har] at ha0 ha1 ⊢
        have hmb1 := mbrF_len (F := F) (G := G) (s := ar) (g := 0)
        refine O_d (dy_call ArgsI.pf (by first | exact rfl | trivial | (intro a b; rfl)) (rMembers_ct (t := ⟨p, A1, B1, C1, ca, cb, cc, U, F, xs⟩) (s := ar) (g := 0) (G := G) ⟨.tail _ (.tail _ (.tail _ (.tail _ (.tail _ (.tail _ (.head _)))))), .tail _ (.tail _ (.tail _ (.tail _ (.tail _ (.tail _ (.tail _ (.head _))))))), .tail _ (.tail _ (.tail _ (.tail _ (.tail _ (.tail _ (.tail _ (.tail _ (.head _)))))))), .tail _ (.tail _ (.tail _ (.tail _ (.tail _ (.tail _ (.tail _ (.tail _ (.tail _ (.head _)))))))))⟩ hxs (by dsimp only; omega) hc.inG ⟨by omega, by omega⟩)) ?_; rintro _ _ ⟨_, ⟨A5, c5, rfl, rfl⟩, rfl⟩; refine O_n ?_
        dsimp only
        obtain ⟨mb, hmb⟩ : ∃ mb, mbrF F G ar 0 = mb := ⟨_, rfl⟩
        rw [hmb] at hmb1 ⊢
        refine O_frz 0 ?_
        repeat' (first | refine go ?_ | intro _ | (apply cG; first | refine cT ?_ | refine cF ?_ | refine cS (fun _ => ?_) fun _ => ?_) | (apply gW; refine sW ?_) | (apply gI; refine sI ?_) | (apply gE; refine sE ?_) | (apply gP; refine sP ?_) | (apply gC; refine sC ?_) | (apply gD; refine sD ?_) | fail)
        refine O_d (dy_lit1 (R := eSX eI) (⟨.slice A5 mb.length c5, mb⟩ : SX Int) (hcs := by rfl) (hel := fun m h hs => ⟨rfl, rd_mem hs (by repeat (first | exact .head _ | refine .tail _ ?_))⟩)) ?_; rintro _ _ ⟨_, rfl, rfl⟩; refine O_n ?_
        repeat' (first | refine go ?_ | intro _ | (apply cG; first | refine cT ?_ | refine cF ?_ | refine cS (fun _ => ?_) fun _ => ?_) | (apply gW; refine sW ?_) | (apply gI; refine sI ?_) | (apply gE; refine sE ?_) | (apply gP; refine sP ?_) | (apply gC; refine sC ?_) | (apply gD; refine sD ?_) | fail)
        rename_i w2 A6 c6
        exact E_join (A6, c6, zs ++ [⟨.slice A5 mb.length c5, mb⟩]) ⟨by dsimp only; rw [List.length_append]; show zs.length + 1 ≤ 5; omega, fun z hz => by
          rcases List.mem_append.1 hz with hz | hz
          · exact hz0 z hz
          · rw [List.mem_singleton.1 hz]
            exact ⟨by dsimp only; omega, _, _, rfl⟩⟩ ⟨by dsimp only; rw [List.length_append]; rfl, trivial⟩ (by dsimp only; rw [List.length_append]; exact Sb)
  rintro ⟨Az, cz, ys⟩ u1 ⟨hyl, hy0⟩
  dsimp only at hyl hy0
  dsimp only
  ((try dsimp only); refine C_n ?_; (try simp only [Nat.reduceAdd, Nat.zero_add]))
  refine C_frz 0 ?_
  refine C_sub (S := tbl T :: rd (eSX eI) (.slice Az ys.length cz) ys :: cel p [.slice A1 U.length ca, .slice B1 F.length cb, .slice C1 xs.length cc] 32 :: rd eI (.slice A1 U.length ca) U :: rd eI (.slice B1 F.length cb) F :: rd (eSX eI) (.slice C1 xs.length cc) xs :: L) Sb ?_
  repeat' (first | refine go ?_ | intro _ | (apply cG; first | refine cT ?_ | refine cF ?_ | refine cS (fun _ => ?_) fun _ => ?_) | (apply gW; refine sW ?_) | (apply gI; refine sI ?_) | (apply gE; refine sE ?_) | (apply gP; refine sP ?_) | (apply gC; refine sC ?_) | (apply gD; refine sD ?_) | fail)
  refine C_loopS (κ := Nat) [false, false, false, false, false, false, true, false, false, false, false, false, false, true, true, true, true, true, true, true, true, false, false, false, false, false, false, false, false, false, false, false, false, false, false, false, false, false, false, false, false, false, false, false, false, false, false, false, false, false, false, false, false, false, false, false, false, false, false, false, false, false, false, false, false, false, false, false, false, false, false, false, false, false, false, true, true, true, true, true, true, true, true, true, true, true, true, true, true, true, true, true, true, true, true, true, true, true, true, true, true, true, true, true, true, true, true, true, true, true, true, true, true, true, true, true, true, true, true, true, true, true, true, true, true, true, true, true, true, true, true, true, true, true, true, true, true, true, true, true, true, true, true, true, true, true, true, true, true, true, true, true, true, true, true, false] (fun k => [(13, .int .i64 (k : Int))]) (fun k => []) (fun k => k ≤ ys.length) (fun k => ys.length - k) 0 (Nat.zero_le _) ⟨rfl, trivial⟩ ?_
  rintro i u2 hi
  ((try dsimp only); refine C_n ?_; (try simp only [Nat.reduceAdd, Nat.zero_add]))
  by_cases hiy : i < ys.length
  rotate_left
  · have : i = ys.length := by omega
    repeat' (first | refine go ?_ | intro _ | (apply cG; first | refine cT ?_ | refine cF ?_ | refine cS (fun _ => ?_) fun _ => ?_) | (apply gW; refine sW ?_) | (apply gI; refine sI ?_) | (apply gE; refine sE ?_) | (apply gP; refine sP ?_) | (apply gC; refine sC ?_) | (apply gD; refine sD ?_) | fail)
    refine O_d (dy_call ArgsI.pf (by first | exact rfl | trivial | (intro a b; rfl)) (lives_ct)) ?_; rintro _ _ ⟨_, ⟨rfl, hLL⟩, rfl⟩; replace hLL := hLL.symm; subst hLL; refine O_n ?_
    repeat' (first | refine go ?_ | intro _ | (apply cG; first | refine cT ?_ | refine cF ?_ | refine cS (fun _ => ?_) fun _ => ?_) | (apply gW; refine sW ?_) | (apply gI; refine sI ?_) | (apply gE; refine sE ?_) | (apply gP; refine sP ?_) | (apply gC; refine sC ?_) | (apply gD; refine sD ?_) | fail)
    refine E_res1 (by rfl) (by rfl) ⟨rfl, rfl⟩ Sb
  obtain ⟨z, hz⟩ : ∃ z, ys[i]? = some z := ⟨_, List.getElem?_eq_getElem (by omega)⟩
  have haz : At ys i z := ⟨hz⟩
  obtain ⟨hzb, Ab, cb2, hzv⟩ := hy0 z (List.mem_of_getElem? hz)
  refine C_sub (sub_peekX (.tail _ (.head _)) hz) ?_
  have hec : EncC (eSX eI) z [.slice Ab z.b.length cb2] := ⟨fun m cs h => by rw [h.1, hzv]⟩
  rw [hzv]
  refine C_sub (S := tbl T :: rd eI (.slice Ab z.b.length cb2) z.b :: rd (eSX eI) (.slice Az ys.length cz) ys :: cel p [.slice A1 U.length ca, .slice B1 F.length cb, .slice C1 xs.length cc] 32 :: rd eI (.slice A1 U.length ca) U :: rd eI (.slice B1 F.length cb) F :: rd (eSX eI) (.slice C1 xs.length cc) xs :: L) Sb ?_
  repeat' (first | refine go ?_ | intro _ | (apply cG; first | refine cT ?_ | refine cF ?_ | refine cS (fun _ => ?_) fun _ => ?_) | (apply gW; refine sW ?_) | (apply gI; refine sI ?_) | (apply gE; refine sE ?_) | (apply gP; refine sP ?_) | (apply gC; refine sC ?_) | (apply gD; refine sD ?_) | fail)
  refine O_d (dy_call ArgsI.pf (by first | exact rfl | trivial | (intro a b; rfl)) (Cover_ct (l := z.b) hT hc (by omega) (.head _) hzb (by omega))) ?_; rintro _ _ ⟨_, ⟨A7, c7, rfl, rfl⟩, rfl⟩; refine O_n ?_
  refine O_frz 0 ?_
  repeat' (first | refine go ?_ | intro _ | (apply cG; first | refine cT ?_ | refine cF ?_ | refine cS (fun _ => ?_) fun _ => ?_) | (apply gW; refine sW ?_) | (apply gI; refine sI ?_) | (apply gE; refine sE ?_) | (apply gP; refine sP ?_) | (apply gC; refine sC ?_) | (apply gD; refine sD ?_) | fail)
  refine O_d (dy_call ArgsI.pf (by first | exact rfl | trivial | (intro a b; rfl)) (rCover_ct (t := ⟨p, A1, B1, C1, ca, cb, cc, U, F, xs⟩) (l := z.b) (G := G) ⟨.tail _ (.tail _ (.tail _ (.tail _ (.head _)))), .tail _ (.tail _ (.tail _ (.tail _ (.tail _ (.head _))))), .tail _ (.tail _ (.tail _ (.tail _ (.tail _ (.tail _ (.head _)))))), .tail _ (.tail _ (.tail _ (.tail _ (.tail _ (.tail _ (.tail _ (.head _)))))))⟩ hxs (by dsimp only; omega) hc.inG (.tail _ (.tail _ (.head _))) hzb (by dsimp only; omega) (by omega))) ?_; rintro _ _ ⟨_, ⟨A8, c8, rfl, rfl⟩, rfl⟩; refine O_n ?_
  dsimp only
  refine O_frz 0 ?_
  repeat' (first | refine go ?_ | intro _ | (apply cG; first | refine cT ?_ | refine cF ?_ | refine cS (fun _ => ?_) fun _ => ?_) | (apply gW; refine sW ?_) | (apply gI; refine sI ?_) | (apply gE; refine sE ?_) | (apply gP; refine sP ?_) | (apply gC; refine sC ?_) | (apply gD; refine sD ?_) | fail)
  refine O_d (dy_call ArgsI.pf (by first | exact rfl | trivial | (intro a b; rfl)) (CT.pull (i := 2) (by rfl) (Atoms_ct (l := z.b) hT hc (by omega) (.tail _ (.tail _ (.head _))) hzb (by omega)))) ?_; rintro _ _ ⟨_, ⟨rfl, rfl⟩, rfl⟩; refine O_n ?_
  obtain ⟨e, he⟩ : ∃ e, covE U.length z.b = e := ⟨_, rfl⟩
  by_cases he0 : e = 0
  · obtain ⟨h1, h2, h3⟩ := cov_ok (by rw [he]; exact he0)
    have hol := covF_len hc (l := z.b)
    have hoo : covO F G U.length z.b = covF F G z.b := by unfold covO; rw [if_pos (by rw [he]; exact he0)]
    rw [he, hoo]
    subst he0
    rw [if_pos rfl]
    obtain ⟨o, ho⟩ : ∃ o, covF F G z.b = o := ⟨_, rfl⟩
    rw [ho] at hol ⊢
    repeat' (first | refine go ?_ | intro _ | (apply cG; first | refine cT ?_ | refine cF ?_ | refine cS (fun _ => ?_) fun _ => ?_) | (apply gW; refine sW ?_) | (apply gI; refine sI ?_) | (apply gE; refine sE ?_) | (apply gP; refine sP ?_) | (apply gC; refine sC ?_) | (apply gD; refine sD ?_) | fail)
    refine O_d (dy_call ArgsI.pf (by first | exact rfl | trivial | (intro a b; rfl)) (samePairs_ct (a := o) (.tail _ (.tail _ (.head _))) (.tail _ (.head _)) (by omega))) ?_; rintro _ _ ⟨_, ⟨rfl, hLL⟩, rfl⟩; replace hLL := hLL.symm; subst hLL; refine O_n ?_
    repeat' (first | refine go ?_ | intro _ | (apply cG; first | refine cT ?_ | refine cF ?_ | refine cS (fun _ => ?_) fun _ => ?_) | (apply gW; refine sW ?_) | (apply gI; refine sI ?_) | (apply gE; refine sE ?_) | (apply gP; refine sP ?_) | (apply gC; refine sC ?_) | (apply gD; refine sD ?_) | fail)
    refine O_d (dy_call ArgsI.pf (by first | exact rfl | trivial | (intro a b; rfl)) (rSum_ct (t := ⟨p, A1, B1, C1, ca, cb, cc, U, F, xs⟩) (l := z.b) ⟨.tail _ (.tail _ (.tail _ (.tail _ (.tail _ (.head _))))), .tail _ (.tail _ (.tail _ (.tail _ (.tail _ (.tail _ (.head _)))))), .tail _ (.tail _ (.tail _ (.tail _ (.tail _ (.tail _ (.tail _ (.head _))))))), .tail _ (.tail _ (.tail _ (.tail _ (.tail _ (.tail _ (.tail _ (.tail _ (.head _))))))))⟩ (.tail _ (.tail _ (.tail _ (.head _)))) hc.u h2 (by omega))) ?_; rintro _ _ ⟨_, ⟨rfl, hLL⟩, rfl⟩; replace hLL := hLL.symm; subst hLL; refine O_n ?_
    dsimp only
    repeat' (first | refine go ?_ | intro _ | (apply cG; first | refine cT ?_ | refine cF ?_ | refine cS (fun _ => ?_) fun _ => ?_) | (apply gW; refine sW ?_) | (apply gI; refine sI ?_) | (apply gE; refine sE ?_) | (apply gP; refine sP ?_) | (apply gC; refine sC ?_) | (apply gD; refine sD ?_) | fail)
    exact E_round (i + 1) hiy (by omega) ⟨rfl, trivial⟩ Sb
  · have hoo : covO F G U.length z.b = [] := by unfold covO; rw [if_neg (by rw [he]; exact he0)]
    have hen := covE_en (n := U.length) (l := z.b)
    rw [he] at hen
    rw [he, hoo, if_neg he0]
    simp only [List.length_nil]
    repeat' (first | refine go ?_ | intro _ | (apply cG; first | refine cT ?_ | refine cF ?_ | refine cS (fun _ => ?_) fun _ => ?_) | (apply gW; refine sW ?_) | (apply gI; refine sI ?_) | (apply gE; refine sE ?_) | (apply gP; refine sP ?_) | (apply gC; refine sC ?_) | (apply gD; refine sD ?_) | fail)
    refine O_d (dy_call ArgsI.pf (by first | exact rfl | trivial | (intro a b; rfl)) (samePairs_ct (a := []) (.tail _ (.tail _ (.head _))) (.tail _ (.head _)) (by decide))) ?_; rintro _ _ ⟨_, ⟨rfl, hLL⟩, rfl⟩; replace hLL := hLL.symm; subst hLL; refine O_n ?_
    repeat' (first | refine go ?_ | intro _ | (apply cG; first | refine cT ?_ | refine cF ?_ | refine cS (fun _ => ?_) fun _ => ?_) | (apply gW; refine sW ?_) | (apply gI; refine sI ?_) | (apply gE; refine sE ?_) | (apply gP; refine sP ?_) | (apply gC; refine sC ?_) | (apply gD; refine sD ?_) | fail)
    exact E_round (i + 1) hiy (by omega) ⟨rfl, trivial⟩ Sb
end
theorem SumsCover_any {v vm : Value} {li lm : List Int} {n : Int} {w : World} (s : St w w [rd eI v li, rd eI vm lm]) (hl : li.length ≤ 9223372036854775807) (hr : ∀ n ∈ li, I64 n) (hlm : lm.length ≤ 9223372036854775807) (hn : I64 n) :
    Calls Try.prog 6 #[v, vm, .int .i64 n] w fun e w' => e = .returned (.bool true) ∧ Below w.heap.size w w' :=
  ((SumsCover_ct (W0 := w) (.head _) hl hr (.tail _ (.head _)) hlm hn).run w s).mono fun e w' h => by
    obtain ⟨v, L', rfl, ⟨rfl, rfl⟩, s⟩ := h
    exact ⟨rfl, s.below⟩
end Go.Proofs.Ytlmabajgnjiigaa
