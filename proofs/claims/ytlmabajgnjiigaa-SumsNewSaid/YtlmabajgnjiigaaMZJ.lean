/-
  The law SumsNew.
-/
import Derived.Test.YtlmabajgnjiigaaMZI
import Derived.Test.YtlmabajgnjiigaaMC
namespace Go.Proofs.Ytlmabajgnjiigaa
open Go Go.RowKit
set_option linter.unusedVariables false
set_option linter.unusedSimpArgs false
set_option maxRecDepth 20000
set_option synthInstance.maxSize 100000
set_option synthInstance.maxHeartbeats 400000
/-- a table of the reference that lies in L and is not great -/
def GoodT (p : Nat) (L : List HP) : Prop := ∃ (t : RT) (G : List (List Int)), t.p = p ∧ RTin t L ∧ t.xs.map SX.b = G ∧ t.U.length ≤ 1000 ∧ t.F.length ≤ 1000 ∧ G.length ≤ 1000 ∧ ∀ x ∈ G, x.length ≤ 1000
theorem RTin.mono {t : RT} {L L' : List HP} (h : RTin t L) (hs : ∀ x ∈ L, x ∈ L') : RTin t L' := ⟨hs _ h.1, hs _ h.2, hs _ h.3, hs _ h.4⟩
theorem GoodT.mono {p : Nat} {L L' : List HP} (h : GoodT p L) (hs : ∀ x ∈ L, x ∈ L') : GoodT p L' := by
  obtain ⟨t, G, h1, h2, h3⟩ := h
  exact ⟨t, G, h1, h2.mono hs, h3⟩
theorem GoodT.few {t : RT} {n : Nat} {G : List (List Int)} {L : List HP} (hn : n ≤ 1000) (hf : Few n t.U t.F G) (hx : t.xs.map SX.b = G) (h : RTin t L) : GoodT t.p L := ⟨t, G, rfl, h, hx, by have := hf.u; omega, by have := hf.f; omega, by have := hf.g; omega, fun x h => by have := hf.r x h; omega⟩
theorem few_chk {U F : List Int} {G : List (List Int)} (hc : ChkT U F G) (hU : U.length ≤ 9) (hG : G.length ≤ 3) : Few 9 U F G := by
  have hl := hc.len
  have hm := hc.many
  have hr : ∀ x ∈ G, (x.length : Int) = facF F := fun x hx => by
    obtain ⟨s, hs⟩ := List.getElem?_of_mem hx
    exact (hc.g s x hs).1
  refine ⟨hU, by omega, by omega, fun x hx => by have := hr x hx; omega, fun x0 h0 h1 x hx => ?_⟩
  have h2 := hr x hx
  have h3 := hr x0 (List.mem_of_getElem? h0)
  omega
theorem chkE_zero {U : List Int} {q : Bool} (h : chkE29 U q = 0) : q = true ∧ sumL U ≤ 1099511627776 := by
  unfold chkE29 at h
  split at h
  · rename_i hq
    split at h
    · cases h
    · exact ⟨hq, by omega⟩
  · cases h
section
variable {U F : List Int} {G : List (List Int)}
theorem TOk.grp0 {t : TT} (ht : TOk t U F G) {a b : Int} (h : mbrF F G a b = []) : grpF t a b = .tuple #[.int .i64 0, .int .i64 7] := by
  have h1 := ht.mm a b
  unfold optL at h1
  rw [if_pos h] at h1
  unfold grpF
  rw [Option.map_eq_none_iff.1 h1]
end
def pv (p : Nat) : Value := .pointer (some ⟨p, 0, none⟩)
def ePt : Enc Nat := e1 pv fun _ => rfl
instance : Sz ePt 1 := ⟨rfl⟩
instance {p : Nat} : EncC ePt p [.pointer (some ⟨p, 0, none⟩)] := ⟨fun _ _ h => h⟩
section
variable {W0 : World} {L : List HP}
theorem made_any {t : RT} {G : List (List Int)} {q : Bool} (ht : RTin t L) (hxs : t.xs.map SX.b = G) (hUl : t.U.length ≤ 1000) (hFl : t.F.length ≤ 1000) (hGl : G.length ≤ 1000) (hGr : ∀ x ∈ G, x.length ≤ 1000) (hq : q = true ↔ ChkT t.U t.F G) :
    CT Try.prog 10 #[.pointer (some ⟨t.p, 0, none⟩)] W0 L fun r L' => (chkE29 t.U q = 0 ∧ ∃ T : TT, TOk T t.U t.F G ∧ r = .tuple #[.pointer (some ⟨T.q, 0, none⟩), .int .i64 0] ∧ L' = tbl T :: L) ∨ (chkE29 t.U q ≠ 0 ∧ r = .tuple #[.pointer none, .int .i64 (chkE29 t.U q)] ∧ L' = L) := by
  obtain ⟨p, A1, B1, C1, ca, cb, cc, U, F, xs⟩ := t
  obtain ⟨h1, h2, h3, h4⟩ := ht
  dsimp only at h1 h2 h3 h4 hxs hUl hFl hq ⊢
  have hip : InC p L _ _ := ⟨h1⟩
  have hS : Sub L [cel p [.slice A1 U.length ca, .slice B1 F.length cb, .slice C1 xs.length cc] 32] := sub_mem1 h1
  refine CT_enter Try.func10 rfl ?_; (simp only [Try.ntmps10, List.size_toArray, List.length_cons, List.length_nil, Nat.reduceAdd, Nat.reduceSub, Array.replicate_succ, Array.replicate_zero, List.push_toArray, List.append_toArray, List.nil_append, List.cons_append])
  repeat' (first | refine go ?_ | intro _ | (apply cG; first | refine cT ?_ | refine cF ?_ | refine cS (fun _ => ?_) fun _ => ?_) | (apply gW; refine sW ?_) | (apply gI; refine sI ?_) | (apply gE; refine sE ?_) | (apply gP; refine sP ?_) | (apply gC; refine sC ?_) | (apply gD; refine sD ?_) | fail)
  refine C_draw (n := 99) [cel p [.slice A1 U.length ca, .slice B1 F.length cb, .slice C1 xs.length cc] 32] [(0, 1), (1, 1), (2, 1), (3, 1), (4, 1), (5, 1), (6, 1), (7, 1), (8, 1), (9, 1), (10, 1), (11, 1), (12, 1), (13, 0), (14, 1), (15, 1), (16, 1), (17, 1)] (by kernel_rfl) (by kernel_rfl) hS ?_
  repeat' (first | refine go ?_ | intro _ | (apply cG; first | refine cT ?_ | refine cF ?_ | refine cS (fun _ => ?_) fun _ => ?_) | (apply gW; refine sW ?_) | (apply gI; refine sI ?_) | (apply gE; refine sE ?_) | (apply gP; refine sP ?_) | (apply gC; refine sC ?_) | (apply gD; refine sD ?_) | fail)
  refine D_op rfl ?_; refine X_d (dy_call ArgsI.pf (by first | exact rfl | trivial | (intro a b; rfl)) (New_ct (U := U) (F := F) (xs := xs) h2 h3 h4 hxs hUl hFl hGl hGr hq)) ?_; rintro _ _ ⟨_, h, rfl⟩
  rcases h with ⟨hz, T, hT, rfl, rfl⟩ | ⟨hz, rfl, rfl⟩
  · refine ⟨.inr (sub_drop hS), D_n ?_⟩
    repeat' (first | refine go ?_ | intro _ | (apply cG; first | refine cT ?_ | refine cF ?_ | refine cS (fun _ => ?_) fun _ => ?_) | (apply gW; refine sW ?_) | (apply gI; refine sI ?_) | (apply gE; refine sE ?_) | (apply gP; refine sP ?_) | (apply gC; refine sC ?_) | (apply gD; refine sD ?_) | fail)
    refine E_res2 (by rfl) (by rfl) (.inl ⟨hz, T, hT, rfl, rfl⟩) Sb
  · refine ⟨.inr hS, D_n ?_⟩
    repeat' (first | refine go ?_ | intro _ | (apply cG; first | refine cT ?_ | refine cF ?_ | refine cS (fun _ => ?_) fun _ => ?_) | (apply gW; refine sW ?_) | (apply gI; refine sI ?_) | (apply gE; refine sE ?_) | (apply gP; refine sP ?_) | (apply gC; refine sC ?_) | (apply gD; refine sD ?_) | fail)
    refine E_res2 (by rfl) (by rfl) (.inr ⟨hz, rfl, rfl⟩) Sb
set_option maxHeartbeats 4000000 in
theorem SumsNew_ct {v : Value} {li : List Int} {at_ how by_ : Int} (hv : rd eI v li ∈ L) (hl : li.length ≤ 9223372036854775807) (hr : ∀ n ∈ li, I64 n) (ha : I64 at_) (hh : I64 how) (hb : I64 by_) :
    CT Try.prog 5 #[v, .int .i64 at_, .int .i64 how, .int .i64 by_] W0 L fun r L' => r = .bool true ∧ L' = L := by
  refine CT_fact (fun w s => ((Src.sl (.inl hv) s).form)) ?_
  rintro ⟨A0, c0, rfl, hc0⟩
  refine CT.sub ?_ (sub_dup hv)
  have hq3 := tdiv_bd (n := by_) (d := 3) (by decide) hb.1 hb.2
  refine CT_enter Try.func5 rfl ?_; (simp only [Try.ntmps5, List.size_toArray, List.length_cons, List.length_nil, Nat.reduceAdd, Nat.reduceSub, Array.replicate_succ, Array.replicate_zero, List.push_toArray, List.append_toArray, List.nil_append, List.cons_append])
  repeat' (first | refine go ?_ | intro _ | (apply cG; first | refine cT ?_ | refine cF ?_ | refine cS (fun _ => ?_) fun _ => ?_) | (apply gW; refine sW ?_) | (apply gI; refine sI ?_) | (apply gE; refine sE ?_) | (apply gP; refine sP ?_) | (apply gC; refine sC ?_) | (apply gD; refine sD ?_) | fail)
  refine O_d (dy_call ArgsI.pf (by first | exact rfl | trivial | (intro a b; rfl)) (rSome_ct (l := li) (.head _) hr hl)) ?_; rintro _ _ ⟨_, ⟨t, G, rfl, ⟨hc, hxs, hU9, hG3, hu49⟩, rfl⟩, rfl⟩; refine O_n ?_
  have hf0 := few_chk hc hU9 hG3
  have hg0 := GoodT.few (L := cel t.p [.slice t.A t.U.length t.ca, .slice t.B t.F.length t.cb, .slice t.C t.xs.length t.cc] 32 :: rd eI (.slice t.A t.U.length t.ca) t.U :: rd eI (.slice t.B t.F.length t.cb) t.F :: rd (eSX eI) (.slice t.C t.xs.length t.cc) t.xs :: rd eI (.slice A0 li.length c0) li :: L) (by decide) hf0 hxs ⟨.head _, .tail _ (.head _), .tail _ (.tail _ (.head _)), .tail _ (.tail _ (.tail _ (.head _)))⟩
  have hi0 : RTin t (cel t.p [.slice t.A t.U.length t.ca, .slice t.B t.F.length t.cb, .slice t.C t.xs.length t.cc] 32 :: rd eI (.slice t.A t.U.length t.ca) t.U :: rd eI (.slice t.B t.F.length t.cb) t.F :: rd (eSX eI) (.slice t.C t.xs.length t.cc) t.xs :: rd eI (.slice A0 li.length c0) li :: L) := ⟨.head _, .tail _ (.head _), .tail _ (.tail _ (.head _)), .tail _ (.tail _ (.tail _ (.head _)))⟩
  have hs0 : Sub (cel t.p [.slice t.A t.U.length t.ca, .slice t.B t.F.length t.cb, .slice t.C t.xs.length t.cc] 32 :: rd eI (.slice t.A t.U.length t.ca) t.U :: rd eI (.slice t.B t.F.length t.cb) t.F :: rd (eSX eI) (.slice t.C t.xs.length t.cc) t.xs :: rd eI (.slice A0 li.length c0) li :: L) L := Sb
  obtain ⟨L1, hL1⟩ : ∃ L1, cel t.p [.slice t.A t.U.length t.ca, .slice t.B t.F.length t.cb, .slice t.C t.xs.length t.cc] 32 :: rd eI (.slice t.A t.U.length t.ca) t.U :: rd eI (.slice t.B t.F.length t.cb) t.F :: rd (eSX eI) (.slice t.C t.xs.length t.cc) t.xs :: rd eI (.slice A0 li.length c0) li :: L = L1 := ⟨_, rfl⟩
  rw [hL1] at hg0 hi0 hs0 ⊢
  repeat' (first | refine go ?_ | intro _ | (apply cG; first | refine cT ?_ | refine cF ?_ | refine cS (fun _ => ?_) fun _ => ?_) | (apply gW; refine sW ?_) | (apply gI; refine sI ?_) | (apply gE; refine sE ?_) | (apply gP; refine sP ?_) | (apply gC; refine sC ?_) | (apply gD; refine sD ?_) | fail)
  refine O_d (dy_call ArgsI.pf (by first | exact rfl | trivial | (intro a b; rfl)) (Spoilt_ct (n := 9) hi0 hxs hf0 (by decide) ha hh hb)) ?_; rintro _ _ ⟨_, ⟨t2, G2, rfl, hx2, hf2, rfl⟩, rfl⟩; refine O_n ?_
  have hi2 : RTin t2 (cel t2.p [.slice t2.A t2.U.length t2.ca, .slice t2.B t2.F.length t2.cb, .slice t2.C t2.xs.length t2.cc] 32 :: rd eI (.slice t2.A t2.U.length t2.ca) t2.U :: rd eI (.slice t2.B t2.F.length t2.cb) t2.F :: rd (eSX eI) (.slice t2.C t2.xs.length t2.cc) t2.xs :: L1) := ⟨.head _, .tail _ (.head _), .tail _ (.tail _ (.head _)), .tail _ (.tail _ (.tail _ (.head _)))⟩
  have hg2 := GoodT.few (by decide) hf2 hx2 hi2
  replace hg0 := GoodT.mono (L' := cel t2.p [.slice t2.A t2.U.length t2.ca, .slice t2.B t2.F.length t2.cb, .slice t2.C t2.xs.length t2.cc] 32 :: rd eI (.slice t2.A t2.U.length t2.ca) t2.U :: rd eI (.slice t2.B t2.F.length t2.cb) t2.F :: rd (eSX eI) (.slice t2.C t2.xs.length t2.cc) t2.xs :: L1) hg0 fun x h => .tail _ (.tail _ (.tail _ (.tail _ h)))
  replace hs0 : Sub (cel t2.p [.slice t2.A t2.U.length t2.ca, .slice t2.B t2.F.length t2.cb, .slice t2.C t2.xs.length t2.cc] 32 :: rd eI (.slice t2.A t2.U.length t2.ca) t2.U :: rd eI (.slice t2.B t2.F.length t2.cb) t2.F :: rd (eSX eI) (.slice t2.C t2.xs.length t2.cc) t2.xs :: L1) L := Sub.trans (sub_drop (sub_drop (sub_drop (sub_drop (Sub.refl _))))) hs0
  obtain ⟨L2, hL2⟩ : ∃ L2, cel t2.p [.slice t2.A t2.U.length t2.ca, .slice t2.B t2.F.length t2.cb, .slice t2.C t2.xs.length t2.cc] 32 :: rd eI (.slice t2.A t2.U.length t2.ca) t2.U :: rd eI (.slice t2.B t2.F.length t2.cb) t2.F :: rd (eSX eI) (.slice t2.C t2.xs.length t2.cc) t2.xs :: L1 = L2 := ⟨_, rfl⟩
  rw [hL2] at hg0 hi2 hg2 hs0 ⊢
  repeat' (first | refine go ?_ | intro _ | (apply cG; first | refine cT ?_ | refine cF ?_ | refine cS (fun _ => ?_) fun _ => ?_) | (apply gW; refine sW ?_) | (apply gI; refine sI ?_) | (apply gE; refine sE ?_) | (apply gP; refine sP ?_) | (apply gC; refine sC ?_) | (apply gD; refine sD ?_) | fail)
  try rw [wr_i64 hq3.1 hq3.2]
  refine O_d (dy_call ArgsI.pf (by first | exact rfl | trivial | (intro a b; rfl)) (Spoilt_ct (n := 10) hi2 hx2 hf2 (by decide) hh ha hq3)) ?_; rintro _ _ ⟨_, ⟨t3, G3, rfl, hx3, hf3, rfl⟩, rfl⟩; refine O_n ?_
  have hi3 : RTin t3 (cel t3.p [.slice t3.A t3.U.length t3.ca, .slice t3.B t3.F.length t3.cb, .slice t3.C t3.xs.length t3.cc] 32 :: rd eI (.slice t3.A t3.U.length t3.ca) t3.U :: rd eI (.slice t3.B t3.F.length t3.cb) t3.F :: rd (eSX eI) (.slice t3.C t3.xs.length t3.cc) t3.xs :: L2) := ⟨.head _, .tail _ (.head _), .tail _ (.tail _ (.head _)), .tail _ (.tail _ (.tail _ (.head _)))⟩
  have hg3 := GoodT.few (by decide) hf3 hx3 hi3
  replace hg0 := GoodT.mono (L' := cel t3.p [.slice t3.A t3.U.length t3.ca, .slice t3.B t3.F.length t3.cb, .slice t3.C t3.xs.length t3.cc] 32 :: rd eI (.slice t3.A t3.U.length t3.ca) t3.U :: rd eI (.slice t3.B t3.F.length t3.cb) t3.F :: rd (eSX eI) (.slice t3.C t3.xs.length t3.cc) t3.xs :: L2) hg0 fun x h => .tail _ (.tail _ (.tail _ (.tail _ h)))
  replace hg2 := GoodT.mono (L' := cel t3.p [.slice t3.A t3.U.length t3.ca, .slice t3.B t3.F.length t3.cb, .slice t3.C t3.xs.length t3.cc] 32 :: rd eI (.slice t3.A t3.U.length t3.ca) t3.U :: rd eI (.slice t3.B t3.F.length t3.cb) t3.F :: rd (eSX eI) (.slice t3.C t3.xs.length t3.cc) t3.xs :: L2) hg2 fun x h => .tail _ (.tail _ (.tail _ (.tail _ h)))
  replace hs0 : Sub (cel t3.p [.slice t3.A t3.U.length t3.ca, .slice t3.B t3.F.length t3.cb, .slice t3.C t3.xs.length t3.cc] 32 :: rd eI (.slice t3.A t3.U.length t3.ca) t3.U :: rd eI (.slice t3.B t3.F.length t3.cb) t3.F :: rd (eSX eI) (.slice t3.C t3.xs.length t3.cc) t3.xs :: L2) L := Sub.trans (sub_drop (sub_drop (sub_drop (sub_drop (Sub.refl _))))) hs0
  obtain ⟨L3, hL3⟩ : ∃ L3, cel t3.p [.slice t3.A t3.U.length t3.ca, .slice t3.B t3.F.length t3.cb, .slice t3.C t3.xs.length t3.cc] 32 :: rd eI (.slice t3.A t3.U.length t3.ca) t3.U :: rd eI (.slice t3.B t3.F.length t3.cb) t3.F :: rd (eSX eI) (.slice t3.C t3.xs.length t3.cc) t3.xs :: L2 = L3 := ⟨_, rfl⟩
  rw [hL3] at hg0 hg2 hg3 hs0 ⊢
  repeat' (first | refine go ?_ | intro _ | (apply cG; first | refine cT ?_ | refine cF ?_ | refine cS (fun _ => ?_) fun _ => ?_) | (apply gW; refine sW ?_) | (apply gI; refine sI ?_) | (apply gE; refine sE ?_) | (apply gP; refine sP ?_) | (apply gC; refine sC ?_) | (apply gD; refine sD ?_) | fail)
  rename_i p4
  refine O_rdnil eI none 0 ?_
  refine O_rdnil (eSX eI) none 0 ?_
  have hi4 : RTin ⟨p4, none, none, none, 0, 0, 0, [], [], []⟩ (rd (eSX eI) (.slice none 0 0) ([] : List (SX Int)) :: rd eI (.slice none 0 0) ([] : List Int) :: cel p4 [.slice none 0 0, .slice none 0 0, .slice none 0 0] 32 :: L3) := ⟨.tail _ (.tail _ (.head _)), .tail _ (.head _), .tail _ (.head _), .head _⟩
  have hg4 : GoodT p4 (rd (eSX eI) (.slice none 0 0) ([] : List (SX Int)) :: rd eI (.slice none 0 0) ([] : List Int) :: cel p4 [.slice none 0 0, .slice none 0 0, .slice none 0 0] 32 :: L3) := ⟨_, [], rfl, hi4, rfl, Nat.zero_le _, Nat.zero_le _, Nat.zero_le _, fun x h => (by cases h)⟩
  replace hs0 : Sub (rd (eSX eI) (.slice none 0 0) ([] : List (SX Int)) :: rd eI (.slice none 0 0) ([] : List Int) :: cel p4 [.slice none 0 0, .slice none 0 0, .slice none 0 0] 32 :: L3) L := Sub.trans (sub_drop (sub_drop (sub_drop (Sub.refl _)))) hs0
  obtain ⟨ps, hps⟩ : ∃ ps : List Nat, [t.p, t2.p, t3.p, p4] = ps := ⟨_, rfl⟩
  have hpl : ps.length = 4 := by rw [← hps]; rfl
  have hgp : ∀ p ∈ ps, GoodT p (rd (eSX eI) (.slice none 0 0) ([] : List (SX Int)) :: rd eI (.slice none 0 0) ([] : List Int) :: cel p4 [.slice none 0 0, .slice none 0 0, .slice none 0 0] 32 :: L3) := by
    intro p hp
    rw [← hps] at hp
    simp only [List.mem_cons, List.not_mem_nil, or_false] at hp
    rcases hp with rfl | rfl | rfl | rfl
    · exact hg0.mono fun x h => .tail _ (.tail _ (.tail _ h))
    · exact hg2.mono fun x h => .tail _ (.tail _ (.tail _ h))
    · exact hg3.mono fun x h => .tail _ (.tail _ (.tail _ h))
    · exact hg4
  obtain ⟨L4, hL4⟩ : ∃ L4, rd (eSX eI) (.slice none 0 0) ([] : List (SX Int)) :: rd eI (.slice none 0 0) ([] : List Int) :: cel p4 [.slice none 0 0, .slice none 0 0, .slice none 0 0] 32 :: L3 = L4 := ⟨_, rfl⟩
  rw [hL4] at hgp hs0 ⊢
  refine O_d (dy_litP (f := pv) (hf := fun _ => rfl) [t.p, t2.p, t3.p, p4] (by rfl)) ?_; rintro _ _ ⟨_, rfl, rfl⟩; refine O_n ?_
  rename_i g5
  rw [hps]
  refine O_sub (S := own 23 ePt (.slice (some ⟨g5, 0, none⟩) 4 4) ps :: L4) (fun m h s => s) ?_
  clear hg0 hg2 hg3 hg4 hi0 hi2 hi3 hi4 hps hL1 hL2 hL3 hL4
  repeat' (first | refine go ?_ | intro _ | (apply cG; first | refine cT ?_ | refine cF ?_ | refine cS (fun _ => ?_) fun _ => ?_) | (apply gW; refine sW ?_) | (apply gI; refine sI ?_) | (apply gE; refine sE ?_) | (apply gP; refine sP ?_) | (apply gC; refine sC ?_) | (apply gD; refine sD ?_) | fail)
  refine C_loopS (κ := Nat) [false, false, false, false, false, false, false, false, true, false, false, false, true, true, true, true, true, true, true, true, true, false, false, false, false, false, false, false, false, false, false, false, false, false, false, false, false, false, false, true, true, true, true, true, true, true, true, true, true, true, true, true, true, true, true, true, true, true, true, true, true, true, true, true, true, true, true, true, true, true, true, true, true, true, true, true, true, true, true, true, true, true, true, true, true, true, true, true, true, true, true, true, true, true, true, true, true, true, true, true, true, true, true, true, true, true, true, true, true, true, true, true, true, true, true, true, true, true, true, true, true, true, true, true, true, true, true, true, true, true, true, true, true, true, true, true, true, true, true, true, true, true, true, true, true, false] (fun k => [(12, .int .i64 (k : Int))]) (fun k => []) (fun k => k ≤ 4) (fun k => 4 - k) 0 (Nat.zero_le _) ⟨rfl, trivial⟩ ?_
  rintro i u hi
  ((try dsimp only); refine C_n ?_; (try simp only [Nat.reduceAdd, Nat.zero_add]))
  by_cases hi4 : i < 4
  rotate_left
  · repeat' (first | refine go ?_ | intro _ | (apply cG; first | refine cT ?_ | refine cF ?_ | refine cS (fun _ => ?_) fun _ => ?_) | (apply gW; refine sW ?_) | (apply gI; refine sI ?_) | (apply gE; refine sE ?_) | (apply gP; refine sP ?_) | (apply gC; refine sC ?_) | (apply gD; refine sD ?_) | fail)
    refine O_d (dy_call ArgsI.pf (by first | exact rfl | trivial | (intro a b; rfl)) (lives_ct)) ?_; rintro _ _ ⟨_, ⟨rfl, hLL⟩, rfl⟩; replace hLL := hLL.symm; subst hLL; refine O_n ?_
    repeat' (first | refine go ?_ | intro _ | (apply cG; first | refine cT ?_ | refine cF ?_ | refine cS (fun _ => ?_) fun _ => ?_) | (apply gW; refine sW ?_) | (apply gI; refine sI ?_) | (apply gE; refine sE ?_) | (apply gP; refine sP ?_) | (apply gC; refine sC ?_) | (apply gD; refine sD ?_) | fail)
    refine E_res1 (by rfl) (by rfl) ⟨rfl, rfl⟩ (sub_drop hs0)
  obtain ⟨p, hp⟩ : ∃ p, ps[i]? = some p := ⟨_, List.getElem?_eq_getElem (by omega)⟩
  have hap : At ps i p := ⟨hp⟩
  obtain ⟨t, G, hpt, hti, hxs, hU, hF, hG, hGr⟩ := hgp p (List.mem_of_getElem? hp)
  obtain ⟨q, hq⟩ : ∃ q : Bool, q = true ↔ ChkT t.U t.F G := by
    by_cases h : ChkT t.U t.F G
    · exact ⟨true, fun _ => h, fun _ => rfl⟩
    · exact ⟨false, fun h => Bool.noConfusion h, fun h' => absurd h' h⟩
  subst hpt
  repeat' (first | refine go ?_ | intro _ | (apply cG; first | refine cT ?_ | refine cF ?_ | refine cS (fun _ => ?_) fun _ => ?_) | (apply gW; refine sW ?_) | (apply gI; refine sI ?_) | (apply gE; refine sE ?_) | (apply gP; refine sP ?_) | (apply gC; refine sC ?_) | (apply gD; refine sD ?_) | fail)
  refine O_d (dy_call ArgsI.pf (by first | exact rfl | trivial | (intro a b; rfl)) (made_any (t := t) (hti.mono fun x h => .tail _ h) hxs hU hF hG hGr hq)) ?_
  rintro _ _ ⟨_, h, rfl⟩
  obtain ⟨z, hz⟩ : ∃ z, chkE29 t.U q = z := ⟨_, rfl⟩
  rcases h with ⟨hz0, T, hT, rfl, rfl⟩ | ⟨hz0, rfl, rfl⟩
  rotate_left
  · rw [hz] at hz0 ⊢
    refine O_n ?_
    repeat' (first | refine go ?_ | intro _ | (apply cG; first | refine cT ?_ | refine cF ?_ | refine cS (fun _ => ?_) fun _ => ?_) | (apply gW; refine sW ?_) | (apply gI; refine sI ?_) | (apply gE; refine sE ?_) | (apply gP; refine sP ?_) | (apply gC; refine sC ?_) | (apply gD; refine sD ?_) | fail)
    refine O_d (dy_call ArgsI.pf (by first | exact rfl | trivial | (intro a b; rfl)) (rCheck_ct (t := t) (hti.mono fun x h => .tail _ h) hxs hU (by omega) (by omega) (fun x h => by have := hGr x h; omega) hq)) ?_; rintro _ _ ⟨_, ⟨rfl, hLL⟩, rfl⟩; replace hLL := hLL.symm; subst hLL; refine O_n ?_
    rw [hz]
    repeat' (first | refine go ?_ | intro _ | (apply cG; first | refine cT ?_ | refine cF ?_ | refine cS (fun _ => ?_) fun _ => ?_) | (apply gW; refine sW ?_) | (apply gI; refine sI ?_) | (apply gE; refine sE ?_) | (apply gP; refine sP ?_) | (apply gC; refine sC ?_) | (apply gD; refine sD ?_) | fail)
    exact E_round (i + 1) (by omega) (by omega) ⟨rfl, trivial⟩ Sb
  obtain ⟨rfl, hs40⟩ := chkE_zero hz0
  have hc := hq.1 rfl
  refine O_n ?_
  repeat' (first | refine go ?_ | intro _ | (apply cG; first | refine cT ?_ | refine cF ?_ | refine cS (fun _ => ?_) fun _ => ?_) | (apply gW; refine sW ?_) | (apply gI; refine sI ?_) | (apply gE; refine sE ?_) | (apply gP; refine sP ?_) | (apply gC; refine sC ?_) | (apply gD; refine sD ?_) | fail)
  refine O_d (dy_call ArgsI.pf (by first | exact rfl | trivial | (intro a b; rfl)) (rCheck_ct (t := t) (hti.mono fun x h => .tail _ (.tail _ h)) hxs hU (by omega) (by omega) (fun x h => by have := hGr x h; omega) hq)) ?_; rintro _ _ ⟨_, ⟨rfl, hLL⟩, rfl⟩; replace hLL := hLL.symm; subst hLL; refine O_n ?_
  rw [hz0]
  repeat' (first | refine go ?_ | intro _ | (apply cG; first | refine cT ?_ | refine cF ?_ | refine cS (fun _ => ?_) fun _ => ?_) | (apply gW; refine sW ?_) | (apply gI; refine sI ?_) | (apply gE; refine sE ?_) | (apply gP; refine sP ?_) | (apply gC; refine sC ?_) | (apply gD; refine sD ?_) | fail)
  have hcp : cel t.p [.slice t.A t.U.length t.ca, .slice t.B t.F.length t.cb, .slice t.C t.xs.length t.cc] 32 ∈ tbl T :: own 23 ePt (.slice (some ⟨g5, 0, none⟩) 4 4) ps :: L4 := .tail _ (.tail _ hti.1)
  refine C_draw (n := 99) [own 23 ePt (.slice (some ⟨g5, 0, none⟩) 4 4) ps] [(0, 1), (2, 1), (3, 1), (4, 1), (5, 1), (1, 0), (6, 0), (7, 1)] (by kernel_rfl) (by kernel_rfl) Sb ?_
  repeat' (first | refine go ?_ | intro _ | (apply cG; first | refine cT ?_ | refine cF ?_ | refine cS (fun _ => ?_) fun _ => ?_) | (apply gW; refine sW ?_) | (apply gI; refine sI ?_) | (apply gE; refine sE ?_) | (apply gP; refine sP ?_) | (apply gC; refine sC ?_) | (apply gD; refine sD ?_) | fail)
  refine D_op rfl ?_; refine X_d (dy_call ArgsI.pf (by first | exact rfl | trivial | (intro a b; rfl)) (Total_ct (t := T))) ?_; rintro _ _ ⟨_, ⟨rfl, hLL⟩, rfl⟩; replace hLL := hLL.symm; subst hLL; refine ⟨(by first | exact .inl rfl | exact .inr Sb), D_n ?_⟩
  rw [hT.tot]
  repeat' (first | refine go ?_ | intro _ | (apply cG; first | refine cT ?_ | refine cF ?_ | refine cS (fun _ => ?_) fun _ => ?_) | (apply gW; refine sW ?_) | (apply gI; refine sI ?_) | (apply gE; refine sE ?_) | (apply gP; refine sP ?_) | (apply gC; refine sC ?_) | (apply gD; refine sD ?_) | fail)
  refine D_op rfl ?_; refine X_d (dy_call ArgsI.pf (by first | exact rfl | trivial | (intro a b; rfl)) (rTotal_ct (U := t.U) hcp (.tail _ (.tail _ hti.2)) hU hc.u)) ?_; rintro _ _ ⟨_, ⟨rfl, hLL⟩, rfl⟩; replace hLL := hLL.symm; subst hLL; refine ⟨(by first | exact .inl rfl | exact .inr Sb), D_n ?_⟩
  repeat' (first | refine go ?_ | intro _ | (apply cG; first | refine cT ?_ | refine cF ?_ | refine cS (fun _ => ?_) fun _ => ?_) | (apply gW; refine sW ?_) | (apply gI; refine sI ?_) | (apply gE; refine sE ?_) | (apply gP; refine sP ?_) | (apply gC; refine sC ?_) | (apply gD; refine sD ?_) | fail)
  have hip : InC t.p L4 _ _ := ⟨hti.1⟩
  have hxl : t.xs.length = G.length := by rw [← hxs, List.length_map]
  refine C_loopS (κ := Nat) [false, false, false, false, false, false, false, false, true, false, false, false, false, false, false, true, true, true, true, true, true, false, false, false, false, false, false, false, false, false, false, false, false, false, false, false, false, false, false, false, false, false, false, false, false, false, false, false, false, false, false, false, false, false, false, false, false, false, false, false, false, false, false, false, false, false, false, false, false, false, false, false, false, false, false, false, false, true, true, true, true, true, true, true, true, true, true, true, true, true, true, true, true, true, true, true, true, true, true, true, true, true, true, true, true, true, true, true, true, true, true, true, true, true, true, true, true, true, true, true, true, true, true, true, true, true, true, true, true, true, true, true, true, true, true, true, true, true, true, true, true, true, true, true, true, false] (fun k => [(15, .int .i64 ((k : Int) - 1))]) (fun k => []) (fun k => k ≤ G.length + 2) (fun k => G.length + 2 - k) 0 (Nat.zero_le _) ⟨rfl, trivial⟩ ?_
  rintro s u2 hs
  ((try dsimp only); refine C_n ?_; (try simp only [Nat.reduceAdd, Nat.zero_add]))
  by_cases hsg : s < G.length + 2
  rotate_left
  · repeat' (first | refine go ?_ | intro _ | (apply cG; first | refine cT ?_ | refine cF ?_ | refine cS (fun _ => ?_) fun _ => ?_) | (apply gW; refine sW ?_) | (apply gI; refine sI ?_) | (apply gE; refine sE ?_) | (apply gP; refine sP ?_) | (apply gC; refine sC ?_) | (apply gD; refine sD ?_) | fail)
    exact E_round (i + 1) (by omega) (by omega) ⟨rfl, trivial⟩ Sb
  repeat' (first | refine go ?_ | intro _ | (apply cG; first | refine cT ?_ | refine cF ?_ | refine cS (fun _ => ?_) fun _ => ?_) | (apply gW; refine sW ?_) | (apply gI; refine sI ?_) | (apply gE; refine sE ?_) | (apply gP; refine sP ?_) | (apply gC; refine sC ?_) | (apply gD; refine sD ?_) | fail)
  refine C_loopS (κ := Nat) [false, false, false, false, false, false, false, false, true, false, false, false, false, false, false, false, true, true, true, true, true, false, false, false, false, false, false, false, false, false, false, false, false, false, false, false, false, false, false, false, false, false, false, false, false, false, false, false, false, false, false, false, false, false, false, false, false, false, false, false, false, false, false, false, false, false, false, false, false, false, false, false, false, false, false, false, false, false, false, false, false, false, false, false, false, false, false, false, false, true, true, true, true, true, true, true, true, true, true, true, true, true, true, true, true, true, true, true, true, true, true, true, true, true, true, true, true, true, true, true, true, true, true, true, true, true, true, true, true, true, true, true, true, true, true, true, true, true, true, true, true, true, true, true, true, false] (fun k => [(16, .int .i64 ((k : Int) - 1))]) (fun k => []) (fun k => k ≤ t.F.length + 2) (fun k => t.F.length + 2 - k) 0 (Nat.zero_le _) ⟨rfl, trivial⟩ ?_
  rintro g u3 hg
  ((try dsimp only); refine C_n ?_; (try simp only [Nat.reduceAdd, Nat.zero_add]))
  by_cases hgf : g < t.F.length + 2
  rotate_left
  · repeat' (first | refine go ?_ | intro _ | (apply cG; first | refine cT ?_ | refine cF ?_ | refine cS (fun _ => ?_) fun _ => ?_) | (apply gW; refine sW ?_) | (apply gI; refine sI ?_) | (apply gE; refine sE ?_) | (apply gP; refine sP ?_) | (apply gC; refine sC ?_) | (apply gD; refine sD ?_) | fail)
    exact E_round (s + 1) (by omega) (by omega) ⟨by rw [show ((s + 1 : Nat) : Int) - 1 = (s : Int) - 1 + 1 from by omega]; rfl, trivial⟩ Sb
  obtain ⟨a, hsa⟩ : ∃ a, (s : Int) - 1 = a := ⟨_, rfl⟩
  obtain ⟨b, hgb⟩ : ∃ b, (g : Int) - 1 = b := ⟨_, rfl⟩
  rw [hsa, hgb]
  repeat' (first | refine go ?_ | intro _ | (apply cG; first | refine cT ?_ | refine cF ?_ | refine cS (fun _ => ?_) fun _ => ?_) | (apply gW; refine sW ?_) | (apply gI; refine sI ?_) | (apply gE; refine sE ?_) | (apply gP; refine sP ?_) | (apply gC; refine sC ?_) | (apply gD; refine sD ?_) | fail)
  refine O_d (dy_call ArgsI.pf (by first | exact rfl | trivial | (intro a b; rfl)) (rMembers_ct (t := t) (s := a) (g := b) (G := G) (hti.mono fun x h => .tail _ (.tail _ h)) hxs (by omega) hc.inG ⟨by omega, by omega⟩)) ?_; rintro _ _ ⟨_, ⟨A1, c1, rfl, rfl⟩, rfl⟩; refine O_n ?_
  have hmi := mbrN_in (F := t.F) (G := G) (a := a) (b := b) (n := t.F.length)
  have hml := mbrN_len (F := t.F) (G := G) (a := a) (b := b) (n := t.F.length)
  rw [show mbrN t.F G a b t.F.length = mbrF t.F G a b from rfl] at hmi hml
  have hFl := hc.len
  by_cases hm0 : mbrF t.F G a b = []
  · rw [hm0, show decide (0 < ([] : List Int).length) = false from rfl, List.length_nil]
    repeat' (first | refine go ?_ | intro _ | (apply cG; first | refine cT ?_ | refine cF ?_ | refine cS (fun _ => ?_) fun _ => ?_) | (apply gW; refine sW ?_) | (apply gI; refine sI ?_) | (apply gE; refine sE ?_) | (apply gP; refine sP ?_) | (apply gC; refine sC ?_) | (apply gD; refine sD ?_) | fail)
    refine O_d (dy_call ArgsI.pf (by first | exact rfl | trivial | (intro a b; rfl)) (CT.pull (i := 1) (by rfl) (Group_ct (t := T) (s := a) (g := b)))) ?_; rintro _ _ ⟨_, ⟨rfl, rfl⟩, rfl⟩; refine O_n ?_
    rw [hT.grp0 hm0]
    repeat' (first | refine go ?_ | intro _ | (apply cG; first | refine cT ?_ | refine cF ?_ | refine cS (fun _ => ?_) fun _ => ?_) | (apply gW; refine sW ?_) | (apply gI; refine sI ?_) | (apply gE; refine sE ?_) | (apply gP; refine sP ?_) | (apply gC; refine sC ?_) | (apply gD; refine sD ?_) | fail)
    exact E_round (g + 1) (by omega) (by omega) ⟨by rw [show ((g + 1 : Nat) : Int) - 1 = b + 1 from by omega]; rfl, trivial⟩ Sb
  obtain ⟨m, hm⟩ : ∃ m, mbrF t.F G a b = m := ⟨_, rfl⟩
  have hgr := hT.grp hm0
  rw [hm] at hm0 hmi hml hgr ⊢
  have hm1 : 0 < m.length := List.length_pos_iff.2 hm0
  rw [decide_eq_true hm1]
  repeat' (first | refine go ?_ | intro _ | (apply cG; first | refine cT ?_ | refine cF ?_ | refine cS (fun _ => ?_) fun _ => ?_) | (apply gW; refine sW ?_) | (apply gI; refine sI ?_) | (apply gE; refine sE ?_) | (apply gP; refine sP ?_) | (apply gC; refine sC ?_) | (apply gD; refine sD ?_) | fail)
  refine O_d (dy_call ArgsI.pf (by first | exact rfl | trivial | (intro a b; rfl)) (CT.pull (i := 1) (by rfl) (Group_ct (t := T) (s := a) (g := b)))) ?_; rintro _ _ ⟨_, ⟨rfl, rfl⟩, rfl⟩; refine O_n ?_
  rw [hgr]
  refine O_frz 1 ?_
  repeat' (first | refine go ?_ | intro _ | (apply cG; first | refine cT ?_ | refine cF ?_ | refine cS (fun _ => ?_) fun _ => ?_) | (apply gW; refine sW ?_) | (apply gI; refine sI ?_) | (apply gE; refine sE ?_) | (apply gP; refine sP ?_) | (apply gC; refine sC ?_) | (apply gD; refine sD ?_) | fail)
  refine O_d (dy_call ArgsI.pf (by first | exact rfl | trivial | (intro a b; rfl)) (rSum_ct (t := t) (l := m) (hti.mono fun x h => .tail _ (.tail _ (.tail _ h))) (.tail _ (.head _)) hc.u (fun x h => by have := hmi x h; omega) (by omega))) ?_; rintro _ _ ⟨_, ⟨rfl, hLL⟩, rfl⟩; replace hLL := hLL.symm; subst hLL; refine O_n ?_
  repeat' (first | refine go ?_ | intro _ | (apply cG; first | refine cT ?_ | refine cF ?_ | refine cS (fun _ => ?_) fun _ => ?_) | (apply gW; refine sW ?_) | (apply gI; refine sI ?_) | (apply gE; refine sE ?_) | (apply gP; refine sP ?_) | (apply gC; refine sC ?_) | (apply gD; refine sD ?_) | fail)
  exact E_round (g + 1) (by omega) (by omega) ⟨by rw [show ((g + 1 : Nat) : Int) - 1 = b + 1 from by omega]; rfl, trivial⟩ Sb
end
theorem SumsNew_any {v : Value} {li : List Int} {at_ how by_ : Int} {w : World} (s : St w w [rd eI v li]) (hl : li.length ≤ 9223372036854775807) (hr : ∀ n ∈ li, I64 n) (ha : I64 at_) (hh : I64 how) (hb : I64 by_) :
    Calls Try.prog 5 #[v, .int .i64 at_, .int .i64 how, .int .i64 by_] w fun e w' => e = .returned (.bool true) ∧ Below w.heap.size w w' :=
  ((SumsNew_ct (W0 := w) (.head _) hl hr ha hh hb).run w s).mono fun e w' h => by
    obtain ⟨v, L', rfl, ⟨rfl, rfl⟩, s⟩ := h
    exact ⟨rfl, s.below⟩
end Go.Proofs.Ytlmabajgnjiigaa
namespace Go.Proofs.Ytlmabajgnjiigaa
open Go Go.RowKit
set_option linter.unusedVariables false
set_option linter.unusedSimpArgs false
def toB (n : Int) : UInt8 := UInt8.ofNat n.toNat
theorem toB_wf {n : Int} (h : (Lit.int .u8 n).wf = true) : ((toB n).toNat : Int) = n := by
  simp [Lit.wf, IntKind.min, IntKind.max, IntKind.signed, IntKind.bits] at h
  unfold toB
  simp
  omega
/-- a row of numbers of one kind, said as the rows' proofs say it -/
theorem row_sl {α : Type} {f : α → Value} {hf : ∀ a, (f a).oneCell' = true} {k : IntKind} {w : World} {a : Option Addr} {len cap : Nat} {zs : List Int} {l : List α} (hl : l.map f = (zs.take len).map (Value.int k)) (hz : zs.length = cap) (hlc : len ≤ cap)
    {x : Addr} (ha : a = some x) (hcell : ∀ i, i < zs.length → w.cell? (x.add i) = some (.int k (zs.getD i 0))) : Sl (Hp.of w) (e1 f hf) (.slice a len cap) l := by
  have hlen : l.length = len := by
    have := congrArg List.length hl
    simp at this
    omega
  subst hlen
  refine ⟨a, cap, l.map fun b => [f b], rfl, hlc, all2_e1.2 rfl, ?_⟩
  by_cases h0 : l = []
  · exact .inl h0
  · right
    have hpos : 0 < l.length := List.length_pos_iff.2 h0
    obtain ⟨b, off, spot⟩ := x
    have h1 := hcell 0 (by omega)
    have hspot : spot = none := by simpa [Addr.add] using World.cell?_spot h1
    subst hspot
    rw [flat_one]
    have hb : ∃ cs t fr, w.heap[b]? = some (.cells cs t fr) := by
      unfold World.cell? at h1
      simp only [Addr.add] at h1
      split at h1
      · rename_i cs t fr he; exact ⟨cs, t, fr, he⟩
      · cases h1
    obtain ⟨cs, t, fr, hb⟩ := hb
    refine ⟨b, off, cs, t, fr, ha, hb, ?_⟩
    intro j u hj
    rw [hl] at hj
    have hjl : j < l.length := by
      have := (List.getElem?_eq_some_iff.1 hj).1
      simp at this
      omega
    have h2 := hcell j (by omega)
    have h3 : w.cell? ⟨b, off + j, none⟩ = some (.int k (zs.getD j 0)) := by
      have e : (Addr.add ⟨b, off, none⟩ j) = ⟨b, off + j, none⟩ := by
        by_cases hj0 : j = 0
        · subst hj0; rfl
        · simp [Addr.add, hj0]
      rw [e] at h2
      exact h2
    have h4 : cs[off + j]? = some (.int k (zs.getD j 0)) := by simpa [World.cell?, hb] using h3
    rw [h4]
    rw [List.getElem?_map, List.getElem?_take, if_pos hjl] at hj
    rw [List.getD_eq_getElem?_getD]
    cases hzz : zs[j]? with
    | none => rw [hzz] at hj; cases hj
    | some z => rw [hzz] at hj; simpa using hj
theorem row_i64 {w : World} {a : Option Addr} {len cap : Nat} {zs : List Int} (h : (a = none ∧ len = 0 ∧ cap = 0 ∧ zs = []) ∨
    ∃ x, a = some x ∧ len ≤ cap ∧ cap ≤ maxLen ∧ zs.length = cap ∧ (∀ i, i < zs.length → w.cell? (x.add i) = some (.int .i64 (zs.getD i 0))) ∧ ∀ n ∈ zs, (Lit.int .i64 n).wf = true) :
    ∃ l : List Int, Sl (Hp.of w) eI (.slice a len cap) l ∧ l.length = len ∧ len ≤ 9223372036854775807 ∧ ∀ n ∈ l, -9223372036854775808 ≤ n ∧ n ≤ 9223372036854775807 := by
  rcases h with ⟨rfl, rfl, rfl, rfl⟩ | ⟨x, ha, hl, hm, hz, hc, hw⟩
  · exact ⟨[], ⟨none, 0, [], rfl, Nat.le_refl _, trivial, .inl rfl⟩, rfl, by omega, by simp⟩
  · unfold maxLen at hm
    refine ⟨zs.take len, row_sl rfl hz hl ha hc, by simp; omega, by omega, fun n hn => ?_⟩
    have := hw n (List.mem_of_mem_take hn)
    simpa [Lit.wf, IntKind.min, IntKind.max, IntKind.signed, IntKind.bits] using this
theorem row_u8 {w : World} {a : Option Addr} {len cap : Nat} {zs : List Int} (h : (a = none ∧ len = 0 ∧ cap = 0 ∧ zs = []) ∨
    ∃ x, a = some x ∧ len ≤ cap ∧ cap ≤ maxLen ∧ zs.length = cap ∧ (∀ i, i < zs.length → w.cell? (x.add i) = some (.int .u8 (zs.getD i 0))) ∧ ∀ n ∈ zs, (Lit.int .u8 n).wf = true) :
    ∃ l : List UInt8, Sl (Hp.of w) eB (.slice a len cap) l ∧ l.length = len ∧ len ≤ 9223372036854775807 := by
  rcases h with ⟨rfl, rfl, rfl, rfl⟩ | ⟨x, ha, hl, hm, hz, hc, hw⟩
  · exact ⟨[], ⟨none, 0, [], rfl, Nat.le_refl _, trivial, .inl rfl⟩, rfl, by omega⟩
  · unfold maxLen at hm
    refine ⟨(zs.take len).map toB, row_sl ?_ hz hl ha hc, by simp; omega, by omega⟩
    rw [List.map_map]
    refine List.map_congr_left fun n hn => ?_
    show bv (toB n) = _
    rw [bv, toB_wf (hw n (List.mem_of_mem_take hn))]
theorem St.mem_ {W : World} {α : Type} {R : Enc α} {v : Value} {l : List α} {L : List HP} (h : Sl (Hp.of W) R v l) (hS : St W W L) : St W W (Go.Proofs.Ytlmabajgnjiigaa.rd R v l :: L) := hS.old h
end Go.Proofs.Ytlmabajgnjiigaa
