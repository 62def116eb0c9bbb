/-
  The reference's disk: walks of Append, Sync, Truncate.
-/
import Derived.Test.YtbjaecofccpahaaGreatMZ
namespace Go.Proofs.YtbjaecofccpahaaGreat
open Go Go.RowKit
set_option linter.unusedVariables false
set_option linter.unusedSimpArgs false
set_option maxRecDepth 20000
set_option synthInstance.maxSize 100000
set_option synthInstance.maxHeartbeats 400000
section
variable {W0 : World} {L : List HP}
theorem CT_sub3 {P : Program} {f : FuncId} {args : Array Value} {R : Value → List HP → Prop} {S : List HP} (k : Sub L S) (h : CT P f args W0 S R) : CT P f args W0 L R := h.sub k
theorem rbn {K : RK} {Bs : List RBy} {j : Nat} {x : RBy} (h1 : Bs.map (fun y => y.b) = K.B) (hx : Bs[j]? = some x) : K.b (j : Int) = x.b := by
  unfold RK.b
  rw [Int.toNat_natCast, List.getD_eq_getElem?_getD, map_at h1 hx]
  rfl
theorem lens_at {B : List (List UInt8)} {i : Nat} {b : List UInt8} (h : B[i]? = some b) : (B.map fun b => (b.length : Int))[i]? = some (b.length : Int) := by rw [List.getElem?_map, h]; rfl
theorem set_lens {F G : List Int} {i : Nat} {y : Int} (hi : i < F.length) (hg : G[i]? = some y) : (G.take i ++ F.drop i).set i y = G.take (i + 1) ++ F.drop (i + 1) := by
  have hil : i < G.length := (List.getElem?_eq_some_iff.1 hg).1
  refine List.ext_getElem? fun k => ?_
  have hl : (G.take i).length = i := by rw [List.length_take]; omega
  have hl2 : (G.take (i + 1)).length = i + 1 := by rw [List.length_take]; omega
  by_cases hk : i = k
  · subst hk
    rw [List.getElem?_set_self (by rw [List.length_append, hl, List.length_drop]; omega), List.getElem?_append_left (by omega), List.getElem?_take, if_pos (by omega), hg]
  · rw [List.getElem?_set_ne hk]
    by_cases h2 : k < i
    · rw [List.getElem?_append_left (by omega), List.getElem?_append_left (by omega), List.getElem?_take, List.getElem?_take, if_pos h2, if_pos (by omega)]
    · rw [List.getElem?_append_right (by omega), List.getElem?_append_right (by omega), hl, hl2, List.getElem?_drop, List.getElem?_drop]
      congr 1
      omega
theorem rAppend_ct {r : Nat} {K : RK} {n : Int} {v : Value} {b : List UInt8} (hk : KOk K) (hv : Src L eB v b) (hb : b.length ≤ 1000000) :
    CT Tryz.prog 37 #[.pointer (some ⟨r, 0, none⟩), .int .i64 n, v] W0 (rdk r K :: L) fun q L' => q = .int .i64 (appR K n b).2 ∧ L' = rdk r (appR K n b).1 :: L := by
  have hv : Sc L v eB b := ⟨hv⟩
  refine CT_fact (fun w s => ((Sc.pf : Src _ eB v b).sl s).form) ?_
  rintro ⟨A0, c0, rfl, hc0⟩
  refine rdk_ct fun ab af Bs h1 h2 h3 => ?_
  have hu := hk.u
  have hr0 := hk.r0
  have hr1 := hk.r1
  have hp0 := hk.p0
  have hp1 := hk.p1
  by_cases hn : 0 ≤ n ∧ n < 64
  rotate_left
  · have e : appR K n b = (K, 1) := by unfold appR; rw [if_neg hn]
    rw [e]
    by_cases hlt : n < 0
    · refine CT_enter Tryz.func37 rfl ?_; (simp only [Tryz.ntmps37, List.size_toArray, List.length_cons, List.length_nil, Nat.reduceAdd, Nat.reduceSub, Array.replicate_succ, Array.replicate_zero, List.push_toArray, List.append_toArray, List.nil_append, List.cons_append])
      repeat' (first | refine go ?_ | intro _ | (apply cG; first | refine cT ?_ | refine cF ?_ | refine cS (fun _ => ?_) fun _ => ?_) | (apply gW; refine sW ?_) | (apply gI; refine sI ?_) | (apply gE; refine sE ?_) | (apply gP; refine sP ?_) | (apply gC; refine sC ?_) | (apply gD; refine sD ?_) | fail)
      refine E_res1 (by rfl) (by rfl) ⟨rfl, rfl⟩ (Sub.trans Sb (rdk_sub (L := L) (r := r) (ab := ab) (af := af) (K := K) h1 h2 h3))
    · refine CT_enter Tryz.func37 rfl ?_; (simp only [Tryz.ntmps37, List.size_toArray, List.length_cons, List.length_nil, Nat.reduceAdd, Nat.reduceSub, Array.replicate_succ, Array.replicate_zero, List.push_toArray, List.append_toArray, List.nil_append, List.cons_append])
      repeat' (first | refine go ?_ | intro _ | (apply cG; first | refine cT ?_ | refine cF ?_ | refine cS (fun _ => ?_) fun _ => ?_) | (apply gW; refine sW ?_) | (apply gI; refine sI ?_) | (apply gE; refine sE ?_) | (apply gP; refine sP ?_) | (apply gC; refine sC ?_) | (apply gD; refine sD ?_) | fail)
      refine E_res1 (by rfl) (by rfl) ⟨rfl, rfl⟩ (Sub.trans Sb (rdk_sub (L := L) (r := r) (ab := ab) (af := af) (K := K) h1 h2 h3))
  by_cases ho : K.off = true
  · have e : appR K n b = (K, 21) := by unfold appR; rw [if_pos hn, if_pos ho]
    rw [e]
    have hc := (rdk_sub (L := L) (r := r) (ab := ab) (af := af) (K := K) h1 h2 h3)
    rw [ho] at hc ⊢
    refine CT_enter Tryz.func37 rfl ?_; (simp only [Tryz.ntmps37, List.size_toArray, List.length_cons, List.length_nil, Nat.reduceAdd, Nat.reduceSub, Array.replicate_succ, Array.replicate_zero, List.push_toArray, List.append_toArray, List.nil_append, List.cons_append])
    repeat' (first | refine go ?_ | intro _ | (apply cG; first | refine cT ?_ | refine cF ?_ | refine cS (fun _ => ?_) fun _ => ?_) | (apply gW; refine sW ?_) | (apply gI; refine sI ?_) | (apply gE; refine sE ?_) | (apply gP; refine sP ?_) | (apply gC; refine sC ?_) | (apply gD; refine sD ?_) | fail)
    refine E_res1 (by rfl) (by rfl) ⟨rfl, rfl⟩ (Sub.trans Sb hc)
  have hof : K.off = false := by simpa using ho
  obtain ⟨j, rfl⟩ : ∃ j : Nat, n = j := ⟨n.toNat, by omega⟩
  have hj : j < 64 := by omega
  obtain ⟨x, hx⟩ : ∃ x, Bs[j]? = some x := ⟨_, List.getElem?_eq_getElem (by omega)⟩
  have hxb := rbn h1 hx
  have hxl := usedB_at (map_at h1 hx)
  obtain ⟨A1, c1, fb⟩ := x
  dsimp only at hxb hxl
  have hax : At Bs j ⟨A1, c1, fb⟩ := ⟨hx⟩
  have hcl := (rdk_sub (L := L) (r := r) (ab := ab) (af := af) (K := K) h1 h2 h3)
  refine CT_sub3 (S := cel r [.int .i64 K.room, .slice (some ab) 64 64, .slice (some af) 64 64, .bool K.off, .int .i64 K.plan] 50 :: own 39 eRBy (.slice (some ab) 64 64) Bs :: own 3 eI (.slice (some af) 64 64) K.F :: imR Bs :: rd eB (.slice A1 fb.length c1) fb :: L) (Sub.trans (B := rd eB (.slice A1 fb.length c1) fb :: cel r [.int .i64 K.room, .slice (some ab) 64 64, .slice (some af) 64 64, .bool K.off, .int .i64 K.plan] 50 :: own 39 eRBy (.slice (some ab) 64 64) Bs :: own 3 eI (.slice (some af) 64 64) K.F :: imR Bs :: L) (sub_imR (.tail _ (.tail _ (.tail _ (.head _)))) hx) Sb) ?_
  obtain ⟨room, B, F, off, plan⟩ := K
  dsimp only at h1 h3 hu hr0 hr1 hp0 hp1 ho hof hxb hxl hcl ⊢
  subst hof
  refine CT_enter Tryz.func37 rfl ?_; (simp only [Tryz.ntmps37, List.size_toArray, List.length_cons, List.length_nil, Nat.reduceAdd, Nat.reduceSub, Array.replicate_succ, Array.replicate_zero, List.push_toArray, List.append_toArray, List.nil_append, List.cons_append])
  repeat' (first | refine go ?_ | intro _ | (apply cG; first | refine cT ?_ | refine cF ?_ | refine cS (fun _ => ?_) fun _ => ?_) | (apply gW; refine sW ?_) | (apply gI; refine sI ?_) | (apply gE; refine sE ?_) | (apply gP; refine sP ?_) | (apply gC; refine sC ?_) | (apply gD; refine sD ?_) | fail)
  refine C_draw (n := 99) [cel r [.int .i64 room, .slice (some ab) 64 64, .slice (some af) 64 64, .bool false, .int .i64 plan] 50] [(0, 1), (2, 1), (3, 1), (5, 1), (6, 1), (7, 1), (8, 1), (1, 0), (4, 1), (9, 1)] (by kernel_rfl) (by kernel_rfl) Sb ?_
  repeat' (first | refine go ?_ | intro _ | (apply cG; first | refine cT ?_ | refine cF ?_ | refine cS (fun _ => ?_) fun _ => ?_) | (apply gW; refine sW ?_) | (apply gI; refine sI ?_) | (apply gE; refine sE ?_) | (apply gP; refine sP ?_) | (apply gC; refine sC ?_) | (apply gD; refine sD ?_) | fail)
  refine D_op rfl ?_; refine X_d (dy_call ArgsI.pf (by first | exact rfl | trivial | (intro a b; rfl)) (rUsed_o (K := ⟨room, B, F, false, plan⟩) h1 h2 (by show usedB B ≤ _; omega))) ?_; rintro _ _ ⟨_, ⟨rfl, hLL⟩, rfl⟩; replace hLL := hLL.symm; subst hLL; refine ⟨(by first | exact .inl rfl | exact .inr Sb), D_n ?_⟩
  dsimp only
  by_cases hfull : room < (usedB B : Int) + (b.length : Int)
  · have e : appR ⟨room, B, F, false, plan⟩ (j : Int) b = (⟨room, B, F, false, plan⟩, 20) := by unfold appR; rw [if_pos hn, if_neg (by simp), if_pos hfull]
    repeat' (first | refine go ?_ | intro _ | (apply cG; first | refine cT ?_ | refine cF ?_ | refine cS (fun _ => ?_) fun _ => ?_) | (apply gW; refine sW ?_) | (apply gI; refine sI ?_) | (apply gE; refine sE ?_) | (apply gP; refine sP ?_) | (apply gC; refine sC ?_) | (apply gD; refine sD ?_) | fail)
    rw [e]
    refine E_res1 (by rfl) (by rfl) ⟨rfl, rfl⟩ (Sub.trans Sb hcl)
  have e : appR ⟨room, B, F, false, plan⟩ (j : Int) b = (⟨room, B.set j (fb ++ b), F, (rstepF false plan).1, (rstepF false plan).2.1⟩, if (rstepF false plan).2.2 then 21 else 0) := by unfold appR; rw [if_pos hn, if_neg (by simp), if_neg hfull, hxb]; rfl
  rw [e]
  repeat' (first | refine go ?_ | intro _ | (apply cG; first | refine cT ?_ | refine cF ?_ | refine cS (fun _ => ?_) fun _ => ?_) | (apply gW; refine sW ?_) | (apply gI; refine sI ?_) | (apply gE; refine sE ?_) | (apply gP; refine sP ?_) | (apply gC; refine sC ?_) | (apply gD; refine sD ?_) | fail)
  refine O_ownnil 5 eB ?_
  repeat' (first | refine go ?_ | intro _ | (apply cG; first | refine cT ?_ | refine cF ?_ | refine cS (fun _ => ?_) fun _ => ?_) | (apply gW; refine sW ?_) | (apply gI; refine sI ?_) | (apply gE; refine sE ?_) | (apply gP; refine sP ?_) | (apply gC; refine sC ?_) | (apply gD; refine sD ?_) | fail)
  rw [List.nil_append]
  refine C_draw (n := 9) [cel r [.int .i64 room, .slice (some ab) 64 64, .slice (some af) 64 64, .bool false, .int .i64 plan] 50, own 39 eRBy (.slice (some ab) 64 64) Bs] [(0, 1), (1, 1), (2, 1), (3, 1), (4, 1), (5, 1), (6, 1), (7, 0), (8, 1), (9, 0)] (by kernel_rfl) (by kernel_rfl) Sb ?_
  repeat' (first | refine go ?_ | intro _ | (apply cG; first | refine cT ?_ | refine cF ?_ | refine cS (fun _ => ?_) fun _ => ?_) | (apply gW; refine sW ?_) | (apply gI; refine sI ?_) | (apply gE; refine sE ?_) | (apply gP; refine sP ?_) | (apply gC; refine sC ?_) | (apply gD; refine sD ?_) | fail)
  rename_i A2 c2 A7 c7
  refine D_op rfl ?_; refine X_d (dy_storeE (f := fun x : RBy => .slice x.A x.b.length x.c) (hf := fun _ => rfl) (j := j) (n := 64) (c := 64) ⟨A7, c7, fb ++ b⟩ (hy := by show _ = Value.slice A7 (fb ++ b).length c7; rw [List.length_append]; rfl) (hj := by omega)) ?_; rintro _ _ ⟨rfl, hLL⟩; replace hLL := hLL.trans SAt.pf; subst hLL; refine ⟨(by first | exact .inl rfl | exact .inr Sb), D_n ?_⟩
  rw [show fb.length + b.length = (fb ++ b).length from List.length_append.symm]
  repeat' (first | refine go ?_ | intro _ | (apply cG; first | refine cT ?_ | refine cF ?_ | refine cS (fun _ => ?_) fun _ => ?_) | (apply gW; refine sW ?_) | (apply gI; refine sI ?_) | (apply gE; refine sE ?_) | (apply gP; refine sP ?_) | (apply gC; refine sC ?_) | (apply gD; refine sD ?_) | fail)
  refine O_frz 0 ?_
  refine O_sub (S := rdk r ⟨room, B.set j (fb ++ b), F, false, plan⟩ :: L) (Sub.trans (sub_imRset (Bs := Bs) (j := j) (x := ⟨A7, c7, fb ++ b⟩) (.tail _ (.tail _ (.tail _ (.tail _ (.head _))))) (.head _)) (Sub.trans (B := cel r [.int .i64 room, .slice (some ab) 64 64, .slice (some af) 64 64, .bool false, .int .i64 plan] 50 :: own 39 eRBy (.slice (some ab) 64 64) (Bs.set j ⟨A7, c7, fb ++ b⟩) :: own 3 eI (.slice (some af) 64 64) F :: imR (Bs.set j ⟨A7, c7, fb ++ b⟩) :: L) Sb (rdk_sub (K := ⟨room, B.set j (fb ++ b), F, false, plan⟩) (by rw [List.map_set, h1]) (by rw [List.length_set]; exact h2) h3))) ?_
  refine O_d (dy_call ArgsI.pf (by first | exact rfl | trivial | (intro a b; rfl)) (CT.pull (i := 0) (by rfl) (rStep_ct (K := ⟨room, B.set j (fb ++ b), F, false, plan⟩) (by dsimp only; omega) (by dsimp only; omega)))) ?_; rintro _ _ ⟨_, ⟨rfl, rfl⟩, rfl⟩; refine O_n ?_
  dsimp only
  cases hs : (rstepF false plan).2.2
  · repeat' (first | refine go ?_ | intro _ | (apply cG; first | refine cT ?_ | refine cF ?_ | refine cS (fun _ => ?_) fun _ => ?_) | (apply gW; refine sW ?_) | (apply gI; refine sI ?_) | (apply gE; refine sE ?_) | (apply gP; refine sP ?_) | (apply gC; refine sC ?_) | (apply gD; refine sD ?_) | fail)
    refine E_res1 (by rfl) (by rfl) ⟨rfl, rfl⟩ Sb
  · repeat' (first | refine go ?_ | intro _ | (apply cG; first | refine cT ?_ | refine cF ?_ | refine cS (fun _ => ?_) fun _ => ?_) | (apply gW; refine sW ?_) | (apply gI; refine sI ?_) | (apply gE; refine sE ?_) | (apply gP; refine sP ?_) | (apply gC; refine sC ?_) | (apply gD; refine sD ?_) | fail)
    refine E_res1 (by rfl) (by rfl) ⟨rfl, rfl⟩ Sb
theorem rdk_ctx {f : FuncId} {args : Array Value} {R' : Value → List HP → Prop} {r : Nat} {K : RK}
    (k : ∀ ab af Bs, Bs.map (fun y => y.b) = K.B → Bs.length = 64 → K.F.length = 64 → CT Tryz.prog f args W0 (cel r [.int .i64 K.room, .slice (some ab) 64 64, .slice (some af) 64 64, .bool K.off, .int .i64 K.plan] 50 :: own 39 eRBy (.slice (some ab) 64 64) Bs :: own 3 eI (.slice (some af) 64 64) K.F :: imR Bs :: L) R') : CT Tryz.prog f args W0 (rdk r K :: L) R' := rdk_ct k
theorem rdk_Ox {ops : Array Oper} {Q : Exit → Act → World → Prop} {rest : List Oper} {a : Act} {r : Nat} {K : RK} (i : Nat) (hi : L[i]? = some (rdk r K))
    (k : ∀ ab af Bs, Bs.map (fun y => y.b) = K.B → Bs.length = 64 → K.F.length = 64 → OL Tryz.prog W0 (cel r [.int .i64 K.room, .slice (some ab) 64 64, .slice (some af) 64 64, .bool K.off, .int .i64 K.plan] 50 :: own 39 eRBy (.slice (some ab) 64 64) Bs :: own 3 eI (.slice (some af) 64 64) K.F :: imR Bs :: L.eraseIdx i) ops Q rest a) : OL Tryz.prog W0 L ops Q rest a := rdk_O i hi k
theorem rdk_Cx {c : Code} {Q : Exit → Act → World → Prop} {a : Act} {r : Nat} {K : RK} (i : Nat) (hi : L[i]? = some (rdk r K))
    (k : ∀ ab af Bs, Bs.map (fun y => y.b) = K.B → Bs.length = 64 → K.F.length = 64 → CL Tryz.prog W0 (cel r [.int .i64 K.room, .slice (some ab) 64 64, .slice (some af) 64 64, .bool K.off, .int .i64 K.plan] 50 :: own 39 eRBy (.slice (some ab) 64 64) Bs :: own 3 eI (.slice (some af) 64 64) K.F :: imR Bs :: L.eraseIdx i) c Q a) : CL Tryz.prog W0 L c Q a := rdk_C i hi k
theorem rSync_ct {r : Nat} {K : RK} (hk : KOk K) :
    CT Tryz.prog 28 #[.pointer (some ⟨r, 0, none⟩)] W0 (rdk r K :: L) fun q L' => q = .int .i64 (syncR K).2 ∧ L' = rdk r (syncR K).1 :: L := by
  have hu := hk.u
  have hp0 := hk.p0
  have hp1 := hk.p1
  refine rdk_ctx fun ab af Bs h1 h2 h3 => ?_
  by_cases ho : K.off = true
  · have e : syncR K = (K, 21) := by unfold syncR; rw [if_pos ho]
    rw [e]
    have hc := (rdk_sub (L := L) (r := r) (ab := ab) (af := af) (K := K) h1 h2 h3)
    rw [ho] at hc ⊢
    refine CT_enter Tryz.func28 rfl ?_; (simp only [Tryz.ntmps28, List.size_toArray, List.length_cons, List.length_nil, Nat.reduceAdd, Nat.reduceSub, Array.replicate_succ, Array.replicate_zero, List.push_toArray, List.append_toArray, List.nil_append, List.cons_append])
    repeat' (first | refine go ?_ | intro _ | (apply cG; first | refine cT ?_ | refine cF ?_ | refine cS (fun _ => ?_) fun _ => ?_) | (apply gW; refine sW ?_) | (apply gI; refine sI ?_) | (apply gE; refine sE ?_) | (apply gP; refine sP ?_) | (apply gC; refine sC ?_) | (apply gD; refine sD ?_) | fail)
    refine E_res1 (by rfl) (by rfl) ⟨rfl, rfl⟩ (Sub.trans Sb hc)
  have hof : K.off = false := by simpa using ho
  obtain ⟨room, B, F, off, plan⟩ := K
  dsimp only at h1 h3 hu hp0 hp1 ho hof ⊢
  subst hof
  refine CT_enter Tryz.func28 rfl ?_; (simp only [Tryz.ntmps28, List.size_toArray, List.length_cons, List.length_nil, Nat.reduceAdd, Nat.reduceSub, Array.replicate_succ, Array.replicate_zero, List.push_toArray, List.append_toArray, List.nil_append, List.cons_append])
  repeat' (first | refine go ?_ | intro _ | (apply cG; first | refine cT ?_ | refine cF ?_ | refine cS (fun _ => ?_) fun _ => ?_) | (apply gW; refine sW ?_) | (apply gI; refine sI ?_) | (apply gE; refine sE ?_) | (apply gP; refine sP ?_) | (apply gC; refine sC ?_) | (apply gD; refine sD ?_) | fail)
  refine O_sub (S := rdk r ⟨room, B, F, false, plan⟩ :: L) (Sub.trans (B := cel r [.int .i64 room, .slice (some ab) 64 64, .slice (some af) 64 64, .bool false, .int .i64 plan] 50 :: own 39 eRBy (.slice (some ab) 64 64) Bs :: own 3 eI (.slice (some af) 64 64) F :: imR Bs :: L) Sb (rdk_sub (K := ⟨room, B, F, false, plan⟩) h1 h2 h3)) ?_
  refine O_d (dy_call ArgsI.pf (by first | exact rfl | trivial | (intro a b; rfl)) (CT.pull (i := 0) (by rfl) (rStep_ct (K := ⟨room, B, F, false, plan⟩) (by dsimp only; omega) (by dsimp only; omega)))) ?_; rintro _ _ ⟨_, ⟨rfl, rfl⟩, rfl⟩; refine O_n ?_
  dsimp only
  obtain ⟨o2, p2, s2, hs2⟩ : ∃ o2 p2 s2, rstepF false plan = (o2, p2, s2) := ⟨_, _, _, rfl⟩
  rw [hs2]
  dsimp only
  cases s2
  rotate_left
  · have e : syncR ⟨room, B, F, false, plan⟩ = (⟨room, B, F, o2, p2⟩, 21) := by unfold syncR; rw [if_neg (by simp)]; dsimp only; rw [hs2, if_pos rfl]
    rw [e]
    repeat' (first | refine go ?_ | intro _ | (apply cG; first | refine cT ?_ | refine cF ?_ | refine cS (fun _ => ?_) fun _ => ?_) | (apply gW; refine sW ?_) | (apply gI; refine sI ?_) | (apply gE; refine sE ?_) | (apply gP; refine sP ?_) | (apply gC; refine sC ?_) | (apply gD; refine sD ?_) | fail)
    refine E_res1 (by rfl) (by rfl) ⟨rfl, rfl⟩ Sb
  have e : syncR ⟨room, B, F, false, plan⟩ = (⟨room, B, B.map fun b => (b.length : Int), o2, p2⟩, 0) := by unfold syncR; rw [if_neg (by simp)]; dsimp only; rw [hs2, if_neg (by simp)]
  rw [e]
  obtain ⟨G, hG⟩ : ∃ G, (B.map fun b => (b.length : Int)) = G := ⟨_, rfl⟩
  rw [hG]
  repeat' (first | refine go ?_ | intro _ | (apply cG; first | refine cT ?_ | refine cF ?_ | refine cS (fun _ => ?_) fun _ => ?_) | (apply gW; refine sW ?_) | (apply gI; refine sI ?_) | (apply gE; refine sE ?_) | (apply gP; refine sP ?_) | (apply gC; refine sC ?_) | (apply gD; refine sD ?_) | fail)
  clear h1 h2 h3
  refine rdk_Cx 0 rfl fun ab af Bs h1 h2 h3 => ?_
  simp only [List.eraseIdx_cons_zero]
  dsimp only at h1 h3 ⊢
  have hGl : G.length = 64 := by rw [← hG, List.length_map, ← h1, List.length_map]; exact h2
  refine C_loopS (κ := Nat) [false, false, false, false, true, false, false, false, false, false, false, false, true, true, true, true, true, true, true, true, true, true, true, true, true, true, true, true, true, true] (fun k => [(4, .int .i64 (k : Int))]) (fun k => [(2, own 3 eI (.slice (some af) 64 64) (G.take k ++ F.drop k))]) (fun k => k ≤ 64) (fun k => 64 - k) 0 (Nat.zero_le _) ⟨rfl, trivial⟩ ?_ (by simp only [List.take_zero, List.drop_zero, List.nil_append]; exact Sb)
  rintro i u hi
  ((try dsimp only); refine C_n ?_; (try simp only [Nat.reduceAdd, Nat.zero_add]))
  by_cases hlt : i < 64
  · obtain ⟨x, hx⟩ : ∃ x, Bs[i]? = some x := ⟨_, List.getElem?_eq_getElem (by omega)⟩
    have hax : At Bs i x := ⟨hx⟩
    have hb := map_at h1 hx
    have hgx : G[i]? = some (x.b.length : Int) := by rw [← hG]; exact lens_at hb
    have hxl := usedB_at hb
    repeat' (first | refine go ?_ | intro _ | (apply cG; first | refine cT ?_ | refine cF ?_ | refine cS (fun _ => ?_) fun _ => ?_) | (apply gW; refine sW ?_) | (apply gI; refine sI ?_) | (apply gE; refine sE ?_) | (apply gP; refine sP ?_) | (apply gC; refine sC ?_) | (apply gD; refine sD ?_) | fail)
    refine C_draw (n := 14) [cel r [.int .i64 room, .slice (some ab) 64 64, .slice (some af) 64 64, .bool o2, .int .i64 p2] 50, own 39 eRBy (.slice (some ab) 64 64) Bs, own 3 eI (.slice (some af) 64 64) (G.take i ++ F.drop i)] [(0, 1), (1, 1), (2, 1), (3, 1), (4, 1), (5, 1), (6, 1), (7, 1), (8, 1), (9, 1), (10, 1), (11, 1), (12, 1), (13, 1), (14, 0)] (by kernel_rfl) (by kernel_rfl) Sb ?_
    repeat' (first | refine go ?_ | intro _ | (apply cG; first | refine cT ?_ | refine cF ?_ | refine cS (fun _ => ?_) fun _ => ?_) | (apply gW; refine sW ?_) | (apply gI; refine sI ?_) | (apply gE; refine sE ?_) | (apply gP; refine sP ?_) | (apply gC; refine sC ?_) | (apply gD; refine sD ?_) | fail)
    refine D_op rfl ?_; refine X_d (dy_storeE (f := iv) (hf := fun _ => rfl) (j := i) (n := 64) (c := 64) (x.b.length : Int) (hy := by rfl) (hj := by rw [List.length_append, List.length_take, List.length_drop]; omega)) ?_; rintro _ _ ⟨rfl, hLL⟩; replace hLL := hLL.trans SAt.pf; subst hLL; refine ⟨(by first | exact .inl rfl | exact .inr Sb), D_n ?_⟩
    rw [set_lens (by omega) hgx]
    repeat' (first | refine go ?_ | intro _ | (apply cG; first | refine cT ?_ | refine cF ?_ | refine cS (fun _ => ?_) fun _ => ?_) | (apply gW; refine sW ?_) | (apply gI; refine sI ?_) | (apply gE; refine sE ?_) | (apply gP; refine sP ?_) | (apply gC; refine sC ?_) | (apply gD; refine sD ?_) | fail)
    exact E_round (i + 1) hlt (by show 64 - (i + 1) < 64 - i; omega) ⟨rfl, trivial⟩ Sb
  · obtain rfl : i = 64 := by omega
    have hGF : G.take 64 ++ F.drop 64 = G := by rw [List.take_of_length_le (by omega), List.drop_eq_nil_of_le (by omega), List.append_nil]
    rw [hGF]
    repeat' (first | refine go ?_ | intro _ | (apply cG; first | refine cT ?_ | refine cF ?_ | refine cS (fun _ => ?_) fun _ => ?_) | (apply gW; refine sW ?_) | (apply gI; refine sI ?_) | (apply gE; refine sE ?_) | (apply gP; refine sP ?_) | (apply gC; refine sC ?_) | (apply gD; refine sD ?_) | fail)
    refine E_res1 (by rfl) (by rfl) ⟨rfl, rfl⟩ (Sub.trans (B := cel r [.int .i64 room, .slice (some ab) 64 64, .slice (some af) 64 64, .bool o2, .int .i64 p2] 50 :: own 39 eRBy (.slice (some ab) 64 64) Bs :: own 3 eI (.slice (some af) 64 64) G :: imR Bs :: L) Sb (rdk_sub (K := ⟨room, B, G, o2, p2⟩) h1 h2 hGl))
theorem rTrunc_ct {r : Nat} {K : RK} {n N : Int} (hk : KOk K) (hn1 : -9223372036854775808 ≤ n) (hn2 : n ≤ 9223372036854775807) (hN1 : -9223372036854775808 ≤ N) (hN2 : N ≤ 9223372036854775807) :
    CT Tryz.prog 27 #[.pointer (some ⟨r, 0, none⟩), .int .i64 n, .int .i64 N] W0 (rdk r K :: L) fun q L' => q = .int .i64 (truncR K n N).2 ∧ L' = rdk r (truncR K n N).1 :: L := by
  have hu := hk.u
  have hp0 := hk.p0
  have hp1 := hk.p1
  refine rdk_ctx fun ab af Bs h1 h2 h3 => ?_
  have hcl := (rdk_sub (L := L) (r := r) (ab := ab) (af := af) (K := K) h1 h2 h3)
  by_cases hn : 0 ≤ n ∧ n < 64
  rotate_left
  · have e : truncR K n N = (K, 1) := by unfold truncR; rw [if_neg (fun h => hn h.1)]
    rw [e]
    by_cases hlt : n < 0
    · refine CT_enter Tryz.func27 rfl ?_; (simp only [Tryz.ntmps27, List.size_toArray, List.length_cons, List.length_nil, Nat.reduceAdd, Nat.reduceSub, Array.replicate_succ, Array.replicate_zero, List.push_toArray, List.append_toArray, List.nil_append, List.cons_append])
      repeat' (first | refine go ?_ | intro _ | (apply cG; first | refine cT ?_ | refine cF ?_ | refine cS (fun _ => ?_) fun _ => ?_) | (apply gW; refine sW ?_) | (apply gI; refine sI ?_) | (apply gE; refine sE ?_) | (apply gP; refine sP ?_) | (apply gC; refine sC ?_) | (apply gD; refine sD ?_) | fail)
      refine E_res1 (by rfl) (by rfl) ⟨rfl, rfl⟩ (Sub.trans Sb hcl)
    · refine CT_enter Tryz.func27 rfl ?_; (simp only [Tryz.ntmps27, List.size_toArray, List.length_cons, List.length_nil, Nat.reduceAdd, Nat.reduceSub, Array.replicate_succ, Array.replicate_zero, List.push_toArray, List.append_toArray, List.nil_append, List.cons_append])
      repeat' (first | refine go ?_ | intro _ | (apply cG; first | refine cT ?_ | refine cF ?_ | refine cS (fun _ => ?_) fun _ => ?_) | (apply gW; refine sW ?_) | (apply gI; refine sI ?_) | (apply gE; refine sE ?_) | (apply gP; refine sP ?_) | (apply gC; refine sC ?_) | (apply gD; refine sD ?_) | fail)
      refine E_res1 (by rfl) (by rfl) ⟨rfl, rfl⟩ (Sub.trans Sb hcl)
  obtain ⟨j, rfl⟩ : ∃ j : Nat, n = j := ⟨n.toNat, by omega⟩
  have hj : j < 64 := by omega
  obtain ⟨x, hx⟩ : ∃ x, Bs[j]? = some x := ⟨_, List.getElem?_eq_getElem (by omega)⟩
  have hxb := rbn h1 hx
  have hxl := usedB_at (map_at h1 hx)
  have hfr := hk.fr j hj
  have hax : At Bs j x := ⟨hx⟩
  obtain ⟨fb, hfb0⟩ : ∃ fb, x.b = fb := ⟨_, rfl⟩
  have hfl : x.b.length = fb.length := by rw [hfb0]
  rw [hfb0] at hxb hxl
  by_cases hNN : 0 ≤ N ∧ N ≤ (fb.length : Int)
  rotate_left
  · have e : truncR K (j : Int) N = (K, 1) := by unfold truncR; rw [hxb, if_neg (fun h => hNN h.2)]
    rw [e]
    by_cases hlt : N < 0
    · refine CT_enter Tryz.func27 rfl ?_; (simp only [Tryz.ntmps27, List.size_toArray, List.length_cons, List.length_nil, Nat.reduceAdd, Nat.reduceSub, Array.replicate_succ, Array.replicate_zero, List.push_toArray, List.append_toArray, List.nil_append, List.cons_append])
      repeat' (first | refine go ?_ | intro _ | (apply cG; first | refine cT ?_ | refine cF ?_ | refine cS (fun _ => ?_) fun _ => ?_) | (apply gW; refine sW ?_) | (apply gI; refine sI ?_) | (apply gE; refine sE ?_) | (apply gP; refine sP ?_) | (apply gC; refine sC ?_) | (apply gD; refine sD ?_) | fail)
      refine E_res1 (by rfl) (by rfl) ⟨rfl, rfl⟩ (Sub.trans Sb hcl)
    · refine CT_enter Tryz.func27 rfl ?_; (simp only [Tryz.ntmps27, List.size_toArray, List.length_cons, List.length_nil, Nat.reduceAdd, Nat.reduceSub, Array.replicate_succ, Array.replicate_zero, List.push_toArray, List.append_toArray, List.nil_append, List.cons_append])
      repeat' (first | refine go ?_ | intro _ | (apply cG; first | refine cT ?_ | refine cF ?_ | refine cS (fun _ => ?_) fun _ => ?_) | (apply gW; refine sW ?_) | (apply gI; refine sI ?_) | (apply gE; refine sE ?_) | (apply gP; refine sP ?_) | (apply gC; refine sC ?_) | (apply gD; refine sD ?_) | fail)
      refine E_res1 (by rfl) (by rfl) ⟨rfl, rfl⟩ (Sub.trans Sb hcl)
  obtain ⟨M, rfl⟩ : ∃ M : Nat, N = M := ⟨N.toNat, by omega⟩
  have hM : M ≤ fb.length := by omega
  have hyes : ((0 : Int) ≤ (j : Int) ∧ (j : Int) < 64) ∧ 0 ≤ (M : Int) ∧ (M : Int) ≤ ((K.b (j : Int)).length : Int) := ⟨hn, by omega, by rw [hxb]; omega⟩
  by_cases ho : K.off = true
  · have e : truncR K (j : Int) (M : Int) = (K, 21) := by unfold truncR; rw [if_pos hyes, if_pos ho]
    rw [e]
    rw [ho] at hcl ⊢
    refine CT_enter Tryz.func27 rfl ?_; (simp only [Tryz.ntmps27, List.size_toArray, List.length_cons, List.length_nil, Nat.reduceAdd, Nat.reduceSub, Array.replicate_succ, Array.replicate_zero, List.push_toArray, List.append_toArray, List.nil_append, List.cons_append])
    repeat' (first | refine go ?_ | intro _ | (apply cG; first | refine cT ?_ | refine cF ?_ | refine cS (fun _ => ?_) fun _ => ?_) | (apply gW; refine sW ?_) | (apply gI; refine sI ?_) | (apply gE; refine sE ?_) | (apply gP; refine sP ?_) | (apply gC; refine sC ?_) | (apply gD; refine sD ?_) | fail)
    refine E_res1 (by rfl) (by rfl) ⟨rfl, rfl⟩ (Sub.trans Sb hcl)
  have hof : K.off = false := by simpa using ho
  obtain ⟨fd, hfd⟩ : ∃ fd, K.F[j]? = some fd := ⟨_, List.getElem?_eq_getElem (by omega)⟩
  have hKf : K.f (j : Int) = fd := by unfold RK.f; rw [Int.toNat_natCast, List.getD_eq_getElem?_getD, hfd]; rfl
  have hKf2 : K.F.getD j 0 = fd := by rw [List.getD_eq_getElem?_getD, hfd]; rfl
  have hKb2 : K.B.getD j [] = fb := by rw [List.getD_eq_getElem?_getD, map_at h1 hx, hfb0]; rfl
  rw [hKf2, hKb2] at hfr
  obtain ⟨room, B, F, off, plan⟩ := K
  dsimp only at h1 h3 hu hp0 hp1 ho hof hxb hxl hcl hfd hKf ⊢
  subst hof
  have e0 : truncR ⟨room, B, F, false, plan⟩ (j : Int) (M : Int) = if (rstepF false plan).2.2 then (⟨room, B, F, (rstepF false plan).1, (rstepF false plan).2.1⟩, 21) else (⟨room, B.set j (fb.take M), F.set j (min fd (M : Int)), (rstepF false plan).1, (rstepF false plan).2.1⟩, 0) := by
    unfold truncR
    rw [if_pos hyes, if_neg (by simp), hxb, hKf]
    rfl
  rw [e0]
  refine CT_enter Tryz.func27 rfl ?_; (simp only [Tryz.ntmps27, List.size_toArray, List.length_cons, List.length_nil, Nat.reduceAdd, Nat.reduceSub, Array.replicate_succ, Array.replicate_zero, List.push_toArray, List.append_toArray, List.nil_append, List.cons_append])
  repeat' (first | refine go ?_ | intro _ | (apply cG; first | refine cT ?_ | refine cF ?_ | refine cS (fun _ => ?_) fun _ => ?_) | (apply gW; refine sW ?_) | (apply gI; refine sI ?_) | (apply gE; refine sE ?_) | (apply gP; refine sP ?_) | (apply gC; refine sC ?_) | (apply gD; refine sD ?_) | fail)
  refine O_sub (S := rdk r ⟨room, B, F, false, plan⟩ :: L) (Sub.trans (B := cel r [.int .i64 room, .slice (some ab) 64 64, .slice (some af) 64 64, .bool false, .int .i64 plan] 50 :: own 39 eRBy (.slice (some ab) 64 64) Bs :: own 3 eI (.slice (some af) 64 64) F :: imR Bs :: L) Sb (rdk_sub (K := ⟨room, B, F, false, plan⟩) h1 h2 h3)) ?_
  refine O_d (dy_call ArgsI.pf (by first | exact rfl | trivial | (intro a b; rfl)) (CT.pull (i := 0) (by rfl) (rStep_ct (K := ⟨room, B, F, false, plan⟩) (by dsimp only; omega) (by dsimp only; omega)))) ?_; rintro _ _ ⟨_, ⟨rfl, rfl⟩, rfl⟩; refine O_n ?_
  dsimp only
  obtain ⟨o2, p2, s2, hs2⟩ : ∃ o2 p2 s2, rstepF false plan = (o2, p2, s2) := ⟨_, _, _, rfl⟩
  rw [hs2]
  dsimp only
  cases s2
  rotate_left
  · rw [if_pos rfl]
    repeat' (first | refine go ?_ | intro _ | (apply cG; first | refine cT ?_ | refine cF ?_ | refine cS (fun _ => ?_) fun _ => ?_) | (apply gW; refine sW ?_) | (apply gI; refine sI ?_) | (apply gE; refine sE ?_) | (apply gP; refine sP ?_) | (apply gC; refine sC ?_) | (apply gD; refine sD ?_) | fail)
    refine E_res1 (by rfl) (by rfl) ⟨rfl, rfl⟩ Sb
  rw [if_neg (by simp)]
  repeat' (first | refine go ?_ | intro _ | (apply cG; first | refine cT ?_ | refine cF ?_ | refine cS (fun _ => ?_) fun _ => ?_) | (apply gW; refine sW ?_) | (apply gI; refine sI ?_) | (apply gE; refine sE ?_) | (apply gP; refine sP ?_) | (apply gC; refine sC ?_) | (apply gD; refine sD ?_) | fail)
  clear h1 h2 h3 hax hcl hxb hx
  refine rdk_Cx 0 rfl fun ab af Bs h1 h2 h3 => ?_
  simp only [List.eraseIdx_cons_zero]
  dsimp only at h1 h3 ⊢
  obtain ⟨x2, hx2⟩ : ∃ x, Bs[j]? = some x := ⟨_, List.getElem?_eq_getElem (by omega)⟩
  have hxb := map_at h1 hx2
  have hfb : x2.b = fb := by
    rw [List.getD_eq_getElem?_getD, hxb] at hKb2
    exact hKb2
  rw [← hfb] at hM hfr ⊢
  have hax : At Bs j x2 := ⟨hx2⟩
  have haf : At F j fd := ⟨hfd⟩
  refine C_sub (S := cel r [.int .i64 room, .slice (some ab) 64 64, .slice (some af) 64 64, .bool o2, .int .i64 p2] 50 :: own 39 eRBy (.slice (some ab) 64 64) Bs :: own 3 eI (.slice (some af) 64 64) F :: imR Bs :: rd eB (.slice x2.A x2.b.length x2.c) x2.b :: L) (Sub.trans (B := rd eB (.slice x2.A x2.b.length x2.c) x2.b :: cel r [.int .i64 room, .slice (some ab) 64 64, .slice (some af) 64 64, .bool o2, .int .i64 p2] 50 :: own 39 eRBy (.slice (some ab) 64 64) Bs :: own 3 eI (.slice (some af) 64 64) F :: imR Bs :: L) (sub_imR (.tail _ (.tail _ (.tail _ (.head _)))) hx2) Sb) ?_
  refine C_fact (fun w s => (Src.sl (.inl (.tail _ (.tail _ (.tail _ (.tail _ (.head _)))))) s : Sl _ eB _ x2.b).form) ?_
  rintro ⟨A1', c1', hform, hc1⟩
  injection hform with hx2.A _ hC1
  subst hx2.A hC1
  have htl : (x2.b.take M).length = M := by rw [List.length_take]; omega
  obtain ⟨m, hm⟩ : ∃ m : Nat, min fd (M : Int) = (m : Int) := ⟨(min fd (M : Int)).toNat, by omega⟩
  have hmin : (if (M : Int) < fd then (M : Int) else fd) = (m : Int) := by split <;> omega
  refine C_sub (S := cel r [.int .i64 room, .slice (some ab) 64 64, .slice (some af) 64 64, .bool o2, .int .i64 p2] 50 :: own 39 eRBy (.slice (some ab) 64 64) Bs :: own 3 eI (.slice (some af) 64 64) F :: imR Bs :: rd eB (.slice x2.A M x2.c) (x2.b.take M) :: L) (Sub.trans (rd_cut (N := M) (A := x2.A) (n := x2.b.length) (c := x2.c) (l := x2.b) (.tail _ (.tail _ (.tail _ (.tail _ (.head _))))) hM) Sb) ?_
  refine C_draw (n := 15) [cel r [.int .i64 room, .slice (some ab) 64 64, .slice (some af) 64 64, .bool o2, .int .i64 p2] 50, own 39 eRBy (.slice (some ab) 64 64) Bs] [(0, 1), (1, 1), (2, 1), (3, 1), (4, 1), (5, 1), (6, 1), (7, 1), (8, 1), (9, 1), (10, 1), (11, 1), (12, 1), (13, 1), (14, 1), (15, 0)] (by kernel_rfl) (by kernel_rfl) Sb ?_
  repeat' (first | refine go ?_ | intro _ | (apply cG; first | refine cT ?_ | refine cF ?_ | refine cS (fun _ => ?_) fun _ => ?_) | (apply gW; refine sW ?_) | (apply gI; refine sI ?_) | (apply gE; refine sE ?_) | (apply gP; refine sP ?_) | (apply gC; refine sC ?_) | (apply gD; refine sD ?_) | fail)
  refine D_op rfl ?_; refine X_s (sv_slice (l' := 0) (h' := M) (l := 0) (h := M)) ?_
  rw [cutA0, Nat.sub_zero]
  repeat' (first | refine go ?_ | intro _ | (apply cG; first | refine cT ?_ | refine cF ?_ | refine cS (fun _ => ?_) fun _ => ?_) | (apply gW; refine sW ?_) | (apply gI; refine sI ?_) | (apply gE; refine sE ?_) | (apply gP; refine sP ?_) | (apply gC; refine sC ?_) | (apply gD; refine sD ?_) | fail)
  refine D_op rfl ?_; refine X_d (dy_storeE (f := fun x : RBy => .slice x.A x.b.length x.c) (hf := fun _ => rfl) (j := j) (n := 64) (c := 64) ⟨x2.A, x2.c, x2.b.take M⟩ (hy := by show _ = Value.slice x2.A (x2.b.take M).length x2.c; rw [htl]; rfl) (hj := by omega)) ?_; rintro _ _ ⟨rfl, hLL⟩; replace hLL := hLL.trans SAt.pf; subst hLL; refine ⟨(by first | exact .inl rfl | exact .inr Sb), D_n ?_⟩
  repeat' (first | refine go ?_ | intro _ | (apply cG; first | refine cT ?_ | refine cF ?_ | refine cS (fun _ => ?_) fun _ => ?_) | (apply gW; refine sW ?_) | (apply gI; refine sI ?_) | (apply gE; refine sE ?_) | (apply gP; refine sP ?_) | (apply gC; refine sC ?_) | (apply gD; refine sD ?_) | fail)
  refine C_draw (n := 15) [cel r [.int .i64 room, .slice (some ab) 64 64, .slice (some af) 64 64, .bool o2, .int .i64 p2] 50, own 3 eI (.slice (some af) 64 64) F] [(0, 1), (1, 1), (2, 1), (3, 1), (4, 1), (5, 1), (6, 1), (7, 1), (8, 1), (9, 1), (10, 1), (11, 1), (12, 1), (13, 1), (14, 1), (15, 0)] (by kernel_rfl) (by kernel_rfl) Sb ?_
  repeat' (first | refine go ?_ | intro _ | (apply cG; first | refine cT ?_ | refine cF ?_ | refine cS (fun _ => ?_) fun _ => ?_) | (apply gI; refine sI ?_) | (apply gE; refine sE ?_) | (apply gP; refine sP ?_) | (apply gC; refine sC ?_) | (apply gD; refine sD ?_) | fail)
  apply gW; refine sW (r := (m : Int)) ?_ hmin
  repeat' (first | refine go ?_ | intro _ | (apply cG; first | refine cT ?_ | refine cF ?_ | refine cS (fun _ => ?_) fun _ => ?_) | (apply gW; refine sW ?_) | (apply gI; refine sI ?_) | (apply gE; refine sE ?_) | (apply gP; refine sP ?_) | (apply gC; refine sC ?_) | (apply gD; refine sD ?_) | fail)
  refine D_op rfl ?_; refine X_d (dy_storeE (f := iv) (hf := fun _ => rfl) (j := j) (n := 64) (c := 64) (m : Int) (hy := by rfl) (hj := by omega)) ?_; rintro _ _ ⟨rfl, hLL⟩; replace hLL := hLL.trans SAt.pf; subst hLL; refine ⟨(by first | exact .inl rfl | exact .inr Sb), D_n ?_⟩
  repeat' (first | refine go ?_ | intro _ | (apply cG; first | refine cT ?_ | refine cF ?_ | refine cS (fun _ => ?_) fun _ => ?_) | (apply gW; refine sW ?_) | (apply gI; refine sI ?_) | (apply gE; refine sE ?_) | (apply gP; refine sP ?_) | (apply gC; refine sC ?_) | (apply gD; refine sD ?_) | fail)
  rw [hm]
  refine E_sub (S := rdk r ⟨room, B.set j (x2.b.take M), F.set j (m : Int), o2, p2⟩ :: L) (Sub.trans (B := imR (Bs.set j ⟨x2.A, x2.c, x2.b.take M⟩) :: cel r [.int .i64 room, .slice (some ab) 64 64, .slice (some af) 64 64, .bool o2, .int .i64 p2] 50 :: own 39 eRBy (.slice (some ab) 64 64) (Bs.set j ⟨x2.A, x2.c, x2.b.take M⟩) :: own 3 eI (.slice (some af) 64 64) (F.set j (m : Int)) :: imR Bs :: rd eB (.slice x2.A M x2.c) (x2.b.take M) :: L) (sub_imRset (Bs := Bs) (j := j) (x := ⟨x2.A, x2.c, x2.b.take M⟩) (.tail _ (.tail _ (.tail _ (.head _)))) (by dsimp only; rw [htl]; exact .tail _ (.tail _ (.tail _ (.tail _ (.head _)))))) (Sub.trans (B := cel r [.int .i64 room, .slice (some ab) 64 64, .slice (some af) 64 64, .bool o2, .int .i64 p2] 50 :: own 39 eRBy (.slice (some ab) 64 64) (Bs.set j ⟨x2.A, x2.c, x2.b.take M⟩) :: own 3 eI (.slice (some af) 64 64) (F.set j (m : Int)) :: imR (Bs.set j ⟨x2.A, x2.c, x2.b.take M⟩) :: L) Sb (rdk_sub (K := ⟨room, B.set j (x2.b.take M), F.set j (m : Int), o2, p2⟩) (by rw [List.map_set, h1]) (by rw [List.length_set]; exact h2) (by rw [List.length_set]; exact h3)))) ?_
  refine E_res1 (by rfl) (by rfl) ⟨rfl, rfl⟩ Sb
end
end Go.Proofs.YtbjaecofccpahaaGreat
