/-
  Package sums: Cover.
-/
import Derived.Test.YtlmabajgnjiigaaMY
namespace Go.Proofs.Ytlmabajgnjiigaa
open Go Go.RowKit
set_option linter.unusedVariables false
set_option linter.unusedSimpArgs false
set_option maxRecDepth 20000
set_option synthInstance.maxSize 100000
set_option synthInstance.maxHeartbeats 400000
section
variable {P : Program} {Q : Exit → Act → World → Prop} {a : Act} {W0 : World} {L S : List HP} {l : Nat} {c : Code}
theorem CI_sub (h : Sub L S) (k : CI l P W0 S c Q a) : CI l P W0 L c Q a := ⟨fun w s => k.run w (h.st s)⟩
theorem CI_fact {φ : Prop} (hf : ∀ w, St W0 w L → φ) (h : φ → CI l P W0 L c Q a) : CI l P W0 L c Q a := ⟨fun w s => (h (hf w s)).run w s⟩
theorem CI_open {κ : Type} {φ : κ → Prop} {LI : κ → List HP} (h : ∀ w, St W0 w L → ∃ k, φ k ∧ St W0 w (LI k)) (k : ∀ k, φ k → CI l P W0 (LI k) c Q a) : CI l P W0 L c Q a := ⟨fun w s => by
  obtain ⟨x, hx, s'⟩ := h w s
  exact (k x hx).run w s'⟩
theorem CL_open {κ : Type} {φ : κ → Prop} {LI : κ → List HP} (h : ∀ w, St W0 w L → ∃ k, φ k ∧ St W0 w (LI k)) (k : ∀ k, φ k → CL P W0 (LI k) c Q a) : CL P W0 L c Q a := ⟨fun w s => by
  obtain ⟨x, hx, s'⟩ := h w s
  exact (k x hx).run w s'⟩
theorem EL_open {κ : Type} {e : Exit} {φ : κ → Prop} {LI : κ → List HP} (h : ∀ w, St W0 w L → ∃ k, φ k ∧ St W0 w (LI k)) (k : ∀ k, φ k → EL W0 (LI k) Q e a) : EL W0 L Q e a := ⟨fun w s => by
  obtain ⟨x, hx, s'⟩ := h w s
  exact (k x hx).run w s'⟩
theorem rd_form {α : Type} {R : Enc α} {v : Value} {ls : List α} {w : World} (h : rd R v ls ∈ L) (s : St W0 w L) : ∃ A c, v = .slice A ls.length c := by
  obtain ⟨A, c, e, _⟩ := ((Src.sl (.inl h : Src L R v ls) s).form)
  exact ⟨A, c, e⟩
end
theorem E_res2m {P : Program} {a : Act} {W0 : World} {L : List HP} {fn : Func} {R : Value → List HP → Prop} {t u : Tmp} {v v' : Value} {L2 : List HP} (hd : a.defers = []) (hr : fn.results = #[.tmp t, .tmp u]) (hv : a.eval (.tmp t) = v) (hv' : a.eval (.tmp u) = v') (hR : R (.tuple #[v, v']) L2) (hS : Sub L L2) : EL W0 L (bodyPostM Fence.wide 0 P fn (RR W0 R)) .ret a := by
  refine ⟨fun w s => ?_⟩
  subst hv hv'
  show LeavesInM Fence.wide 0 P fn a.tmps _ a.defers .returning w
  rw [hd]
  exact ⟨_, results_tmp2 hr _ _ w, ⟨_, _, rfl, hR, hS.st s⟩⟩
theorem sub_mS {L : List HP} {km : Nat} {mm : List ((Int × Int) × SR)} {y : Int × Int} {e : SR} (hm : mapx kpr mS km mm ∈ L) (hg : gvX y mm = some e) : Sub L (rd eI (svV e) e.2 :: L) := by
  obtain ⟨q, hq, rfl⟩ := gvX_pos hg
  exact mapx_imp hm hq
/-- what is left, as a map -/
abbrev LM := List (Int × Bool)
def LmOk (ll : LM) (left : List Int) : Prop := (ll.map Prod.fst).Nodup ∧ ∀ a, gvX a ll = if a ∈ left then some true else none
/-- what changes while Cover looks at the groups -/
def cvD (lb bo : Nat) (c : CS) : HP := ex fun k : LM × Option Addr × Nat => sp [pur (LmOk k.1 c.2), mapx kin mBo lb k.1, cel bo [.slice k.2.1 c.1.length k.2.2] 40, own 43 ePr (.slice k.2.1 c.1.length k.2.2) c.1]
section
variable {W0 : World} {L : List HP}
theorem St.cvD_ {w : World} {lb bo : Nat} {c : CS} (s : St W0 w (cvD lb bo c :: L)) : ∃ k : LM × Option Addr × Nat, LmOk k.1 c.2 ∧ St W0 w (mapx kin mBo lb k.1 :: cel bo [.slice k.2.1 c.1.length k.2.2] 40 :: own 43 ePr (.slice k.2.1 c.1.length k.2.2) c.1 :: L) := by
  obtain ⟨k, s1⟩ := s.ex_
  have s2 := s1.open_
  exact ⟨k, s2.pur_, s2.drop⟩
theorem sub_pur {φ : Prop} (h : φ) : Sub L (pur φ :: L) := fun m x s => ⟨Hp.none, x, Hp.none_dj _, Hp.none_le _, Hp.le_refl _, h, s⟩
theorem sub_cvD {lb bo : Nat} {c : CS} {ll : LM} {A : Option Addr} {cc : Nat} (h : LmOk ll c.2) : Sub (mapx kin mBo lb ll :: cel bo [.slice A c.1.length cc] 40 :: own 43 ePr (.slice A c.1.length cc) c.1 :: L) (cvD lb bo c :: L) :=
  (sub_pur h).trans ((sub_close (Ls := [pur (LmOk ll c.2), mapx kin mBo lb ll, cel bo [.slice A c.1.length cc] 40, own 43 ePr (.slice A c.1.length cc) c.1])).trans (sub_ex (F := fun k : LM × Option Addr × Nat => sp [pur (LmOk k.1 c.2), mapx kin mBo lb k.1, cel bo [.slice k.2.1 c.1.length k.2.2] 40, own 43 ePr (.slice k.2.1 c.1.length k.2.2) c.1]) (ll, A, cc)))
theorem cover1_ct {q bt n : Nat} {T : TypeId} {UA : Option Addr} {uc : Nat} {v1 v2 v3 v4 v5 : Value} {x : Int} {M : List HP} (h1 : cel bt [.pointer (some ⟨q, 0, none⟩)] T ∈ M) (h2 : cel q [.slice UA n uc, v1, v2, v3, v4, v5] 64 ∈ M) :
    CT Try.prog 33 #[.int .i64 x, .pointer (some ⟨bt, 0, none⟩)] W0 M fun r L' => r = .bool (!inB n x) ∧ L' = M := by
  have hi1 : InC bt M _ _ := ⟨h1⟩
  have hi2 : InC q M _ _ := ⟨h2⟩
  refine CT_enter Try.func33 rfl ?_; (simp only [Try.ntmps33, List.size_toArray, List.length_cons, List.length_nil, Nat.reduceAdd, Nat.reduceSub, Array.replicate_succ, Array.replicate_zero, List.push_toArray, List.append_toArray, List.nil_append, List.cons_append])
  by_cases hx0 : x < 0
  · have hb : inB n x = false := decide_eq_false (by omega)
    rw [hb]
    repeat' (first | refine go ?_ | intro _ | (apply cG; first | refine cT ?_ | refine cF ?_ | refine cS (fun _ => ?_) fun _ => ?_) | (apply gW; refine sW ?_) | (apply gI; refine sI ?_) | (apply gE; refine sE ?_) | (apply gP; refine sP ?_) | (apply gC; refine sC ?_) | (apply gD; refine sD ?_) | fail)
    refine E_res1 (by rfl) (by rfl) ⟨rfl, rfl⟩ Sb
  · by_cases hx1 : x < (n : Int)
    · have hb : inB n x = true := decide_eq_true (by omega)
      rw [hb]
      repeat' (first | refine go ?_ | intro _ | (apply cG; first | refine cT ?_ | refine cF ?_ | refine cS (fun _ => ?_) fun _ => ?_) | (apply gW; refine sW ?_) | (apply gI; refine sI ?_) | (apply gE; refine sE ?_) | (apply gP; refine sP ?_) | (apply gC; refine sC ?_) | (apply gD; refine sD ?_) | fail)
      refine E_res1 (by rfl) (by rfl) ⟨rfl, rfl⟩ Sb
    · have hb : inB n x = false := decide_eq_false (by omega)
      rw [hb]
      repeat' (first | refine go ?_ | intro _ | (apply cG; first | refine cT ?_ | refine cF ?_ | refine cS (fun _ => ?_) fun _ => ?_) | (apply gW; refine sW ?_) | (apply gI; refine sI ?_) | (apply gE; refine sE ?_) | (apply gP; refine sP ?_) | (apply gC; refine sC ?_) | (apply gD; refine sD ?_) | fail)
      refine E_res1 (by rfl) (by rfl) ⟨rfl, rfl⟩ Sb
theorem cover2_ct {lm lb : Nat} {ll : LM} {left : List Int} {T : TypeId} {x : Int} {M : List HP} (h1 : cel lm [.map (some lb)] T ∈ M) (h2 : mapx kin mBo lb ll ∈ M) (hl : LmOk ll left) :
    CT Try.prog 34 #[.int .i64 x, .pointer (some ⟨lm, 0, none⟩)] W0 M fun r L' => r = .bool (!memB left x) ∧ L' = M := by
  have hi1 : InC lm M _ _ := ⟨h1⟩
  have hg := hl.2 x
  refine CT_enter Try.func34 rfl ?_; (simp only [Try.ntmps34, List.size_toArray, List.length_cons, List.length_nil, Nat.reduceAdd, Nat.reduceSub, Array.replicate_succ, Array.replicate_zero, List.push_toArray, List.append_toArray, List.nil_append, List.cons_append])
  repeat' (first | refine go ?_ | intro _ | (apply cG; first | refine cT ?_ | refine cF ?_ | refine cS (fun _ => ?_) fun _ => ?_) | (apply gW; refine sW ?_) | (apply gI; refine sI ?_) | (apply gE; refine sE ?_) | (apply gP; refine sP ?_) | (apply gC; refine sC ?_) | (apply gD; refine sD ?_) | fail)
  refine O_s (sv_lookN (K := kin) (R := mBo) (k := x) h2 Ev.pf Ev.pf hg) ?_
  by_cases hx : x ∈ left
  · have hb : memB left x = true := decide_eq_true hx
    rw [hb, if_pos hx]
    simp only [Option.map_some, Option.getD_some]
    have hmb : mBo.val true = .bool true := rfl
    rw [hmb]
    repeat' (first | refine go ?_ | intro _ | (apply cG; first | refine cT ?_ | refine cF ?_ | refine cS (fun _ => ?_) fun _ => ?_) | (apply gW; refine sW ?_) | (apply gI; refine sI ?_) | (apply gE; refine sE ?_) | (apply gP; refine sP ?_) | (apply gC; refine sC ?_) | (apply gD; refine sD ?_) | fail)
    refine E_res1 (by rfl) (by rfl) ⟨rfl, rfl⟩ Sb
  · have hb : memB left x = false := decide_eq_false hx
    rw [hb, if_neg hx]
    simp only [Option.map_none, Option.getD_none]
    repeat' (first | refine go ?_ | intro _ | (apply cG; first | refine cT ?_ | refine cF ?_ | refine cS (fun _ => ?_) fun _ => ?_) | (apply gW; refine sW ?_) | (apply gI; refine sI ?_) | (apply gE; refine sE ?_) | (apply gP; refine sP ?_) | (apply gC; refine sC ?_) | (apply gD; refine sD ?_) | fail)
    refine E_res1 (by rfl) (by rfl) ⟨rfl, rfl⟩ Sb
theorem covK_flt {F : List Int} {G : List (List Int)} {l : List Int} : ∀ {ks : List (Int × Int)} {c : CS}, (∃ p, c.2 = l.filter p) → ∃ p, (covK F G ks c).2 = l.filter p
  | [], c, h => h
  | y :: r, c, h => by
    refine covK_flt (ks := r) (c := covSt F G y.1 y.2 c) ?_
    unfold covSt
    split
    · obtain ⟨p, hp⟩ := h
      refine ⟨fun x => !memB (mbrF F G y.1 y.2) x && p x, ?_⟩
      show wthF c.2 _ = _
      unfold wthF
      rw [hp, List.filter_filter]
    · exact h
theorem all_any {l left : List Int} : (l.any fun a => !memB left a) = !(l.all (memB left)) := by
  rw [List.all_eq_not_any_not, Bool.not_not]
theorem LmOk.wth {ll : LM} {left s : List Int} (h : (ll.map Prod.fst).Nodup) (h2 : ∀ a, gvX a ll = if a ∈ left ∧ a ∉ s then some true else none) : LmOk ll (wthF left s) := by
  refine ⟨h, fun a => ?_⟩
  rw [h2]
  have : (a ∈ left ∧ a ∉ s) ↔ a ∈ wthF left s := by
    unfold wthF memB
    rw [List.mem_filter]
    simp
  by_cases ha : a ∈ wthF left s
  · rw [if_pos ha, if_pos (this.2 ha)]
  · rw [if_neg ha, if_neg fun h => ha (this.1 h)]
set_option maxHeartbeats 4000000 in
theorem Cover_ct {t : TT} {A : Option Addr} {c : Nat} {l U F : List Int} {G : List (List Int)} (ht : TOk t U F G) (hc : ChkT U F G) (hU : U.length ≤ 1000) (hv : rd eI (.slice A l.length c) l ∈ L) (hl : l.length ≤ 9223372036854775807) (hGl : G.length ≤ 1000) :
    CT Try.prog 19 #[.pointer (some ⟨t.q, 0, none⟩), .slice A l.length c] W0 (tbl t :: L) fun r L' => ∃ A2 c2, r = .tuple #[.slice A2 (covO F G U.length l).length c2, .int .i64 (covE U.length l)] ∧ L' = own 43 ePr (.slice A2 (covO F G U.length l).length c2) (covO F G U.length l) :: tbl t :: L := by
  refine tbl_ct ?_
  obtain ⟨q, km, ks, UA, GA, uc, gc, U2, gs, mm, sl, tot⟩ := t
  obtain ⟨hgl, hgb⟩ := ht.gs hc
  have hkey := @TOk.key U F G _ ht hc
  have hU2 := ht.u
  have hg2 := ht.g
  dsimp only at hU2 hgl hgb hkey hg2
  subst hU2
  unfold tbc
  dsimp only
  have hFl := hc.len
  have hsl : ScA A L l.length c eI l := ⟨.inl hv⟩
  obtain ⟨e, he⟩ : ∃ e, covE U2.length l = e := ⟨_, rfl⟩
  obtain ⟨o, ho⟩ : ∃ o, covO F G U2.length l = o := ⟨_, rfl⟩
  rw [he, ho]
  have hL5 := @tbl_sub L ⟨q, km, ks, UA, GA, uc, gc, U2, gs, mm, sl, tot⟩
  unfold tbc at hL5
  dsimp only at hL5
  have eg : Enters Try.prog 33 := by first | exact rfl | trivial | (intro a b; rfl)
  have eg2 : Enters Try.prog 34 := by first | exact rfl | trivial | (intro a b; rfl)
  have eg3 : Enters Try.prog 44 := by first | exact rfl | trivial | (intro a b; rfl)
  refine CT_enterM Try.func19 rfl ?_; (simp only [Try.ntmps19, List.size_toArray, List.length_cons, List.length_nil, Nat.reduceAdd, Nat.reduceSub, Array.replicate_succ, Array.replicate_zero, List.push_toArray, List.append_toArray, List.nil_append, List.cons_append])
  repeat' (first | refine go ?_ | intro _ | (apply cG; first | refine cT ?_ | refine cF ?_ | refine cS (fun _ => ?_) fun _ => ?_) | (apply gW; refine sW ?_) | (apply gI; refine sI ?_) | (apply gE; refine sE ?_) | (apply gP; refine sP ?_) | (apply gC; refine sC ?_) | (apply gD; refine sD ?_) | fail)
  rename_i bt
  refine O_d (dy_call ArgsI.pf (by first | exact rfl | trivial | (intro a b; rfl)) (ConIS_ct (l := l) (φ := fun a => !inB U2.length a) (B := #[.pointer (some ⟨bt, 0, none⟩)]) eg (.inl (.tail _ (.tail _ (.tail _ (.tail _ (.tail _ (.tail _ hv))))))) (by omega) (fun x _ => cover1_ct (.head _) (.tail _ (.head _))))) ?_; rintro _ _ ⟨_, ⟨rfl, hLL⟩, rfl⟩; replace hLL := hLL.symm; subst hLL; refine O_n ?_
  have hany : (l.any fun a => !inB U2.length a) = !(l.all (inB U2.length)) := by rw [List.all_eq_not_any_not, Bool.not_not]
  rw [hany]
  cases hall : l.all (inB U2.length) with
  | false =>
    have he7 : e = 7 := by rw [← he]; unfold covE; rw [if_neg (by rw [hall]; decide)]
    have ho0 : o = [] := by rw [← ho]; unfold covO; rw [if_neg (by rw [he, he7]; decide)]
    subst he7 ho0
    simp only [Bool.not_false]
    repeat' (first | refine go ?_ | intro _ | (apply cG; first | refine cT ?_ | refine cF ?_ | refine cS (fun _ => ?_) fun _ => ?_) | (apply gW; refine sW ?_) | (apply gI; refine sI ?_) | (apply gE; refine sE ?_) | (apply gP; refine sP ?_) | (apply gC; refine sC ?_) | (apply gD; refine sD ?_) | fail)
    refine E_ownnil 43 ePr ?_
    refine E_res2m rfl (by rfl) Ev.pf Ev.pf ⟨none, 0, rfl, rfl⟩ (sub_skip (Sub.trans ?_ hL5))
    exact Sb
  | true =>
  have hin : ∀ x ∈ l, 0 ≤ x ∧ x < (U2.length : Int) := fun x hx => of_decide_eq_true (List.all_eq_true.1 hall x hx)
  simp only [Bool.not_true]
  repeat' (first | refine go ?_ | intro _ | (apply cG; first | refine cT ?_ | refine cF ?_ | refine cS (fun _ => ?_) fun _ => ?_) | (apply gW; refine sW ?_) | (apply gI; refine sI ?_) | (apply gE; refine sE ?_) | (apply gP; refine sP ?_) | (apply gC; refine sC ?_) | (apply gD; refine sD ?_) | fail)
  refine C_loopS (κ := Nat) [false, false, false, false, true, true, true, false, false, false, false, false, false, false, false, false, false, false, false, true, true, true, true, true, true, true, true, true, true, true, true, true, true, true, true, false, false, false, false, false, false, false, false, false, false, false, false, false, false, false, false, false, false, false, false, false, false, false, false, false, false, false, false, false, false, false, false, false, false, false, false, false, false, false, false, false, false, false, false, false, false, false, false, false, false, false, false, false, false, false] (fun k => [(6, .int .i64 (k : Int))]) (fun k => []) (fun k => 1 ≤ k ∧ (l.length ≤ k → incF (l.drop (k - 1)) = true) ∧ incF (l.drop (k - 1)) = incF l) (fun k => l.length + 1 - k) 1 ⟨Nat.le_refl _, fun h => incF_end (by omega), rfl⟩ ⟨rfl, trivial⟩ ?_
  rintro i u ⟨hi0, hi1, hi2⟩
  ((try dsimp only); refine C_n ?_; (try simp only [Nat.reduceAdd, Nat.zero_add]))
  by_cases hil : i < l.length
  · obtain ⟨m, rfl⟩ : ∃ m, i = m + 1 := ⟨i - 1, by omega⟩
    rw [Nat.add_sub_cancel] at hi1 hi2
    obtain ⟨x, hx⟩ : ∃ x, l[m + 1]? = some x := ⟨_, List.getElem?_eq_getElem (by omega)⟩
    obtain ⟨y, hy⟩ : ∃ y, l[m]? = some y := ⟨_, List.getElem?_eq_getElem (by omega)⟩
    have hax : At l (m + 1) x := ⟨hx⟩
    have en : ((m + 1 : Nat) : Int) - 1 = (m : Int) := by omega
    have hay0 : At l (((m + 1 : Nat) : Int) - 1).toNat y := ⟨by rw [en, Int.toNat_natCast]; exact hy⟩
    have hay1 := hay0
    unfold Int.toNat at hay1
    rw [incF_drop hy hx] at hi2
    have hSl : Sub (cel bt [.pointer (some ⟨q, 0, none⟩)] 25 :: cel q [.slice UA U2.length uc, .int .i64 (gs.length : Int), .map (some km), .map (some ks), .slice GA gs.length gc, .int .i64 tot] 64 :: own 3 eI (.slice UA U2.length uc) U2 :: mapx kpr mS km mm :: mapx kpr mI ks sl :: rd eI (.slice GA gs.length gc) gs :: L) [rd eI (.slice A l.length c) l] := sub_mem1 (.tail _ (.tail _ (.tail _ (.tail _ (.tail _ (.tail _ hv))))))
    repeat' (first | refine go ?_ | intro _ | (apply cG; first | refine cT ?_ | refine cF ?_ | refine cS (fun _ => ?_) fun _ => ?_) | (apply gW; refine sW ?_) | (apply gI; refine sI ?_) | (apply gE; refine sE ?_) | (apply gP; refine sP ?_) | (apply gC; refine sC ?_) | (apply gD; refine sD ?_) | fail)
    refine C_draw (n := 99) [rd eI (.slice A l.length c) l] [(0, 1), (1, 1), (2, 1), (3, 1), (4, 1), (5, 1), (6, 1), (7, 1), (8, 1), (9, 1)] (by kernel_rfl) (by kernel_rfl) hSl ?_
    by_cases hyx : y < x
    · rw [decide_eq_true hyx, Bool.true_and] at hi2
      repeat' (first | refine go ?_ | intro _ | (apply cG; first | refine cT ?_ | refine cF ?_ | refine cS (fun _ => ?_) fun _ => ?_) | (apply gW; refine sW ?_) | (apply gI; refine sI ?_) | (apply gE; refine sE ?_) | (apply gP; refine sP ?_) | (apply gC; refine sC ?_) | (apply gD; refine sD ?_) | fail)
      exact E_round (m + 1 + 1) ⟨by omega, fun h => incF_end (by omega), by rw [Nat.add_sub_cancel]; exact hi2⟩ (by omega) ⟨rfl, trivial⟩ Sb
    · rw [decide_eq_false hyx, Bool.false_and] at hi2
      have he16 : e = 16 := by rw [← he]; unfold covE; rw [if_pos hall, ← hi2, if_neg (by decide)]
      have ho0 : o = [] := by rw [← ho]; unfold covO; rw [if_neg (by rw [he, he16]; decide)]
      subst he16 ho0
      repeat' (first | refine go ?_ | intro _ | (apply cG; first | refine cT ?_ | refine cF ?_ | refine cS (fun _ => ?_) fun _ => ?_) | (apply gW; refine sW ?_) | (apply gI; refine sI ?_) | (apply gE; refine sE ?_) | (apply gP; refine sP ?_) | (apply gC; refine sC ?_) | (apply gD; refine sD ?_) | fail)
      refine E_ownnil 43 ePr ?_
      refine E_res2m rfl (by rfl) Ev.pf Ev.pf ⟨none, 0, rfl, rfl⟩ (sub_skip (Sub.trans ?_ hL5))
      exact Sb
  have he0 : e = 0 := by rw [← he]; unfold covE; rw [if_pos hall, ← hi2, hi1 (by omega), if_pos rfl]
  have hof : o = covF F G l := by rw [← ho]; unfold covO; rw [if_pos (by rw [he, he0])]
  subst he0
  have hinc9 : incF l = true := by rw [← hi2]; exact hi1 (by omega)
  have hl9 := asc_len (incF_asc hinc9) hin
  clear hi0 hi1 hi2
  repeat' (first | refine go ?_ | intro _ | (apply cG; first | refine cT ?_ | refine cF ?_ | refine cS (fun _ => ?_) fun _ => ?_) | (apply gW; refine sW ?_) | (apply gI; refine sI ?_) | (apply gE; refine sE ?_) | (apply gP; refine sP ?_) | (apply gC; refine sC ?_) | (apply gD; refine sD ?_) | fail)
  refine O_d (dy_mkmapx kin mBo) ?_; rintro _ _ ⟨lb, rfl, rfl⟩; refine O_n ?_
  repeat' (first | refine go ?_ | intro _ | (apply cG; first | refine cT ?_ | refine cF ?_ | refine cS (fun _ => ?_) fun _ => ?_) | (apply gW; refine sW ?_) | (apply gI; refine sI ?_) | (apply gE; refine sE ?_) | (apply gP; refine sP ?_) | (apply gC; refine sC ?_) | (apply gD; refine sD ?_) | fail)
  rename_i lm
  refine C_loopS (κ := Nat × LM) [false, false, false, false, false, false, false, false, false, true, false, false, false, false, false, false, false, false, false, false, false, false, false, false, false, false, false, false, false, false, false, false, false, false, false, false, false, false, true, true, true, true, true, true, true, false, false, false, false, false, false, false, false, false, false, false, false, false, false, false, false, false, false, false, false, false, false, false, false, false, false, false, false, false, false, false, false, false, false, false, false, false, false, false, false, false, false, false, false, false] (fun k => [(38, .int .i64 (k.1 : Int))]) (fun k => [(1, mapx kin mBo lb k.2)]) (fun k => k.1 ≤ l.length ∧ LmOk k.2 (l.take k.1)) (fun k => l.length - k.1) (0, []) ⟨Nat.zero_le _, List.nodup_nil, fun a => by simp [gvX_nil]⟩ ⟨rfl, trivial⟩ ?_
  rintro ⟨j, ll⟩ u2 ⟨hj, hll⟩
  dsimp only at hj hll
  dsimp only
  ((try dsimp only); refine C_n ?_; (try simp only [Nat.reduceAdd, Nat.zero_add]))
  by_cases hjl : j < l.length
  · obtain ⟨x, hx⟩ : ∃ x, l[j]? = some x := ⟨_, List.getElem?_eq_getElem (by omega)⟩
    have hax : At l j x := ⟨hx⟩
    have htk : l.take (j + 1) = l.take j ++ [x] := by rw [List.take_add_one, hx]; rfl
    repeat' (first | refine go ?_ | intro _ | (apply cG; first | refine cT ?_ | refine cF ?_ | refine cS (fun _ => ?_) fun _ => ?_) | (apply gW; refine sW ?_) | (apply gI; refine sI ?_) | (apply gE; refine sE ?_) | (apply gP; refine sP ?_) | (apply gC; refine sC ?_) | (apply gD; refine sD ?_) | fail)
    refine O_d (dy_putx (K := kin) (R := mBo) (k := x) true (i := 1) rfl Ev.pf Ev.pf Ev.pf rfl (fun _ _ _ => trivial)) ?_; rintro _ _ ⟨rfl, rfl⟩; refine O_n ?_
    try simp only [List.set_cons_succ, List.set_cons_zero]
    repeat' (first | refine go ?_ | intro _ | (apply cG; first | refine cT ?_ | refine cF ?_ | refine cS (fun _ => ?_) fun _ => ?_) | (apply gW; refine sW ?_) | (apply gI; refine sI ?_) | (apply gE; refine sE ?_) | (apply gP; refine sP ?_) | (apply gC; refine sC ?_) | (apply gD; refine sD ?_) | fail)
    exact E_round (j + 1, putX x true ll) ⟨hjl, putX_nodup hll.1, fun a => by
      dsimp only
      rw [gvX_put, htk, hll.2]
      by_cases ha : a = x
      · rw [if_pos ha, if_pos (by rw [ha]; simp)]
      · rw [if_neg ha]
        by_cases h2 : a ∈ l.take j
        · rw [if_pos h2, if_pos (by simp [h2])]
        · rw [if_neg h2, if_neg (by simp [h2, ha])]⟩ (by dsimp only; omega) ⟨rfl, trivial⟩ Sb
  obtain rfl : j = l.length := by omega
  rw [List.take_length] at hll
  repeat' (first | refine go ?_ | intro _ | (apply cG; first | refine cT ?_ | refine cF ?_ | refine cS (fun _ => ?_) fun _ => ?_) | (apply gW; refine sW ?_) | (apply gI; refine sI ?_) | (apply gE; refine sE ?_) | (apply gP; refine sP ?_) | (apply gC; refine sC ?_) | (apply gD; refine sD ?_) | fail)
  rename_i bo
  refine O_d (dy_call ArgsI.pf (by first | exact rfl | trivial | (intro a b; rfl)) (coarsest_ct)) ?_; rintro _ _ ⟨_, ⟨bx, T, rfl, rfl⟩, rfl⟩; refine O_n ?_
  repeat' (first | refine go ?_ | intro _ | (apply cG; first | refine cT ?_ | refine cF ?_ | refine cS (fun _ => ?_) fun _ => ?_) | (apply gW; refine sW ?_) | (apply gI; refine sI ?_) | (apply gE; refine sE ?_) | (apply gP; refine sP ?_) | (apply gC; refine sC ?_) | (apply gD; refine sD ?_) | fail)
  refine C_ownnil 43 ePr ?_
  have hks : keyS gs gs.length = keyS (gsF G G.length) G.length := by rw [hgl, hg2]
  refine C_rangeS Ev.pf eg3 (coarsest_gives (q := q) (bx := bx) (UA := UA) (GA := GA) (nu := U2.length) (uc := uc) (gc := gc) (km := .map (some km)) (ks := .map (some ks)) (gs := gs) (tot := tot) (T := T) (E0 := rd eI (.slice GA gs.length gc) gs :: mapx kpr mS km mm :: cel bt [.pointer (some ⟨q, 0, none⟩)] 25 :: cel lm [.map (some lb)] 69 :: own 3 eI (.slice UA U2.length uc) U2 :: mapx kpr mI ks sl :: L) (.head _) (fun g hg => by have := hgb g hg; omega) (by omega)) (fun _ _ => rfl) (fun pre => [cvD lb bo (covK F G pre ([], l))]) (Sub.trans (B := mapx kin mBo lb ll :: cel bo [.slice none 0 0] 40 :: own 43 ePr (.slice none 0 0) [] :: cel bx [.pointer (some ⟨q, 0, none⟩)] T :: cel q [.slice UA U2.length uc, .int .i64 (gs.length : Int), .map (some km), .map (some ks), .slice GA gs.length gc, .int .i64 tot] 64 :: rd eI (.slice GA gs.length gc) gs :: mapx kpr mS km mm :: cel bt [.pointer (some ⟨q, 0, none⟩)] 25 :: cel lm [.map (some lb)] 69 :: own 3 eI (.slice UA U2.length uc) U2 :: mapx kpr mI ks sl :: L) Sb (sub_cvD (c := ([], l)) (A := none) (cc := 0) hll)) ?_ ?_
  · intro g D rec rec' pre y post k hx
    simp only [zip1, List.setIfInBounds_toArray, List.set_cons_zero, List.set_cons_succ, List.cons_append, List.nil_append]
    obtain ⟨c1, hc1⟩ : ∃ c1, covK F G pre ([], l) = c1 := ⟨_, rfl⟩
    have hsn : covK F G (pre ++ [y]) ([], l) = covSt F G y.1 y.2 c1 := by rw [covK_snoc, hc1]
    rw [hc1, hsn]
    obtain ⟨e1, he1, he2, he3, he4⟩ := hkey (y := y) (by rw [← hks, hx]; simp)
    have hlen1 : c1.1.length + c1.2.length ≤ l.length := by
      have := covK_len (F := F) (G := G) (ks := pre) (c := ([], l))
      rw [hc1] at this
      simpa using this
    obtain ⟨ys, yg⟩ := y
    simp only [kpr] at *
    repeat' (first | refine go ?_ | intro _ | (apply cG; first | refine cT ?_ | refine cF ?_ | refine cS (fun _ => ?_) fun _ => ?_) | (apply gW; refine sW ?_) | (apply gI; refine sI ?_) | (apply gE; refine sE ?_) | (apply gP; refine sP ?_) | (apply gC; refine sC ?_) | (apply gD; refine sD ?_) | fail)
    rename_i ck
    refine E_sub (S := blk g rec :: cel ck [.int .i64 ys, .int .i64 yg] 43 :: blk D (.deferred (some [])) :: cvD lb bo c1 :: cel bx [.pointer (some ⟨q, 0, none⟩)] T :: cel q [.slice UA U2.length uc, .int .i64 (gs.length : Int), .map (some km), .map (some ks), .slice GA gs.length gc, .int .i64 tot] 64 :: rd eI (.slice GA gs.length gc) gs :: mapx kpr mS km mm :: cel bt [.pointer (some ⟨q, 0, none⟩)] 25 :: cel lm [.map (some lb)] 69 :: own 3 eI (.slice UA U2.length uc) U2 :: mapx kpr mI ks sl :: L) Sb ?_
    refine ⟨fun w s => ⟨rfl, _, s, ?_⟩⟩
    clear s w
    refine CI_open (κ := LM × Option Addr × Nat) (φ := fun k => LmOk k.1 c1.2) (LI := fun k => mapx kin mBo lb k.1 :: cel bo [.slice k.2.1 c1.1.length k.2.2] 40 :: own 43 ePr (.slice k.2.1 c1.1.length k.2.2) c1.1 :: blk g rec' :: cel ck [.int .i64 ys, .int .i64 yg] 43 :: blk D (.deferred (some [])) :: cel bx [.pointer (some ⟨q, 0, none⟩)] T :: cel q [.slice UA U2.length uc, .int .i64 (gs.length : Int), .map (some km), .map (some ks), .slice GA gs.length gc, .int .i64 tot] 64 :: rd eI (.slice GA gs.length gc) gs :: mapx kpr mS km mm :: cel bt [.pointer (some ⟨q, 0, none⟩)] 25 :: cel lm [.map (some lb)] 69 :: own 3 eI (.slice UA U2.length uc) U2 :: mapx kpr mI ks sl :: L) (fun w s => St.cvD_ ((show Sub _ (cvD lb bo c1 :: blk g rec' :: cel ck [.int .i64 ys, .int .i64 yg] 43 :: blk D (.deferred (some [])) :: cel bx [.pointer (some ⟨q, 0, none⟩)] T :: cel q [.slice UA U2.length uc, .int .i64 (gs.length : Int), .map (some km), .map (some ks), .slice GA gs.length gc, .int .i64 tot] 64 :: rd eI (.slice GA gs.length gc) gs :: mapx kpr mS km mm :: cel bt [.pointer (some ⟨q, 0, none⟩)] 25 :: cel lm [.map (some lb)] 69 :: own 3 eI (.slice UA U2.length uc) U2 :: mapx kpr mI ks sl :: L) from Sb).st s)) ?_
    rintro ⟨l1, A1, cc1⟩ hl1
    dsimp only at hl1 ⊢
    refine CI_sub (sub_mS (y := (ys, yg)) (by repeat (first | exact .head _ | refine .tail _ ?_)) he1) ?_
    refine CI_fact (fun w s => rd_form (.head _) s) ?_
    rintro ⟨A3, c3, e3⟩
    rw [e3]
    have hve : mS.val e1 = .slice A3 e1.2.length c3 := e3
    obtain ⟨ms, hms⟩ : ∃ ms, e1.2 = ms := ⟨_, rfl⟩
    rw [hms] at he2 hve ⊢
    have hmF := mbrF_len (F := F) (G := G) (s := ys) (g := yg)
    rw [← he2] at he3 hmF
    repeat' (first | refine go ?_ | intro _ | (apply cG; first | refine cT ?_ | refine cF ?_ | refine cS (fun _ => ?_) fun _ => ?_) | (apply gW; refine sW ?_) | (apply gI; refine sI ?_) | (apply gE; refine sE ?_) | (apply gP; refine sP ?_) | (apply gC; refine sC ?_) | (apply gD; refine sD ?_) | fail)
    refine CI_draw (n := 99) [rd eI (.slice A3 ms.length c3) ms, cel bt [.pointer (some ⟨q, 0, none⟩)] 25, cel q [.slice UA U2.length uc, .int .i64 (gs.length : Int), .map (some km), .map (some ks), .slice GA gs.length gc, .int .i64 tot] 64, cel ck [.int .i64 ys, .int .i64 yg] 43, mapx kpr mS km mm] [(0, 1), (1, 1), (2, 1), (3, 1), (4, 1), (5, 1), (6, 1), (7, 0)] (by kernel_rfl) (by kernel_rfl) Sb ?_
    repeat' (first | refine go ?_ | intro _ | (apply cG; first | refine cT ?_ | refine cF ?_ | refine cS (fun _ => ?_) fun _ => ?_) | (apply gW; refine sW ?_) | (apply gI; refine sI ?_) | (apply gE; refine sE ?_) | (apply gP; refine sP ?_) | (apply gC; refine sC ?_) | (apply gD; refine sD ?_) | fail)
    refine D_op rfl ?_; refine X_s (sv_lookN (K := kpr) (R := mS) (k := (ys, yg)) (by repeat (first | exact .head _ | refine .tail _ ?_)) Ev.pf Ev.pf he1) ?_
    simp only [Option.map_some, Option.getD_some]
    rw [hve]
    repeat' (first | refine go ?_ | intro _ | (apply cG; first | refine cT ?_ | refine cF ?_ | refine cS (fun _ => ?_) fun _ => ?_) | (apply gW; refine sW ?_) | (apply gI; refine sI ?_) | (apply gE; refine sE ?_) | (apply gP; refine sP ?_) | (apply gC; refine sC ?_) | (apply gD; refine sD ?_) | fail)
    refine D_op rfl ?_; refine X_d (dy_call ArgsI.pf (by first | exact rfl | trivial | (intro a b; rfl)) (ConIS_ct (l := ms) (φ := fun a => !memB c1.2 a) (B := #[.pointer (some ⟨lm, 0, none⟩)]) eg2 (.inl (.head _)) (by omega) (fun x _ => cover2_ct (lb := lb) (ll := l1) (.tail _ (.tail _ (.tail _ (.tail _ (.tail _ (.tail _ (.tail _ (.tail _ (.tail _ (.tail _ (.tail _ (.tail _ (.head _))))))))))))) (.tail _ (.head _)) hl1))) ?_; rintro _ _ ⟨_, ⟨rfl, hLL⟩, rfl⟩; replace hLL := hLL.symm; subst hLL; refine ⟨(by first | exact .inl rfl | exact .inr Sb), D_n ?_⟩
    rw [all_any]
    cases hal : ms.all (memB c1.2) with
    | false =>
      have hst : covSt F G ys yg c1 = c1 := by
        unfold covSt
        rw [← he2, hal, if_neg (fun h => absurd h.2 (by decide))]
      rw [hst]
      simp only [Bool.not_false]
      repeat' (first | refine go ?_ | intro _ | (apply cG; first | refine cT ?_ | refine cF ?_ | refine cS (fun _ => ?_) fun _ => ?_) | (apply gW; refine sW ?_) | (apply gI; refine sI ?_) | (apply gE; refine sE ?_) | (apply gP; refine sP ?_) | (apply gC; refine sC ?_) | (apply gD; refine sD ?_) | fail)
      refine E_sub (S := mapx kin mBo lb l1 :: cel bo [.slice A1 c1.1.length cc1] 40 :: own 43 ePr (.slice A1 c1.1.length cc1) c1.1 :: blk g rec' :: blk D (.deferred (some [])) :: cel bx [.pointer (some ⟨q, 0, none⟩)] T :: cel q [.slice UA U2.length uc, .int .i64 (gs.length : Int), .map (some km), .map (some ks), .slice GA gs.length gc, .int .i64 tot] 64 :: rd eI (.slice GA gs.length gc) gs :: mapx kpr mS km mm :: cel bt [.pointer (some ⟨q, 0, none⟩)] 25 :: cel lm [.map (some lb)] 69 :: own 3 eI (.slice UA U2.length uc) U2 :: mapx kpr mI ks sl :: L) Sb ?_
      refine E_sub (sub_cvD hl1) ?_
      refine E_sub (S := blk g rec' :: blk D (.deferred (some [])) :: cvD lb bo c1 :: cel bx [.pointer (some ⟨q, 0, none⟩)] T :: cel q [.slice UA U2.length uc, .int .i64 (gs.length : Int), .map (some km), .map (some ks), .slice GA gs.length gc, .int .i64 tot] 64 :: rd eI (.slice GA gs.length gc) gs :: mapx kpr mS km mm :: cel bt [.pointer (some ⟨q, 0, none⟩)] 25 :: cel lm [.map (some lb)] 69 :: own 3 eI (.slice UA U2.length uc) U2 :: mapx kpr mI ks sl :: L) Sb ?_
      exact ⟨fun w s => ⟨rfl, s⟩⟩
    | true =>
      have hst : covSt F G ys yg c1 = (c1.1 ++ [(ys, yg)], wthF c1.2 ms) := by
        unfold covSt
        rw [← he2, hal, if_pos ⟨he3, rfl⟩]
      have hwl := wth_lt he3 hal
      rw [hst]
      simp only [Bool.not_true]
      repeat' (first | refine go ?_ | intro _ | (apply cG; first | refine cT ?_ | refine cF ?_ | refine cS (fun _ => ?_) fun _ => ?_) | (apply gW; refine sW ?_) | (apply gI; refine sI ?_) | (apply gE; refine sE ?_) | (apply gP; refine sP ?_) | (apply gC; refine sC ?_) | (apply gD; refine sD ?_) | fail)
      refine CI_draw (n := 99) [cel bt [.pointer (some ⟨q, 0, none⟩)] 25, cel q [.slice UA U2.length uc, .int .i64 (gs.length : Int), .map (some km), .map (some ks), .slice GA gs.length gc, .int .i64 tot] 64, cel ck [.int .i64 ys, .int .i64 yg] 43, mapx kpr mS km mm] [(0, 1), (1, 1), (2, 1), (3, 1), (4, 1), (5, 1), (6, 1), (7, 1)] (by kernel_rfl) (by kernel_rfl) Sb ?_
      repeat' (first | refine go ?_ | intro _ | (apply cG; first | refine cT ?_ | refine cF ?_ | refine cS (fun _ => ?_) fun _ => ?_) | (apply gW; refine sW ?_) | (apply gI; refine sI ?_) | (apply gE; refine sE ?_) | (apply gP; refine sP ?_) | (apply gC; refine sC ?_) | (apply gD; refine sD ?_) | fail)
      refine D_op rfl ?_; refine X_s (sv_lookN (K := kpr) (R := mS) (k := (ys, yg)) (by repeat (first | exact .head _ | refine .tail _ ?_)) Ev.pf Ev.pf he1) ?_
      simp only [Option.map_some, Option.getD_some]
      rw [hve]
      repeat' (first | refine go ?_ | intro _ | (apply cG; first | refine cT ?_ | refine cF ?_ | refine cS (fun _ => ?_) fun _ => ?_) | (apply gW; refine sW ?_) | (apply gI; refine sI ?_) | (apply gE; refine sE ?_) | (apply gP; refine sP ?_) | (apply gC; refine sC ?_) | (apply gD; refine sD ?_) | fail)
      refine CI_loopS (κ := Nat × LM) [false, false, false, false, false, false, false, false, false, false, false, false, false, true, false, false, false, false, false, false, false, false, false, false, false, false, false, false, false, false, false, false, false, false, false, false, false, false, false, false, false, false, false, false, false, false, false, false, false, false, false, false, false, false, false, false, false, false, false, false, false, false, false, true, true, true, true, true, true, true, false, false, false, false, false, false, false, false, false, false, false, false, false, false, false, false, false, false, false, false] (fun k => [(63, .int .i64 (k.1 : Int))]) (fun k => [(1, mapx kin mBo lb k.2)]) (fun k => k.1 ≤ ms.length ∧ (k.2.map Prod.fst).Nodup ∧ ∀ a, gvX a k.2 = if a ∈ c1.2 ∧ a ∉ ms.take k.1 then some true else none) (fun k => ms.length - k.1) (0, l1) ⟨Nat.zero_le _, hl1.1, fun a => by dsimp only; rw [hl1.2]; simp⟩ ⟨rfl, trivial⟩ ?_
      rintro ⟨j2, l2⟩ u3 ⟨hj2, hn2, hl2⟩
      dsimp only at hj2 hn2 hl2
      ((try dsimp only); refine CI_n ?_; (try simp only [Nat.reduceAdd, Nat.zero_add]))
      by_cases hj3 : j2 < ms.length
      · obtain ⟨x, hx⟩ : ∃ x, ms[j2]? = some x := ⟨_, List.getElem?_eq_getElem (by omega)⟩
        have hax : At ms j2 x := ⟨hx⟩
        have htk : ms.take (j2 + 1) = ms.take j2 ++ [x] := by rw [List.take_add_one, hx]; rfl
        repeat' (first | refine go ?_ | intro _ | (apply cG; first | refine cT ?_ | refine cF ?_ | refine cS (fun _ => ?_) fun _ => ?_) | (apply gW; refine sW ?_) | (apply gI; refine sI ?_) | (apply gE; refine sE ?_) | (apply gP; refine sP ?_) | (apply gC; refine sC ?_) | (apply gD; refine sD ?_) | fail)
        refine O_d (dy_delx (K := kin) (R := mBo) (k := x) (i := 1) rfl Ev.pf Ev.pf) ?_; rintro _ _ ⟨rfl, rfl⟩; refine O_n ?_
        try simp only [List.set_cons_succ, List.set_cons_zero]
        repeat' (first | refine go ?_ | intro _ | (apply cG; first | refine cT ?_ | refine cF ?_ | refine cS (fun _ => ?_) fun _ => ?_) | (apply gW; refine sW ?_) | (apply gI; refine sI ?_) | (apply gE; refine sE ?_) | (apply gP; refine sP ?_) | (apply gC; refine sC ?_) | (apply gD; refine sD ?_) | fail)
        exact E_round (j2 + 1, delX x l2) ⟨hj3, delX_nodup hn2, fun a => by
          dsimp only
          rw [gvX_del hn2, htk, hl2]
          by_cases ha : a = x
          · rw [if_pos ha, if_neg (fun h => h.2 (by rw [ha]; simp))]
          · rw [if_neg ha]
            by_cases h2 : a ∈ c1.2 ∧ a ∉ ms.take j2
            · rw [if_pos h2, if_pos ⟨h2.1, fun h => (List.mem_append.1 h).elim h2.2 (fun h => ha (List.mem_singleton.1 h))⟩]
            · rw [if_neg h2, if_neg (fun h => h2 ⟨h.1, fun h' => h.2 (List.mem_append.2 (.inl h'))⟩)]⟩ (by dsimp only; omega) ⟨rfl, trivial⟩ Sb
      obtain rfl : j2 = ms.length := by omega
      rw [List.take_length] at hl2
      have hlm2 := LmOk.wth hn2 hl2
      repeat' (first | refine go ?_ | intro _ | (apply cG; first | refine cT ?_ | refine cF ?_ | refine cS (fun _ => ?_) fun _ => ?_) | (apply gW; refine sW ?_) | (apply gI; refine sI ?_) | (apply gE; refine sE ?_) | (apply gP; refine sP ?_) | (apply gC; refine sC ?_) | (apply gD; refine sD ?_) | fail)
      refine O_d (dy_lit1 (R := ePr) ((ys, yg) : Int × Int) (hcs := by rfl) (hel := fun _ _ _ => by rfl)) ?_; rintro _ _ ⟨_, rfl, rfl⟩; refine O_n ?_
      repeat' (first | refine go ?_ | intro _ | (apply cG; first | refine cT ?_ | refine cF ?_ | refine cS (fun _ => ?_) fun _ => ?_) | (apply gW; refine sW ?_) | (apply gI; refine sI ?_) | (apply gE; refine sE ?_) | (apply gP; refine sP ?_) | (apply gC; refine sC ?_) | (apply gD; refine sD ?_) | fail)
      rename_i A5 c5
      refine E_sub (S := mapx kin mBo lb l2 :: cel bo [.slice A5 (c1.1 ++ [(ys, yg)]).length c5] 40 :: own 43 ePr (.slice A5 (c1.1 ++ [(ys, yg)]).length c5) (c1.1 ++ [(ys, yg)]) :: blk g rec' :: blk D (.deferred (some [])) :: cel bx [.pointer (some ⟨q, 0, none⟩)] T :: cel q [.slice UA U2.length uc, .int .i64 (gs.length : Int), .map (some km), .map (some ks), .slice GA gs.length gc, .int .i64 tot] 64 :: rd eI (.slice GA gs.length gc) gs :: mapx kpr mS km mm :: cel bt [.pointer (some ⟨q, 0, none⟩)] 25 :: cel lm [.map (some lb)] 69 :: own 3 eI (.slice UA U2.length uc) U2 :: mapx kpr mI ks sl :: L) (by rw [List.length_append]; exact Sb) ?_
      refine E_sub (sub_cvD (c := (c1.1 ++ [(ys, yg)], wthF c1.2 ms)) hlm2) ?_
      refine E_sub (S := blk g rec' :: blk D (.deferred (some [])) :: cvD lb bo (c1.1 ++ [(ys, yg)], wthF c1.2 ms) :: cel bx [.pointer (some ⟨q, 0, none⟩)] T :: cel q [.slice UA U2.length uc, .int .i64 (gs.length : Int), .map (some km), .map (some ks), .slice GA gs.length gc, .int .i64 tot] 64 :: rd eI (.slice GA gs.length gc) gs :: mapx kpr mS km mm :: cel bt [.pointer (some ⟨q, 0, none⟩)] 25 :: cel lm [.map (some lb)] 69 :: own 3 eI (.slice UA U2.length uc) U2 :: mapx kpr mI ks sl :: L) Sb ?_
      exact ⟨fun w s => ⟨rfl, s⟩⟩
  · intro D
    simp only [List.cons_append, List.nil_append]
    obtain ⟨cf, hcf⟩ : ∃ cf, covK F G (keyS gs gs.length) ([], l) = cf := ⟨_, rfl⟩
    have hof2 : o = cf.1 ++ cf.2.map fun a => (-1, a) := by
      rw [hof]
      unfold covF
      rw [covS_keys hc _ _ (Nat.le_refl _), ← hks, hcf]
    have hcl := covK_len (F := F) (G := G) (ks := keyS gs gs.length) (c := ([], l))
    rw [hcf] at hcl ⊢
    have hcl2 : cf.1.length + cf.2.length ≤ l.length := by simpa using hcl
    refine EL_open (κ := LM × Option Addr × Nat) (φ := fun k => LmOk k.1 cf.2) (LI := fun k => mapx kin mBo lb k.1 :: cel bo [.slice k.2.1 cf.1.length k.2.2] 40 :: own 43 ePr (.slice k.2.1 cf.1.length k.2.2) cf.1 :: blk D (.deferred (some [])) :: cel bx [.pointer (some ⟨q, 0, none⟩)] T :: cel q [.slice UA U2.length uc, .int .i64 (gs.length : Int), .map (some km), .map (some ks), .slice GA gs.length gc, .int .i64 tot] 64 :: rd eI (.slice GA gs.length gc) gs :: mapx kpr mS km mm :: cel bt [.pointer (some ⟨q, 0, none⟩)] 25 :: cel lm [.map (some lb)] 69 :: own 3 eI (.slice UA U2.length uc) U2 :: mapx kpr mI ks sl :: L) (fun w s => St.cvD_ ((show Sub _ (cvD lb bo cf :: blk D (.deferred (some [])) :: cel bx [.pointer (some ⟨q, 0, none⟩)] T :: cel q [.slice UA U2.length uc, .int .i64 (gs.length : Int), .map (some km), .map (some ks), .slice GA gs.length gc, .int .i64 tot] 64 :: rd eI (.slice GA gs.length gc) gs :: mapx kpr mS km mm :: cel bt [.pointer (some ⟨q, 0, none⟩)] 25 :: cel lm [.map (some lb)] 69 :: own 3 eI (.slice UA U2.length uc) U2 :: mapx kpr mI ks sl :: L) from Sb).st s)) ?_
    rintro ⟨l1, A1, cc1⟩ hl1
    dsimp only at hl1 ⊢
    obtain ⟨pf, hpf⟩ := covK_flt (F := F) (G := G) (ks := keyS gs gs.length) (c := ([], l)) (l := l) ⟨fun _ => true, (List.filter_eq_self.2 (fun _ _ => rfl)).symm⟩
    rw [hcf] at hpf
    have hself : l.filter (memB cf.2) = cf.2 := by
      rw [hpf]
      refine List.filter_congr fun x hx => ?_
      have hiff : x ∈ l.filter pf ↔ pf x = true := by
        rw [List.mem_filter]
        exact ⟨fun h => h.2, fun h => ⟨hx, h⟩⟩
      cases hp : pf x with
      | true => exact decide_eq_true (hiff.2 hp)
      | false =>
        refine decide_eq_false fun h => ?_
        have := hiff.1 h
        rw [hp] at this
        cases this
    repeat' (first | refine go ?_ | intro _ | (apply cG; first | refine cT ?_ | refine cF ?_ | refine cS (fun _ => ?_) fun _ => ?_) | (apply gW; refine sW ?_) | (apply gI; refine sI ?_) | (apply gE; refine sE ?_) | (apply gP; refine sP ?_) | (apply gC; refine sC ?_) | (apply gD; refine sD ?_) | fail)
    refine C_loopS (κ := Nat × Option Addr × Nat × List (Int × Int)) [false, false, false, false, false, false, false, false, false, false, false, false, false, false, false, true, false, false, false, false, false, false, false, false, false, false, false, false, false, false, false, false, false, false, false, false, false, false, false, false, false, false, false, false, false, false, false, false, false, false, false, false, false, false, false, false, false, false, false, false, false, false, false, false, false, false, false, false, false, false, false, false, false, false, false, false, true, true, true, true, true, true, true, true, true, true, true, true, true, false] (fun k => [(76, .int .i64 (k.1 : Int))]) (fun k => [(1, cel bo [.slice k.2.1 k.2.2.2.length k.2.2.1] 40), (2, own 43 ePr (.slice k.2.1 k.2.2.2.length k.2.2.1) k.2.2.2)]) (fun k => k.1 ≤ l.length ∧ k.2.2.2 = cf.1 ++ ((l.take k.1).filter (memB cf.2)).map fun a => (-1, a)) (fun k => l.length - k.1) (0, A1, cc1, cf.1) ⟨Nat.zero_le _, by simp⟩ ⟨rfl, trivial⟩ ?_
    rintro ⟨j, A2, c2, ow⟩ u3 ⟨hj4, how⟩
    dsimp only at hj4 how
    dsimp only
    ((try dsimp only); refine C_n ?_; (try simp only [Nat.reduceAdd, Nat.zero_add]))
    have howl : ow.length ≤ 2000000 := by
      rw [how, List.length_append, List.length_map]
      have := List.length_filter_le (memB cf.2) (l.take j)
      rw [List.length_take] at this
      omega
    by_cases hj5 : j < l.length
    rotate_left
    · obtain rfl : j = l.length := by omega
      rw [List.take_length, hself, ← hof2] at how
      subst how
      repeat' (first | refine go ?_ | intro _ | (apply cG; first | refine cT ?_ | refine cF ?_ | refine cS (fun _ => ?_) fun _ => ?_) | (apply gW; refine sW ?_) | (apply gI; refine sI ?_) | (apply gE; refine sE ?_) | (apply gP; refine sP ?_) | (apply gC; refine sC ?_) | (apply gD; refine sD ?_) | fail)
      refine E_res2d rfl (by rfl) Ev.pf Ev.pf ⟨A2, c2, rfl, rfl⟩ (Sub.trans (B := blk D (.deferred (some [])) :: own 43 ePr (.slice A2 ow.length c2) ow :: cel q [.slice UA U2.length uc, .int .i64 (gs.length : Int), .map (some km), .map (some ks), .slice GA gs.length gc, .int .i64 tot] 64 :: own 3 eI (.slice UA U2.length uc) U2 :: mapx kpr mS km mm :: mapx kpr mI ks sl :: rd eI (.slice GA gs.length gc) gs :: L) Sb (sub_skip (sub_skip hL5)))
    obtain ⟨x, hx⟩ : ∃ x, l[j]? = some x := ⟨_, List.getElem?_eq_getElem (by omega)⟩
    have hax : At l j x := ⟨hx⟩
    have hft := filter_take (f := memB cf.2) hx
    have hg := hl1.2 x
    repeat' (first | refine go ?_ | intro _ | (apply cG; first | refine cT ?_ | refine cF ?_ | refine cS (fun _ => ?_) fun _ => ?_) | (apply gW; refine sW ?_) | (apply gI; refine sI ?_) | (apply gE; refine sE ?_) | (apply gP; refine sP ?_) | (apply gC; refine sC ?_) | (apply gD; refine sD ?_) | fail)
    refine O_s (sv_lookN (K := kin) (R := mBo) (k := x) (.head _) Ev.pf Ev.pf hg) ?_
    by_cases hxl : x ∈ cf.2
    · have hb : memB cf.2 x = true := decide_eq_true hxl
      rw [hb, if_pos rfl] at hft
      rw [if_pos hxl]
      simp only [Option.map_some, Option.getD_some]
      have hmb : mBo.val true = .bool true := rfl
      rw [hmb]
      repeat' (first | refine go ?_ | intro _ | (apply cG; first | refine cT ?_ | refine cF ?_ | refine cS (fun _ => ?_) fun _ => ?_) | (apply gW; refine sW ?_) | (apply gI; refine sI ?_) | (apply gE; refine sE ?_) | (apply gP; refine sP ?_) | (apply gC; refine sC ?_) | (apply gD; refine sD ?_) | fail)
      refine O_d (dy_lit1 (R := ePr) ((-1, x) : Int × Int) (hcs := by rfl) (hel := fun _ _ _ => by rfl)) ?_; rintro _ _ ⟨_, rfl, rfl⟩; refine O_n ?_
      repeat' (first | refine go ?_ | intro _ | (apply cG; first | refine cT ?_ | refine cF ?_ | refine cS (fun _ => ?_) fun _ => ?_) | (apply gW; refine sW ?_) | (apply gI; refine sI ?_) | (apply gE; refine sE ?_) | (apply gP; refine sP ?_) | (apply gC; refine sC ?_) | (apply gD; refine sD ?_) | fail)
      rename_i A7 c7
      exact E_round (j + 1, A7, c7, ow ++ [(-1, x)]) ⟨hj5, by dsimp only; rw [hft, List.map_append, ← List.append_assoc, ← how]; rfl⟩ (by dsimp only; omega) ⟨rfl, trivial⟩ (by dsimp only; rw [List.length_append]; exact Sb)
    · have hb : memB cf.2 x = false := decide_eq_false hxl
      rw [hb, if_neg (by decide), List.append_nil] at hft
      rw [if_neg hxl]
      simp only [Option.map_none, Option.getD_none]
      repeat' (first | refine go ?_ | intro _ | (apply cG; first | refine cT ?_ | refine cF ?_ | refine cS (fun _ => ?_) fun _ => ?_) | (apply gW; refine sW ?_) | (apply gI; refine sI ?_) | (apply gE; refine sE ?_) | (apply gP; refine sP ?_) | (apply gC; refine sC ?_) | (apply gD; refine sD ?_) | fail)
      exact E_round (j + 1, A2, c2, ow) ⟨hj5, by dsimp only; rw [hft]; exact how⟩ (by dsimp only; omega) ⟨rfl, trivial⟩ Sb
end
end Go.Proofs.Ytlmabajgnjiigaa
