/-
  The reference's disk: the walk of Crash.
-/
import Derived.Test.YtbjaecofccpahaaGreatMZA
import Derived.Test.YtbjaecofccpahaaGreatMZB
namespace Go.Proofs.YtbjaecofccpahaaGreat
open Go Go.RowKit
set_option linter.unusedVariables false
set_option linter.unusedSimpArgs false
set_option maxRecDepth 20000
set_option synthInstance.maxSize 100000
set_option synthInstance.maxHeartbeats 400000
abbrev CB.r (x : CB) : RBy := ⟨x.A, x.c, x.b⟩
theorem manyL_snoc : ∀ (l : List (Nat × List UInt8)) (p : Nat × List UInt8), manyL (l ++ [p]) = manyL l + (p.2.length - p.1)
  | [], (D, b) => by show (b.length - D) + 0 = 0 + (b.length - D); omega
  | (D', b') :: l, p => by
    show (b'.length - D') + manyL (l ++ [p]) = (b'.length - D') + manyL l + _
    rw [manyL_snoc]
    omega
/-- the loose bytes of the first files -/
def cntC (bs : List CB) (i : Nat) : Nat := manyL ((bs.take i).map prC)
theorem cntC_succ {bs : List CB} {i : Nat} {x : CB} (h : bs[i]? = some x) : cntC bs (i + 1) = cntC bs i + (x.b.length - x.D) := by
  unfold cntC
  rw [List.take_add_one, h, List.map_append]
  exact manyL_snoc _ (prC x)
theorem cntC_mono {bs : List CB} : ∀ {i j : Nat}, i ≤ j → cntC bs i ≤ cntC bs j
  | i, j, h => by
    induction j with
    | zero => rw [Nat.le_zero.1 h]; exact Nat.le_refl _
    | succ j ih =>
      by_cases e : i = j + 1
      · rw [e]; exact Nat.le_refl _
      · refine Nat.le_trans (ih (by omega)) ?_
        cases hx : bs[j]? with
        | none =>
          unfold cntC
          rw [List.take_add_one, hx]
          simp
        | some x => rw [cntC_succ hx]; omega
theorem cntC_all (bs : List CB) : cntC bs bs.length = manyL (bs.map prC) := by unfold cntC; rw [List.take_length]
theorem turnL_cnt : ∀ {bs : List CB} {at_ : Nat}, (∀ x ∈ bs, x.b.length = x.D + x.m) → at_ < 8 * manyL (bs.map prC) →
    ∃ j x o, bs[j]? = some x ∧ o < x.m ∧ cntC bs j + o = at_ / 8 ∧
      turnL at_ (bs.map prC) = (bs.map fun x => x.b).set j (x.b.set (x.D + o) (fl8 (x.b.getD (x.D + o) 0) (7 - at_ % 8)))
  | [], at_, _, h => by simp [manyL] at h
  | x :: bs, at_, hb, h => by
    have h2 := hb x (.head _)
    have hm : manyL ((x :: bs).map prC) = (x.b.length - x.D) + manyL (bs.map prC) := rfl
    rw [hm] at h
    have htl : turnL at_ ((x :: bs).map prC) = if at_ < 8 * (x.b.length - x.D) then turn1 x.D x.b at_ :: (bs.map prC).map Prod.snd else x.b :: turnL (at_ - 8 * (x.b.length - x.D)) (bs.map prC) := rfl
    by_cases hlt : at_ < 8 * (x.b.length - x.D)
    · refine ⟨0, x, at_ / 8, rfl, by omega, by show 0 + _ = _; omega, ?_⟩
      rw [htl, if_pos hlt]
      show turn1 x.D x.b at_ :: (bs.map prC).map Prod.snd = _ :: (bs.map fun x => x.b)
      rw [List.map_map]
      rfl
    · obtain ⟨j, y, o, hy, ho, hc, ht⟩ := turnL_cnt (bs := bs) (at_ := at_ - 8 * (x.b.length - x.D)) (fun y hy => hb y (.tail _ hy)) (by omega)
      have e9 : (at_ - 8 * (x.b.length - x.D)) % 8 = at_ % 8 := by omega
      rw [e9] at ht
      refine ⟨j + 1, y, o, hy, ho, ?_, ?_⟩
      · have : cntC (x :: bs) (j + 1) = (x.b.length - x.D) + cntC bs j := rfl
        omega
      · rw [htl, if_neg hlt, ht]
        rfl
theorem setYs_nil {α : Type} (B : List α) : setYs [] [] B = B := by unfold setYs; rfl
theorem set_same {α : Type} {l : List α} {j : Nat} {a : α} (h : l[j]? = some a) : l.set j a = l := by
  refine List.ext_getElem? fun k => ?_
  by_cases e : j = k
  · subst e
    rw [List.getElem?_set_self (List.getElem?_eq_some_iff.1 h).1, h]
  · rw [List.getElem?_set_ne e]
theorem loose_le : ∀ {bs : List CB} {N : Nat}, (∀ x ∈ bs, x.b.length ≤ N) → manyL (bs.map prC) ≤ N * bs.length
  | [], _, _ => Nat.zero_le _
  | x :: bs, N, h => by
    have h1 := loose_le (bs := bs) (N := N) fun y hy => h y (.tail _ hy)
    have h2 := h x (.head _)
    show (x.b.length - x.D) + manyL (bs.map prC) ≤ N * (bs.length + 1)
    rw [Nat.mul_succ]
    omega
def fRBy : RBy → Value := fun x => .slice x.A x.b.length x.c
section
variable {W0 : World} {L : List HP}
theorem sub_ownR {T : TypeId} {v : Value} {l l' : List RBy} (h : l.map fRBy = l'.map fRBy) : Sub (own T eRBy v l :: L) (own T eRBy v l' :: L) := by
  have hl : l.length = l'.length := by rw [← List.length_map (f := fRBy), h, List.length_map]
  rintro m hp ⟨a, b, d, ka, kb, ⟨css, ha, hd⟩, hL⟩
  refine ⟨a, b, d, ka, kb, ?_, hL⟩
  have e1 := all2_e1.1 ha
  have e2 : css = l'.map fun x => [fRBy x] := by
    rw [e1]
    have := congrArg (List.map fun v : Value => [v]) h
    rw [List.map_map, List.map_map] at this
    exact this
  refine ⟨css, all2_e1.2 e2, ?_⟩
  rcases hd with ⟨rfl, e⟩ | ⟨g, cap, cur, hv, hg, hc, hcm, hcs, ht⟩
  · exact .inl ⟨rfl, by rw [e] at hl; exact List.length_eq_zero_iff.1 hl.symm⟩
  · exact .inr ⟨g, cap, cur, by rw [hv, hl], hg, by omega, hcm, hcs, by rw [← hl]; exact ht⟩
theorem sub_imRY {ys : List Int} {bs : List CB} {Bs : List RBy} (h1 : imR Bs ∈ L) (h2 : imC bs ∈ L) : Sub L (imR (setYs ys (bs.map CB.r) Bs) :: L) := fun m h s => by
  obtain ⟨y1, hy1, k1⟩ := s.mem h1
  obtain ⟨y2, hy2, k2⟩ := s.mem h2
  refine ⟨Hp.none, h, Hp.none_dj _, Hp.none_le _, Hp.le_refl _, fun x hx => ?_, s⟩
  rcases setYs_mem hx with hx | hx
  · obtain ⟨z, hz, rfl⟩ := List.mem_map.1 hx
    exact k2 z hz
  · exact k1 x hx
theorem sub_imCset {bs : List CB} {j : Nat} {x : CB} (h1 : imC (bs.eraseIdx j) ∈ L) (h2 : rd eB (.slice x.A x.b.length x.c) x.b ∈ L) : Sub L (imC (bs.set j x) :: L) := fun m h s => by
  obtain ⟨y1, hy1, k1⟩ := s.mem h1
  have hr := rd_mem s h2
  refine ⟨Hp.none, h, Hp.none_dj _, Hp.none_le _, Hp.le_refl _, fun z hz => ?_, s⟩
  rcases mem_setC hz with rfl | hz
  · exact hr
  · exact k1 z hz
theorem C_frzC {P : Program} {L' : List HP} {c : Code} {a : Act} {Q : Exit → Act → World → Prop} (i : Nat) {bs : List CB} (k : CL P W0 L' c Q a) (h : L[i]? = some (sp (bs.map owC))) (hL : L.set i (imC bs) = L' := by exact SAt.pf) : CL P W0 L c Q a := by
  subst hL
  refine ⟨fun w s => k.run w ?_⟩
  exact (((s.at_ h).freeze (R := ⟨fun m => ∀ x ∈ bs, Sl m eB (.slice x.A x.b.length x.c) x.b, fun hm h x hx => (h x hx).mono hm⟩) fun m h d k => owC_sl (Hp.le_or_left m h) (Hp.le_or_right d) k)).back h
set_option maxHeartbeats 8000000 in
theorem rCrash_ct {r : Nat} {K : RK} {z : Int} {kv : Value} {kp : List Int} (hk : KOk K) (hkv : rd eI kv kp ∈ L) (hkl : kp.length ≤ 1000000000) (hkr : ∀ x ∈ kp, -9223372036854775808 ≤ x ∧ x ≤ 9223372036854775807) (hz1 : -9223372036854775808 ≤ z) (hz2 : z ≤ 9223372036854775807) :
    CT Tryz.prog 12 #[.pointer (some ⟨r, 0, none⟩), kv, .int .i64 z] W0 (rdk r K :: L) fun q L' => q = .tuple #[] ∧ L' = rdk r (crashR K kp z) :: L := by
  refine CT_fact (fun w s => ((Src.sl (.inl (.tail _ hkv)) s).form)) ?_
  rintro ⟨Ak, ck, rfl, hck⟩
  refine CT_sub3 (sub_dup (.tail _ hkv)) ?_
  refine CT_sub3 (S := rdk r K :: rd eI (.slice Ak kp.length ck) kp :: L) Sb ?_
  refine rdk_ctx fun ab af Bs h1 h2 h3 => ?_
  have hu := hk.u
  have hBl := hk.Bl
  have hfr := hk.fr
  obtain ⟨ys, hys⟩ : ∃ ys, filesB K.B 64 = ys := ⟨_, rfl⟩
  have hyl : ys.length ≤ 64 := by rw [← hys]; exact filesB_len _ _
  have hyr : ∀ y ∈ ys, 0 ≤ y ∧ y < 64 := fun y hy => by
    rw [← hys] at hy
    have := filesB_mem.1 hy
    exact ⟨this.1, this.2.1⟩
  have hnd : ys.Nodup := by
    rw [← hys]
    exact (filesB_sorted K.B 64).imp fun h => by omega
  have hcrash : crashR K kp z = ⟨K.room, setYs ys (crRL kp z K) K.B, (setYs ys (crRL kp z K) K.B).map fun b => (b.length : Int), false, -1⟩ := by unfold crashR; rw [hys]
  have hcrl : crRL kp z K = turnL (atZ z (manyL (keptRL kp K ys ys.length))) (keptRL kp K ys ys.length) := by unfold crRL; rw [hys]
  have hFo := rFiles_o (W0 := W0) (L := rd eI (.slice Ak kp.length ck) kp :: L) (r := r) (ab := ab) (af := af) h1 h2
  rw [hys] at hFo
  rw [hcrash]
  obtain ⟨room, B, F, off, plan⟩ := K
  dsimp only at h1 h3 hu hBl hfr hFo ⊢
  refine CT_enter Tryz.func12 rfl ?_; (simp only [Tryz.ntmps12, List.size_toArray, List.length_cons, List.length_nil, Nat.reduceAdd, Nat.reduceSub, Array.replicate_succ, Array.replicate_zero, List.push_toArray, List.append_toArray, List.nil_append, List.cons_append])
  repeat' (first | refine go ?_ | intro _ | (apply cG; first | refine cT ?_ | refine cF ?_ | refine cS (fun _ => ?_) fun _ => ?_) | (apply gW; refine sW ?_) | (apply gI; refine sI ?_) | (apply gE; refine sE ?_) | (apply gP; refine sP ?_) | (apply gC; refine sC ?_) | (apply gD; refine sD ?_) | fail)
  refine O_d (dy_call ArgsI.pf (by first | exact rfl | trivial | (intro a b; rfl)) hFo) ?_; rintro _ _ ⟨_, ⟨A1, c1, rfl, rfl⟩, rfl⟩; refine O_n ?_
  repeat' (first | refine go ?_ | intro _ | (apply cG; first | refine cT ?_ | refine cF ?_ | refine cS (fun _ => ?_) fun _ => ?_) | (apply gW; refine sW ?_) | (apply gI; refine sI ?_) | (apply gE; refine sE ?_) | (apply gP; refine sP ?_) | (apply gC; refine sC ?_) | (apply gD; refine sD ?_) | fail)
  refine C_sub (S := own 3 eI (.slice A1 ys.length c1) ys :: cel r [.int .i64 room, .slice (some ab) 64 64, .slice (some af) 64 64, .bool off, .int .i64 plan] 50 :: own 39 eRBy (.slice (some ab) 64 64) Bs :: own 3 eI (.slice (some af) 64 64) F :: sp [] :: imR Bs :: rd eI (.slice Ak kp.length ck) kp :: L) (Sub.trans sub_spnil Sb) ?_
  refine C_loopS (κ := Nat × List CB) [false, false, false, false, false, false, false, true, true, true, true, true, false, false, false, false, false, false, false, true, true, true, true, true, true, true, true, true, true, true, true, true, true, true, true, true, true, true, true, true, true, true, true, true, true, true, true, true, true, true, true, true, true, true, true, true, true, true, true, true, true, true, true, true, true, true, true, true, true, true, true, true, true, true, true, true, true, true, true, true, true, true, true, false, false, false, false, false, false, false, false, false, false, false, false, false, false, false, false, false, false, false, false, false, false, false, false, false, false, false, false, false, false, false, false, false, false, false, false, false, false, false, false, false, false, false, false, false, false, false, false, false, false, false, false, false, false, false, false, false, false, false, false, false, false, false, false, false, false, false, false, false, false, false, false, false, false, false, false, false, false, false, false, false, false, false, false, false, false, false, false, false, false, false, false, false, false, false] (fun k => [(7, .int .i64 ((manyL (k.2.map prC) : Nat) : Int)), (8, .int .i64 (k.1 : Int))]) (fun k => [(2, own 39 eRBy (.slice (some ab) 64 64) (setYs (ys.take k.1) (k.2.map CB.r) Bs)), (4, sp (k.2.map owC))]) (fun k => k.1 ≤ ys.length ∧ k.2.length = k.1 ∧ k.2.map prC = keptRL kp ⟨room, B, F, off, plan⟩ ys k.1 ∧ (∀ x ∈ k.2, x.b.length = x.D + x.m ∧ x.b.length ≤ 16777216)) (fun k => ys.length - k.1) (0, []) ⟨Nat.zero_le _, rfl, rfl, (fun x hx => by cases hx)⟩ ⟨rfl, rfl, trivial⟩ ?_ (by rw [List.take_zero, show ([] : List CB).map CB.r = [] from rfl, setYs_nil]; exact Sb)
  rintro ⟨i, bs⟩ u ⟨hi, hbl, hbk, hbm⟩
  dsimp only at hi hbl hbk hbm
  dsimp only
  have hml := loose_le (N := 16777216) fun x hx => (hbm x hx).2
  ((try dsimp only); refine C_n ?_; (try simp only [Nat.reduceAdd, Nat.zero_add]))
  obtain ⟨R, hR⟩ : ∃ R, setYs (ys.take i) (bs.map CB.r) Bs = R := ⟨_, rfl⟩
  have hRl : R.length = 64 := by rw [← hR, setYs_len]; exact h2
  rw [hR]
  by_cases hlt : i < ys.length
  · obtain ⟨y, hy⟩ : ∃ y, ys[i]? = some y := ⟨_, List.getElem?_eq_getElem hlt⟩
    have hyy := hyr y (List.mem_of_getElem? hy)
    obtain ⟨j, rfl⟩ : ∃ j : Nat, y = j := ⟨y.toNat, by omega⟩
    have hay : At ys i (j : Int) := ⟨hy⟩
    have hyt : (j : Int) ∉ ys.take i := fun h => by
      obtain ⟨q, hq, e⟩ := List.getElem_of_mem h
      rw [List.length_take] at hq
      rw [List.getElem_take] at e
      have h1 : ys[q]? = some (j : Int) := by rw [List.getElem?_eq_getElem (by omega), e]
      have := (List.getElem?_inj (by omega) hnd).1 (h1.trans hy.symm)
      omega
    obtain ⟨x, hx⟩ : ∃ x, Bs[j]? = some x := ⟨_, List.getElem?_eq_getElem (by omega)⟩
    have hRx : R[j]? = some x := by rw [← hR, setYs_ne (fun y hy => (hyr y (List.mem_of_mem_take hy)).1) hyt]; exact hx
    have haR : At R j x := ⟨hRx⟩
    have hBx := map_at h1 hx
    have hxu := usedB_at hBx
    obtain ⟨fd, hfd⟩ : ∃ fd, F[j]? = some fd := ⟨_, List.getElem?_eq_getElem (by omega)⟩
    have hfj := hfr j (by omega)
    have hFd : F.getD j 0 = fd := by rw [List.getD_eq_getElem?_getD, hfd]; rfl
    have hBd : B.getD j [] = x.b := by rw [List.getD_eq_getElem?_getD, hBx]; rfl
    rw [hFd, hBd] at hfj
    obtain ⟨D, rfl⟩ : ∃ D : Nat, fd = (D : Int) := ⟨fd.toNat, by omega⟩
    have haF : At F j (D : Int) := ⟨hfd⟩
    have hDl : D ≤ x.b.length := by omega
    obtain ⟨m, hm⟩ : ∃ m, keepN kp i x.b.length D = m := ⟨_, rfl⟩
    have hmD := keepN_le kp i x.b.length D hDl
    rw [hm] at hmD
    obtain ⟨b1, hb1⟩ : ∃ b1, x.b.take (D + m) = b1 := ⟨_, rfl⟩
    have hb1l : b1.length = D + m := by rw [← hb1, List.length_take]; omega
    have hkept : keptR kp ⟨room, B, F, off, plan⟩ i (ys.getD i 0) = (D, b1) := by
      rw [List.getD_eq_getElem?_getD, hy]
      show ((F.getD (j : Int).toNat 0).toNat, (B.getD (j : Int).toNat []).take ((F.getD (j : Int).toNat 0).toNat + keepN kp i (B.getD (j : Int).toNat []).length (F.getD (j : Int).toNat 0).toNat)) = _
      rw [Int.toNat_natCast, hFd, hBd, Int.toNat_natCast, hm, hb1]
    refine C_sub (Sub.trans (sub_imR (j := j) (x := x) (by repeat (first | exact .head _ | refine .tail _ ?_)) hx) (rd_cut (N := D + m) (.head _) hmD)) ?_
    refine C_fact (φ := ∃ c0, x.c = c0 ∧ x.b.length ≤ c0) (fun w s => by obtain ⟨A', c', e, h⟩ := (Src.sl (.inl (.tail _ (.head _))) s : Sl _ eB _ x.b).form; injection e with _ _ e3; exact ⟨_, rfl, by rw [e3]; exact h⟩) ?_
    rintro ⟨c0, hc0, hc1⟩
    rw [← hc0] at hc1
    rw [hb1]
    refine C_sub (S := own 3 eI (.slice A1 ys.length c1) ys :: cel r [.int .i64 room, .slice (some ab) 64 64, .slice (some af) 64 64, .bool off, .int .i64 plan] 50 :: own 39 eRBy (.slice (some ab) 64 64) R :: own 3 eI (.slice (some af) 64 64) F :: sp (bs.map owC) :: imR Bs :: rd eI (.slice Ak kp.length ck) kp :: rd eB (.slice x.A (D + m) x.c) b1 :: L) Sb ?_
    repeat' (first | ((fail_if_success apply AtE); refine go ?_) | intro _ | (apply cG; first | refine cT ?_ | refine cF ?_ | refine cS (fun _ => ?_) fun _ => ?_) | (apply gW; refine sW ?_) | (apply gI; refine sI ?_) | (apply gE; refine sE ?_) | (apply gP; refine sP ?_) | (apply gC; refine sC ?_) | (apply gD; refine sD ?_) | fail)
    refine go ?_
    repeat' (first | ((fail_if_success apply AtE); refine go ?_) | intro _ | (apply cG; first | refine cT ?_ | refine cF ?_ | refine cS (fun _ => ?_) fun _ => ?_) | (apply gW; refine sW ?_) | (apply gI; refine sI ?_) | (apply gE; refine sE ?_) | (apply gP; refine sP ?_) | (apply gC; refine sC ?_) | (apply gD; refine sD ?_) | fail)
    refine go ?_
    repeat' (first | ((fail_if_success apply AtE); refine go ?_) | intro _ | (apply cG; first | refine cT ?_ | refine cF ?_ | refine cS (fun _ => ?_) fun _ => ?_) | (apply gW; refine sW ?_) | (apply gI; refine sI ?_) | (apply gE; refine sE ?_) | (apply gP; refine sP ?_) | (apply gC; refine sC ?_) | (apply gD; refine sD ?_) | fail)
    refine go ?_
    repeat' (first | ((fail_if_success apply AtE); refine go ?_) | intro _ | (apply cG; first | refine cT ?_ | refine cF ?_ | refine cS (fun _ => ?_) fun _ => ?_) | (apply gW; refine sW ?_) | (apply gI; refine sI ?_) | (apply gE; refine sE ?_) | (apply gP; refine sP ?_) | (apply gC; refine sC ?_) | (apply gD; refine sD ?_) | fail)
    refine go ?_; refine go ?_; refine C_join (κ := Unit) [false, false, false, false, false, false, false, false, false, false, true, false, false, false, false, false, false, false, false, false, false, false, false, false, false, false, false, false, false, true, true, true, true, true, true, true, true, true, true, true, true, true, true, true, true, true, true, true, true, true, true, true, true, true, true, false, false, false, false, false, false, false, false, false, false, false, false, false, false, false, false, false, false, false, false, false, false, false, false, false, false, false, false, false, false, false, false, false, false, false, false, false, false, false, false, false, false, false, false, false, false, false, false, false, false, false, false, false, false, false, false, false, false, false, false, false, false, false, false, false, false, false, false, false, false, false, false, false, false, false, false, false, false, false, false, false, false, false, false, false, false, false, false, false, false, false, false, false, false, false, false, false, false, false, false, false, false, false, false, false, false, false, false, false, false, false, false, false, false, false, false, false, false, false, false, false, false, false] (fun k => [(10, .int .i64 (m : Int))]) (fun k => []) (fun k => True) ?_ ?_
    · cases hkp : kp[i]? with
      | none =>
        have hm0 : m = 0 := by rw [← hm]; unfold keepN; rw [hkp]
        have hkl0 : kp.length ≤ i := by rwa [List.getElem?_eq_none_iff] at hkp
        subst hm0
        repeat' (first | refine go ?_ | intro _ | (apply cG; first | refine cT ?_ | refine cF ?_ | refine cS (fun _ => ?_) fun _ => ?_) | (apply gW; refine sW ?_) | (apply gI; refine sI ?_) | (apply gE; refine sE ?_) | (apply gP; refine sP ?_) | (apply gC; refine sC ?_) | (apply gD; refine sD ?_) | fail)
        exact E_join () trivial ⟨rfl, trivial⟩ Sb
      | some q =>
        have hxr := hkr q (List.mem_of_getElem? hkp)
        have hax : At kp i q := ⟨hkp⟩
        have hkl0 := (List.getElem?_eq_some_iff.1 hkp).1
        have hm0 : (max 0 (min q ((x.b.length : Int) - (D : Int)))).toNat = m := by rw [← hm]; unfold keepN; rw [hkp]
        repeat' (first | refine go ?_ | intro _ | (apply cG; first | refine cT ?_ | refine cF ?_ | refine cS (fun _ => ?_) fun _ => ?_) | (apply gW; refine sW ?_) | (apply gI; refine sI ?_) | (apply gE; refine sE ?_) | (apply gP; refine sP ?_) | (apply gC; refine sC ?_) | (apply gD; refine sD ?_) | fail)
        refine C_draw (n := 99) [cel r [.int .i64 room, .slice (some ab) 64 64, .slice (some af) 64 64, .bool off, .int .i64 plan] 50, own 39 eRBy (.slice (some ab) 64 64) R, own 3 eI (.slice (some af) 64 64) F, rd eI (.slice Ak kp.length ck) kp] [(0, 1), (1, 1), (2, 1), (3, 1), (4, 1), (5, 1), (6, 1), (7, 1), (8, 1), (9, 1), (10, 1), (11, 1), (12, 1), (13, 1), (14, 1), (15, 1), (16, 1), (17, 1), (18, 1), (19, 1), (20, 1), (21, 1), (22, 1)] (by kernel_rfl) (by kernel_rfl) Sb ?_
        obtain ⟨mi, hmi⟩ : ∃ mi : Int, min q ((x.b.length : Int) - (D : Int)) = mi := ⟨_, rfl⟩
        rw [hmi] at hm0
        have hmin : (if ((x.b.length : Int) - (D : Int)) < q then ((x.b.length : Int) - (D : Int)) else q) = mi := by split <;> omega
        have hmax : (if (0 : Int) < mi then mi else 0) = (m : Int) := by split <;> omega
        repeat' (first | refine go ?_ | intro _ | (apply cG; first | refine cT ?_ | refine cF ?_ | refine cS (fun _ => ?_) fun _ => ?_) | (apply gI; refine sI ?_) | (apply gE; refine sE ?_) | (apply gP; refine sP ?_) | (apply gC; refine sC ?_) | (apply gD; refine sD ?_) | fail)
        apply gW; refine sW (r := (x.b.length : Int) - (D : Int)) ?_ (wr_i64 (by omega) (by omega))
        repeat' (first | refine go ?_ | intro _ | (apply cG; first | refine cT ?_ | refine cF ?_ | refine cS (fun _ => ?_) fun _ => ?_) | (apply gI; refine sI ?_) | (apply gE; refine sE ?_) | (apply gP; refine sP ?_) | (apply gC; refine sC ?_) | (apply gD; refine sD ?_) | fail)
        apply gW; refine sW (r := mi) ?_ hmin
        repeat' (first | refine go ?_ | intro _ | (apply cG; first | refine cT ?_ | refine cF ?_ | refine cS (fun _ => ?_) fun _ => ?_) | (apply gI; refine sI ?_) | (apply gE; refine sE ?_) | (apply gP; refine sP ?_) | (apply gC; refine sC ?_) | (apply gD; refine sD ?_) | fail)
        apply gW; refine sW (r := (m : Int)) ?_ hmax
        repeat' (first | refine go ?_ | intro _ | (apply cG; first | refine cT ?_ | refine cF ?_ | refine cS (fun _ => ?_) fun _ => ?_) | (apply gW; refine sW ?_) | (apply gI; refine sI ?_) | (apply gE; refine sE ?_) | (apply gP; refine sP ?_) | (apply gC; refine sC ?_) | (apply gD; refine sD ?_) | fail)
        exact E_join () trivial ⟨rfl, trivial⟩ Sb
    rintro ⟨⟩ u2 _
    ((try dsimp only); refine C_n ?_; (try simp only [Nat.reduceAdd, Nat.zero_add]))
    repeat' (first | refine go ?_ | intro _ | (apply cG; first | refine cT ?_ | refine cF ?_ | refine cS (fun _ => ?_) fun _ => ?_) | (apply gW; refine sW ?_) | (apply gI; refine sI ?_) | (apply gE; refine sE ?_) | (apply gP; refine sP ?_) | (apply gC; refine sC ?_) | (apply gD; refine sD ?_) | fail)
    refine C_ownnil 5 eB ?_
    refine C_draw (n := 25) [cel r [.int .i64 room, .slice (some ab) 64 64, .slice (some af) 64 64, .bool off, .int .i64 plan] 50, own 39 eRBy (.slice (some ab) 64 64) R, own 3 eI (.slice (some af) 64 64) F] [(0, 1), (1, 1), (2, 1), (3, 1), (4, 1), (5, 1), (6, 1), (7, 1), (8, 1), (9, 1), (10, 1), (11, 1), (12, 1), (13, 1), (14, 1), (15, 1), (16, 1), (17, 1), (18, 1), (19, 1), (20, 1), (21, 1), (22, 1), (23, 0), (24, 1), (25, 0)] (by kernel_rfl) (by kernel_rfl) Sb ?_
    repeat' (first | refine go ?_ | intro _ | (apply cG; first | refine cT ?_ | refine cF ?_ | refine cS (fun _ => ?_) fun _ => ?_) | (apply gW; refine sW ?_) | (apply gI; refine sI ?_) | (apply gE; refine sE ?_) | (apply gP; refine sP ?_) | (apply gC; refine sC ?_) | (apply gD; refine sD ?_) | fail)
    rw [← Int.natCast_add]
    refine D_op rfl ?_; refine X_s (sv_slice (l' := 0) (h' := D + m) (l := 0) (h := D + m)) ?_
    rw [cutA0, Nat.sub_zero]
    repeat' (first | refine go ?_ | intro _ | (apply cG; first | refine cT ?_ | refine cF ?_ | refine cS (fun _ => ?_) fun _ => ?_) | (apply gW; refine sW ?_) | (apply gI; refine sI ?_) | (apply gE; refine sE ?_) | (apply gP; refine sP ?_) | (apply gC; refine sC ?_) | (apply gD; refine sD ?_) | fail)
    rename_i A2 c2
    rw [List.nil_append]
    refine D_op rfl ?_; refine X_d (dy_storeE (f := fun x : RBy => .slice x.A x.b.length x.c) (hf := fun _ => rfl) (j := j) (n := 64) (c := 64) ⟨A2, c2, b1⟩ (hy := by rfl) (hj := by omega)) ?_; rintro _ _ ⟨rfl, hLL⟩; replace hLL := hLL.trans SAt.pf; subst hLL; refine ⟨(by first | exact .inl rfl | exact .inr Sb), D_n ?_⟩
    have hbsl : (bs ++ [(⟨A2, c2, b1, D, m⟩ : CB)]).map prC = bs.map prC ++ [(D, b1)] := by rw [List.map_append]; rfl
    have hmn : manyL ((bs ++ [(⟨A2, c2, b1, D, m⟩ : CB)]).map prC) = manyL (bs.map prC) + m := by rw [hbsl, manyL_snoc]; dsimp only; omega
    have htk : ys.take (i + 1) = ys.take i ++ [(j : Int)] := by rw [List.take_add_one, hy]; rfl
    have hRn : setYs (ys.take (i + 1)) ((bs ++ [(⟨A2, c2, b1, D, m⟩ : CB)]).map CB.r) Bs = R.set j ⟨A2, c2, b1⟩ := by
      rw [htk, List.map_append]
      show setYs _ (bs.map CB.r ++ [⟨A2, c2, b1⟩]) Bs = _
      rw [setYs_snoc (by rw [List.length_map, List.length_take]; omega), hR, Int.toNat_natCast]
    have hsl : i + 1 ≤ ys.length := hlt
    have hml2 : manyL (bs.map prC) ≤ 16777216 * 64 := by
      have : 16777216 * bs.length ≤ 16777216 * 64 := Nat.mul_le_mul_left _ (by omega)
      omega
    repeat' (first | refine go ?_ | intro _ | (apply cG; first | refine cT ?_ | refine cF ?_ | refine cS (fun _ => ?_) fun _ => ?_) | (apply gW; refine sW ?_) | (apply gI; refine sI ?_) | (apply gE; refine sE ?_) | (apply gP; refine sP ?_) | (apply gC; refine sC ?_) | (apply gD; refine sD ?_) | fail)
    refine E_round (i + 1, bs ++ [⟨A2, c2, b1, D, m⟩]) ⟨hsl, by rw [List.length_append, hbl]; rfl, by rw [hbsl, hbk, keptRL_succ, hkept], fun q hq => ?_⟩ (by dsimp only; omega) ⟨by dsimp only; rw [hmn]; rfl, rfl, trivial⟩ ?_
    · rcases List.mem_append.1 hq with hq | hq
      · exact hbm q hq
      · rw [List.mem_singleton.1 hq]
        exact ⟨hb1l, by show b1.length ≤ _; omega⟩
    · dsimp only
      rw [hRn, List.map_append]
      refine Sub.trans (B := own 5 eB (.slice A2 b1.length c2) b1 :: sp (bs.map owC) :: own 3 eI (.slice A1 ys.length c1) ys :: cel r [.int .i64 room, .slice (some ab) 64 64, .slice (some af) 64 64, .bool off, .int .i64 plan] 50 :: own 39 eRBy (.slice (some ab) 64 64) (R.set j ⟨A2, c2, b1⟩) :: own 3 eI (.slice (some af) 64 64) F :: imR Bs :: rd eI (.slice Ak kp.length ck) kp :: L) Sb (Sub.trans (B := sp (bs.map owC ++ [own 5 eB (.slice A2 b1.length c2) b1]) :: own 3 eI (.slice A1 ys.length c1) ys :: cel r [.int .i64 room, .slice (some ab) 64 64, .slice (some af) 64 64, .bool off, .int .i64 plan] 50 :: own 39 eRBy (.slice (some ab) 64 64) (R.set j ⟨A2, c2, b1⟩) :: own 3 eI (.slice (some af) 64 64) F :: imR Bs :: rd eI (.slice Ak kp.length ck) kp :: L) sub_spsnoc ?_)
      exact Sb
  obtain rfl : i = ys.length := by omega
  rw [List.take_length] at hR
  obtain ⟨many, hmany⟩ : ∃ many, manyL (bs.map prC) = many := ⟨_, rfl⟩
  have hml2 : many ≤ 16777216 * 64 := by
    have : 16777216 * bs.length ≤ 16777216 * 64 := Nat.mul_le_mul_left _ (by omega)
    omega
  rw [← hbk, hmany] at hcrl
  rw [hmany]
  obtain ⟨a0, ha0⟩ : ∃ a0 : Int, (if 0 ≤ z ∧ 0 < many then (atZ z many : Int) else -1) = a0 := ⟨_, rfl⟩
  have ha1 : -1 ≤ a0 ∧ a0 ≤ 8 * (many : Int) := by
    rw [← ha0]
    split
    · rename_i h
      have := atZ_lt h
      omega
    · omega
  repeat' (first | ((fail_if_success apply AtE); refine go ?_) | intro _ | (apply cG; first | refine cT ?_ | refine cF ?_ | refine cS (fun _ => ?_) fun _ => ?_) | (apply gW; refine sW ?_) | (apply gI; refine sI ?_) | (apply gE; refine sE ?_) | (apply gP; refine sP ?_) | (apply gC; refine sC ?_) | (apply gD; refine sD ?_) | fail)
  refine go ?_
  repeat' (first | ((fail_if_success apply AtE); refine go ?_) | intro _ | (apply cG; first | refine cT ?_ | refine cF ?_ | refine cS (fun _ => ?_) fun _ => ?_) | (apply gW; refine sW ?_) | (apply gI; refine sI ?_) | (apply gE; refine sE ?_) | (apply gP; refine sP ?_) | (apply gC; refine sC ?_) | (apply gD; refine sD ?_) | fail)
  refine go ?_
  repeat' (first | ((fail_if_success apply AtE); refine go ?_) | intro _ | (apply cG; first | refine cT ?_ | refine cF ?_ | refine cS (fun _ => ?_) fun _ => ?_) | (apply gW; refine sW ?_) | (apply gI; refine sI ?_) | (apply gE; refine sE ?_) | (apply gP; refine sP ?_) | (apply gC; refine sC ?_) | (apply gD; refine sD ?_) | fail)
  refine go ?_; refine go ?_; refine C_join (κ := Unit) [false, false, false, false, false, false, false, false, false, false, false, false, true, false, false, false, false, false, false, false, false, false, false, false, false, false, false, false, false, false, false, false, false, false, false, false, false, false, false, false, false, false, false, false, false, false, false, false, false, false, false, false, false, false, false, false, false, false, false, false, false, false, false, false, false, false, false, false, false, false, false, false, false, false, false, false, false, false, false, false, false, false, false, true, true, true, true, true, true, true, true, true, true, false, false, false, false, false, false, false, false, false, false, false, false, false, false, false, false, false, false, false, false, false, false, false, false, false, false, false, false, false, false, false, false, false, false, false, false, false, false, false, false, false, false, false, false, false, false, false, false, false, false, false, false, false, false, false, false, false, false, false, false, false, false, false, false, false, false, false, false, false, false, false, false, false, false, false, false, false, false, false, false, false, false, false, false, false] (fun k => [(12, .int .i64 a0)]) (fun k => []) (fun k => True) ?_ ?_
  · by_cases hz0 : 0 ≤ z
    · by_cases hm0 : 0 < many
      · rw [if_pos ⟨hz0, hm0⟩] at ha0
        have hkz : z % (8 * (many : Int)) = a0 := by
          have h1 := Int.emod_nonneg z (b := 8 * (many : Int)) (by omega)
          rw [← ha0]
          unfold atZ
          rw [if_pos ⟨hz0, hm0⟩]
          push_cast
          omega
        repeat' (first | refine go ?_ | intro _ | (apply cG; first | refine cT ?_ | refine cF ?_ | refine cS (fun _ => ?_) fun _ => ?_) | (apply gI; refine sI ?_) | (apply gE; refine sE ?_) | (apply gP; refine sP ?_) | (apply gC; refine sC ?_) | (apply gD; refine sD ?_) | fail)
        apply gW; refine sW (r := 8 * (many : Int)) ?_ (wr_i64 (by omega) (by omega))
        repeat' (first | refine go ?_ | intro _ | (apply cG; first | refine cT ?_ | refine cF ?_ | refine cS (fun _ => ?_) fun _ => ?_) | (apply gI; refine sI ?_) | (apply gE; refine sE ?_) | (apply gP; refine sP ?_) | (apply gC; refine sC ?_) | (apply gD; refine sD ?_) | fail)
        apply gW; refine sW (r := a0) ?_ ⟨by omega, by rw [wm_nn (by omega)]; exact hkz⟩
        repeat' (first | refine go ?_ | intro _ | (apply cG; first | refine cT ?_ | refine cF ?_ | refine cS (fun _ => ?_) fun _ => ?_) | (apply gW; refine sW ?_) | (apply gI; refine sI ?_) | (apply gE; refine sE ?_) | (apply gP; refine sP ?_) | (apply gC; refine sC ?_) | (apply gD; refine sD ?_) | fail)
        exact E_join () trivial ⟨rfl, trivial⟩ Sb
      · rw [if_neg (fun h => hm0 h.2)] at ha0
        subst ha0
        repeat' (first | refine go ?_ | intro _ | (apply cG; first | refine cT ?_ | refine cF ?_ | refine cS (fun _ => ?_) fun _ => ?_) | (apply gW; refine sW ?_) | (apply gI; refine sI ?_) | (apply gE; refine sE ?_) | (apply gP; refine sP ?_) | (apply gC; refine sC ?_) | (apply gD; refine sD ?_) | fail)
        exact E_join () trivial ⟨rfl, trivial⟩ Sb
    · rw [if_neg (fun h => hz0 h.1)] at ha0
      subst ha0
      repeat' (first | refine go ?_ | intro _ | (apply cG; first | refine cT ?_ | refine cF ?_ | refine cS (fun _ => ?_) fun _ => ?_) | (apply gW; refine sW ?_) | (apply gI; refine sI ?_) | (apply gE; refine sE ?_) | (apply gP; refine sP ?_) | (apply gC; refine sC ?_) | (apply gD; refine sD ?_) | fail)
      exact E_join () trivial ⟨rfl, trivial⟩ Sb
  rintro ⟨⟩ u3 _
  ((try dsimp only); refine C_n ?_; (try simp only [Nat.reduceAdd, Nat.zero_add]))
  repeat' (first | refine go ?_ | intro _ | (apply cG; first | refine cT ?_ | refine cF ?_ | refine cS (fun _ => ?_) fun _ => ?_) | (apply gW; refine sW ?_) | (apply gI; refine sI ?_) | (apply gE; refine sE ?_) | (apply gP; refine sP ?_) | (apply gC; refine sC ?_) | (apply gD; refine sD ?_) | fail)
  have hrow : ∀ (i : Nat) (x : CB), bs[i]? = some x → ∃ (j : Nat) (xr : RBy), ys[i]? = some (j : Int) ∧ j < 64 ∧ R[j]? = some xr ∧ xr = ⟨x.A, x.c, x.b⟩ ∧ F[j]? = some (x.D : Int) := fun i x hxb => by
    have hil := (List.getElem?_eq_some_iff.1 hxb).1
    obtain ⟨y, hy⟩ : ∃ y, ys[i]? = some y := ⟨_, List.getElem?_eq_getElem (by omega)⟩
    have hyy := hyr y (List.mem_of_getElem? hy)
    obtain ⟨j, rfl⟩ : ∃ j : Nat, y = j := ⟨y.toNat, by omega⟩
    refine ⟨j, ⟨x.A, x.c, x.b⟩, hy, by omega, ?_, rfl, ?_⟩
    · have := setYs_at (B := Bs) hnd (fun y hy => ⟨(hyr y hy).1, by have := hyr y hy; omega⟩) hy (show (bs.map CB.r)[i]? = some (CB.r x) by rw [List.getElem?_map, hxb]; rfl)
      rw [Int.toNat_natCast, hR] at this
      exact this
    · have h1 := congrArg (fun q => q[i]?) hbk
      unfold keptRL at h1
      simp only [List.getElem?_map, hxb, List.getElem?_range (show i < ys.length by omega), Option.map_some, Option.some.injEq, List.getD_eq_getElem?_getD, hy, Option.getD_some] at h1
      have h2 : x.D = (F.getD j 0).toNat := by
        have := congrArg Prod.fst h1
        exact this
      have h3 := (hfr j (by omega)).1
      have h4 : F[j]? = some (F.getD j 0) := by
        rw [List.getD_eq_getElem?_getD, List.getElem?_eq_getElem (by omega)]
        rfl
      rw [h4, h2]
      congr 1
      omega
  have hcall := cntC_all bs
  rw [hmany, hbl] at hcall
  by_cases hflip : 0 ≤ z ∧ 0 < many
  rotate_left
  · rw [if_neg hflip] at ha0
    have hnf : bs.map (fun x => x.b) = crRL kp z ⟨room, B, F, off, plan⟩ := by
      rw [hcrl, turnL_none (by unfold atZ; rw [if_neg hflip, hmany]; exact Nat.le_refl _), List.map_map]
      rfl
    refine C_frzC 4 (bs := bs) ?_ rfl
    refine C_sub (S := own 3 eI (.slice A1 ys.length c1) ys :: cel r [.int .i64 room, .slice (some ab) 64 64, .slice (some af) 64 64, .bool off, .int .i64 plan] 50 :: own 39 eRBy (.slice (some ab) 64 64) R :: own 3 eI (.slice (some af) 64 64) F :: imR R :: L) (Sub.trans (sub_imRY (ys := ys) (bs := bs) (Bs := Bs) (by repeat (first | exact .head _ | refine .tail _ ?_)) (by repeat (first | exact .head _ | refine .tail _ ?_))) (by rw [hR]; exact Sb)) ?_
    refine C_loopS (κ := Nat) [false, false, false, false, false, false, false, false, false, false, false, false, true, true, true, true, false, false, false, false, false, false, false, false, false, false, false, false, false, false, false, false, false, false, false, false, false, false, false, false, false, false, false, false, false, false, false, false, false, false, false, false, false, false, false, false, false, false, false, false, false, false, false, false, false, false, false, false, false, false, false, false, false, false, false, false, false, false, false, false, false, false, false, false, false, false, false, false, false, false, false, false, false, true, true, true, true, true, true, true, true, true, true, true, true, true, true, true, true, true, true, true, true, true, true, true, true, true, true, true, true, true, true, true, true, true, true, true, true, true, true, true, true, true, true, true, true, true, true, true, true, true, true, true, true, true, true, true, true, true, true, true, true, true, false, false, false, false, false, false, false, false, false, false, false, false, false, false, false, false, false, false, false, false, false, false, false, false] (fun k => [(12, .int .i64 (a0 - 8 * ((cntC bs k : Nat) : Int))), (13, .int .i64 (k : Int))]) (fun k => []) (fun k => k ≤ ys.length) (fun k => ys.length - k) 0 (Nat.zero_le _) ⟨by show Value.int .i64 a0 = Value.int .i64 (a0 - 8 * 0); rw [Int.mul_zero, Int.sub_zero], rfl, trivial⟩ ?_
    rintro i u4 hi2
    ((try dsimp only); refine C_n ?_; (try simp only [Nat.reduceAdd, Nat.zero_add]))
    by_cases hlt3 : i < ys.length
    · obtain ⟨x, hxb⟩ : ∃ x, bs[i]? = some x := ⟨_, List.getElem?_eq_getElem (by omega)⟩
      obtain ⟨j, xr, hy, hj, hRx, hxr, hFx⟩ := hrow i x hxb
      have hay : At ys i (j : Int) := ⟨hy⟩
      have haR : At R j xr := ⟨hRx⟩
      have hxrl : xr.b.length = x.b.length := by rw [hxr]
      have haF : At F j (x.D : Int) := ⟨hFx⟩
      have hxm := hbm x (List.mem_of_getElem? hxb)
      have hcs := cntC_succ hxb
      have hcm := cntC_mono (bs := bs) (i := i + 1) (j := ys.length) hlt3
      repeat' (first | refine go ?_ | intro _ | (apply cG; first | refine cT ?_ | refine cF ?_ | refine cS (fun _ => ?_) fun _ => ?_) | (apply gW; refine sW ?_) | (apply gI; refine sI ?_) | (apply gE; refine sE ?_) | (apply gP; refine sP ?_) | (apply gC; refine sC ?_) | (apply gD; refine sD ?_) | fail)
      refine C_loopS (κ := Nat) [false, false, false, false, false, false, false, false, false, false, false, false, true, false, false, true, false, false, false, false, false, false, false, false, false, false, false, false, false, false, false, false, false, false, false, false, false, false, false, false, false, false, false, false, false, false, false, false, false, false, false, false, false, false, false, false, false, false, false, false, false, false, false, false, false, false, false, false, false, false, false, false, false, false, false, false, false, false, false, false, false, false, false, false, false, false, false, false, false, false, false, false, false, false, false, false, false, false, false, false, false, false, false, false, false, false, false, false, false, false, true, true, true, true, true, true, true, true, true, true, true, true, true, true, true, true, true, true, true, true, true, true, true, true, true, true, true, true, true, true, true, true, true, true, true, true, true, true, true, true, true, true, true, true, false, false, false, false, false, false, false, false, false, false, false, false, false, false, false, false, false, false, false, false, false, false, false, false] (fun k => [(12, .int .i64 (a0 - 8 * ((cntC bs i + k : Nat) : Int))), (15, .int .i64 ((x.D + k : Nat) : Int))]) (fun k => []) (fun k => k ≤ x.m) (fun k => x.m - k) 0 (Nat.zero_le _) ⟨rfl, rfl, trivial⟩ ?_
      rintro k u5 hk2
      ((try dsimp only); refine C_n ?_; (try simp only [Nat.reduceAdd, Nat.zero_add]))
      by_cases hlt2 : k < x.m
      · have hat : a0 - 8 * ((cntC bs i + k : Nat) : Int) < 0 := by omega
        repeat' (first | refine go ?_ | intro _ | (apply cG; first | refine cT ?_ | refine cF ?_ | refine cS (fun _ => ?_) fun _ => ?_) | (apply gW; refine sW ?_) | (apply gI; refine sI ?_) | (apply gE; refine sE ?_) | (apply gP; refine sP ?_) | (apply gC; refine sC ?_) | (apply gD; refine sD ?_) | fail)
        exact E_round (k + 1) hlt2 (by omega) ⟨congrArg (Value.int .i64) (by omega), rfl, trivial⟩ Sb
      obtain rfl : k = x.m := by omega
      repeat' (first | refine go ?_ | intro _ | (apply cG; first | refine cT ?_ | refine cF ?_ | refine cS (fun _ => ?_) fun _ => ?_) | (apply gW; refine sW ?_) | (apply gI; refine sI ?_) | (apply gE; refine sE ?_) | (apply gP; refine sP ?_) | (apply gC; refine sC ?_) | (apply gD; refine sD ?_) | fail)
      exact E_round (i + 1) hlt3 (by omega) ⟨congrArg (Value.int .i64) (by omega), rfl, trivial⟩ Sb
    obtain rfl : i = ys.length := by omega
    repeat' (first | refine go ?_ | intro _ | (apply cG; first | refine cT ?_ | refine cF ?_ | refine cS (fun _ => ?_) fun _ => ?_) | (apply gW; refine sW ?_) | (apply gI; refine sI ?_) | (apply gE; refine sE ?_) | (apply gP; refine sP ?_) | (apply gC; refine sC ?_) | (apply gD; refine sD ?_) | fail)
    have hRB : R.map (fun y => y.b) = setYs ys (crRL kp z ⟨room, B, F, off, plan⟩) B := by
      rw [← hR, setYs_map, List.map_map, h1, ← hnf]
      rfl
    clear hrow
    obtain ⟨B2, hB2⟩ : ∃ B2, setYs ys (crRL kp z ⟨room, B, F, off, plan⟩) B = B2 := ⟨_, rfl⟩
    rw [hB2] at hRB ⊢
    obtain ⟨G, hG⟩ : ∃ G, (B2.map fun b => (b.length : Int)) = G := ⟨_, rfl⟩
    rw [hG]
    have hGl : G.length = 64 := by rw [← hG, List.length_map, ← hRB, List.length_map]; exact hRl
    refine C_loopS (κ := Nat) [false, false, false, false, false, false, false, false, false, false, false, false, false, false, false, false, true, false, false, false, false, false, false, false, false, false, false, false, false, false, false, false, false, false, false, false, false, false, false, false, false, false, false, false, false, false, false, false, false, false, false, false, false, false, false, false, false, false, false, false, false, false, false, false, false, false, false, false, false, false, false, false, false, false, false, false, false, false, false, false, false, false, false, false, false, false, false, false, false, false, false, false, false, false, false, false, false, false, false, false, false, false, false, false, false, false, false, false, false, false, false, false, false, false, false, false, false, false, false, false, false, false, false, false, false, false, false, false, false, false, false, false, false, false, false, false, false, false, false, false, false, false, false, false, false, false, false, false, false, false, false, false, false, false, true, true, true, true, true, true, true, true, true, true, true, true, true, true, true, true, true, true, false, false, false, false, false, false] (fun k => [(16, .int .i64 (k : Int))]) (fun k => [(3, own 3 eI (.slice (some af) 64 64) (G.take k ++ F.drop k))]) (fun k => k ≤ 64) (fun k => 64 - k) 0 (Nat.zero_le _) ⟨rfl, trivial⟩ ?_ (by simp only [List.take_zero, List.drop_zero, List.nil_append]; exact Sb)
    rintro i u6 hi3
    ((try dsimp only); refine C_n ?_; (try simp only [Nat.reduceAdd, Nat.zero_add]))
    by_cases hlt4 : i < 64
    · obtain ⟨x, hx⟩ : ∃ x, R[i]? = some x := ⟨_, List.getElem?_eq_getElem (by omega)⟩
      have hax : At R i x := ⟨hx⟩
      have hgx : G[i]? = some (x.b.length : Int) := by rw [← hG]; exact lens_at (map_at hRB hx)
      repeat' (first | refine go ?_ | intro _ | (apply cG; first | refine cT ?_ | refine cF ?_ | refine cS (fun _ => ?_) fun _ => ?_) | (apply gW; refine sW ?_) | (apply gI; refine sI ?_) | (apply gE; refine sE ?_) | (apply gP; refine sP ?_) | (apply gC; refine sC ?_) | (apply gD; refine sD ?_) | fail)
      refine C_draw (n := 14) [cel r [.int .i64 room, .slice (some ab) 64 64, .slice (some af) 64 64, .bool off, .int .i64 plan] 50, own 39 eRBy (.slice (some ab) 64 64) R, own 3 eI (.slice (some af) 64 64) (G.take i ++ F.drop i)] [(0, 1), (1, 1), (2, 1), (3, 1), (4, 1), (5, 1), (6, 1), (7, 1), (8, 1), (9, 1), (10, 1), (11, 1), (12, 1), (13, 1), (14, 0)] (by kernel_rfl) (by kernel_rfl) Sb ?_
      repeat' (first | refine go ?_ | intro _ | (apply cG; first | refine cT ?_ | refine cF ?_ | refine cS (fun _ => ?_) fun _ => ?_) | (apply gW; refine sW ?_) | (apply gI; refine sI ?_) | (apply gE; refine sE ?_) | (apply gP; refine sP ?_) | (apply gC; refine sC ?_) | (apply gD; refine sD ?_) | fail)
      refine D_op rfl ?_; refine X_d (dy_storeE (f := iv) (hf := fun _ => rfl) (j := i) (n := 64) (c := 64) (x.b.length : Int) (hy := by rfl) (hj := by rw [List.length_append, List.length_take, List.length_drop]; omega)) ?_; rintro _ _ ⟨rfl, hLL⟩; replace hLL := hLL.trans SAt.pf; subst hLL; refine ⟨(by first | exact .inl rfl | exact .inr Sb), D_n ?_⟩
      rw [set_lens (by omega) hgx]
      repeat' (first | refine go ?_ | intro _ | (apply cG; first | refine cT ?_ | refine cF ?_ | refine cS (fun _ => ?_) fun _ => ?_) | (apply gW; refine sW ?_) | (apply gI; refine sI ?_) | (apply gE; refine sE ?_) | (apply gP; refine sP ?_) | (apply gC; refine sC ?_) | (apply gD; refine sD ?_) | fail)
      exact E_round (i + 1) hlt4 (by show 64 - (i + 1) < 64 - i; omega) ⟨rfl, trivial⟩ Sb
    obtain rfl : i = 64 := by omega
    have hGF : G.take 64 ++ F.drop 64 = G := by rw [List.take_of_length_le (by omega), List.drop_eq_nil_of_le (by omega), List.append_nil]
    rw [hGF]
    repeat' (first | refine go ?_ | intro _ | (apply cG; first | refine cT ?_ | refine cF ?_ | refine cS (fun _ => ?_) fun _ => ?_) | (apply gW; refine sW ?_) | (apply gI; refine sI ?_) | (apply gE; refine sE ?_) | (apply gP; refine sP ?_) | (apply gC; refine sC ?_) | (apply gD; refine sD ?_) | fail)
    refine E_sub (S := rdk r ⟨room, B2, G, false, -1⟩ :: L) (Sub.trans (B := cel r [.int .i64 room, .slice (some ab) 64 64, .slice (some af) 64 64, .bool false, .int .i64 (-1)] 50 :: own 39 eRBy (.slice (some ab) 64 64) R :: own 3 eI (.slice (some af) 64 64) G :: imR R :: L) Sb (rdk_sub (K := ⟨room, B2, G, false, -1⟩) hRB hRl hGl)) ?_
    refine E_end0 (by first | exact .inl rfl | exact .inr rfl) (by rfl) (by rfl) ⟨rfl, rfl⟩
  rw [if_pos hflip] at ha0
  have htlt := atZ_lt hflip
  obtain ⟨t, ht⟩ : ∃ t, atZ z many = t := ⟨_, rfl⟩
  rw [ht] at htlt ha0 hcrl
  subst ha0
  obtain ⟨jj, x, o, hxb, ho, hcnt, htu⟩ := turnL_cnt (bs := bs) (at_ := t) (fun x hx => (hbm x hx).1) (by rw [hmany]; exact htlt)
  obtain ⟨jr, xr, hyj, hjr, hRj, hxr, hFj⟩ := hrow jj x hxb
  have hxm := hbm x (List.mem_of_getElem? hxb)
  have hjl : jj < ys.length := by rw [← hbl]; exact (List.getElem?_eq_some_iff.1 hxb).1
  obtain ⟨yb, hyb⟩ : ∃ yb, x.b[x.D + o]? = some yb := ⟨_, List.getElem?_eq_getElem (by omega)⟩
  have hgd : x.b.getD (x.D + o) 0 = yb := by rw [List.getD_eq_getElem?_getD, hyb]; rfl
  obtain ⟨b2, hb2⟩ : ∃ b2, x.b.set (x.D + o) (fl8 yb (7 - t % 8)) = b2 := ⟨_, rfl⟩
  have hb2l : b2.length = x.b.length := by rw [← hb2, List.length_set]
  rw [hgd, hb2] at htu
  have hxrl : xr.b.length = x.b.length := by rw [hxr]
  refine C_sub (S := own 3 eI (.slice A1 ys.length c1) ys :: cel r [.int .i64 room, .slice (some ab) 64 64, .slice (some af) 64 64, .bool off, .int .i64 plan] 50 :: own 39 eRBy (.slice (some ab) 64 64) R :: own 3 eI (.slice (some af) 64 64) F :: own 5 eB (.slice xr.A xr.b.length xr.c) x.b :: sp ((bs.eraseIdx jj).map owC) :: imR Bs :: L) (Sub.trans (B := sp (bs.map owC) :: own 3 eI (.slice A1 ys.length c1) ys :: cel r [.int .i64 room, .slice (some ab) 64 64, .slice (some af) 64 64, .bool off, .int .i64 plan] 50 :: own 39 eRBy (.slice (some ab) 64 64) R :: own 3 eI (.slice (some af) 64 64) F :: imR Bs :: L) Sb (Sub.trans (sub_spout hxb) (by rw [hxr]; unfold owC; exact Sb))) ?_
  refine C_loopS (κ := Nat) [false, false, false, false, false, false, false, false, false, false, false, false, true, true, true, true, false, false, false, false, false, false, false, false, false, false, false, false, false, false, false, false, false, false, false, false, false, false, false, false, false, false, false, false, false, false, false, false, false, false, false, false, false, false, false, false, false, false, false, false, false, false, false, false, false, false, false, false, false, false, false, false, false, false, false, false, false, false, false, false, false, false, false, false, false, false, false, false, false, false, false, false, false, true, true, true, true, true, true, true, true, true, true, true, true, true, true, true, true, true, true, true, true, true, true, true, true, true, true, true, true, true, true, true, true, true, true, true, true, true, true, true, true, true, true, true, true, true, true, true, true, true, true, true, true, true, true, true, true, true, true, true, true, true, false, false, false, false, false, false, false, false, false, false, false, false, false, false, false, false, false, false, false, false, false, false, false, false] (fun k => [(12, .int .i64 ((t : Int) - 8 * ((cntC bs k : Nat) : Int))), (13, .int .i64 (k : Int))]) (fun k => [(4, own 5 eB (.slice xr.A xr.b.length xr.c) (if jj < k then b2 else x.b))]) (fun k => k ≤ ys.length) (fun k => ys.length - k) 0 (Nat.zero_le _) ⟨by show Value.int .i64 (t : Int) = Value.int .i64 ((t : Int) - 8 * 0); rw [Int.mul_zero, Int.sub_zero], rfl, trivial⟩ ?_ (by rw [if_neg (Nat.not_lt_zero _)]; exact Sb)
  rintro i u4 hi2
  dsimp only
  ((try dsimp only); refine C_n ?_; (try simp only [Nat.reduceAdd, Nat.zero_add]))
  by_cases hlt3 : i < ys.length
  · obtain ⟨xi, hxi⟩ : ∃ xi, bs[i]? = some xi := ⟨_, List.getElem?_eq_getElem (by omega)⟩
    obtain ⟨j, xir, hy, hj, hRx, hxir, hFx⟩ := hrow i xi hxi
    have hay : At ys i (j : Int) := ⟨hy⟩
    have haR : At R j xir := ⟨hRx⟩
    have hxirl : xir.b.length = xi.b.length := by rw [hxir]
    have haF : At F j (xi.D : Int) := ⟨hFx⟩
    have hxim := hbm xi (List.mem_of_getElem? hxi)
    have hcs := cntC_succ hxi
    have hcm := cntC_mono (bs := bs) (i := i + 1) (j := ys.length) hlt3
    by_cases hij : i = jj
    rotate_left
    · obtain ⟨cur, hcur⟩ : ∃ cur, (if jj < i then b2 else x.b) = cur := ⟨_, rfl⟩
      have hcur2 : (if jj < i + 1 then b2 else x.b) = cur := by
        rw [← hcur]
        by_cases h : jj < i
        · rw [if_pos h, if_pos (by omega)]
        · rw [if_neg h, if_neg (by omega)]
      have hfar : cntC bs (i + 1) ≤ t / 8 ∨ t / 8 < cntC bs i := by
        by_cases h : i < jj
        · have := cntC_mono (bs := bs) (i := i + 1) (j := jj) h
          omega
        · have h1 := cntC_mono (bs := bs) (i := jj + 1) (j := i) (by omega)
          have h2 := cntC_succ hxb
          omega
      rw [hcur]
      repeat' (first | refine go ?_ | intro _ | (apply cG; first | refine cT ?_ | refine cF ?_ | refine cS (fun _ => ?_) fun _ => ?_) | (apply gW; refine sW ?_) | (apply gI; refine sI ?_) | (apply gE; refine sE ?_) | (apply gP; refine sP ?_) | (apply gC; refine sC ?_) | (apply gD; refine sD ?_) | fail)
      refine C_loopS (κ := Nat) [false, false, false, false, false, false, false, false, false, false, false, false, true, false, false, true, false, false, false, false, false, false, false, false, false, false, false, false, false, false, false, false, false, false, false, false, false, false, false, false, false, false, false, false, false, false, false, false, false, false, false, false, false, false, false, false, false, false, false, false, false, false, false, false, false, false, false, false, false, false, false, false, false, false, false, false, false, false, false, false, false, false, false, false, false, false, false, false, false, false, false, false, false, false, false, false, false, false, false, false, false, false, false, false, false, false, false, false, false, false, true, true, true, true, true, true, true, true, true, true, true, true, true, true, true, true, true, true, true, true, true, true, true, true, true, true, true, true, true, true, true, true, true, true, true, true, true, true, true, true, true, true, true, true, false, false, false, false, false, false, false, false, false, false, false, false, false, false, false, false, false, false, false, false, false, false, false, false] (fun k => [(12, .int .i64 ((t : Int) - 8 * ((cntC bs i + k : Nat) : Int))), (15, .int .i64 ((xi.D + k : Nat) : Int))]) (fun k => []) (fun k => k ≤ xi.m) (fun k => xi.m - k) 0 (Nat.zero_le _) ⟨rfl, rfl, trivial⟩ ?_
      rintro k u5 hk2
      ((try dsimp only); refine C_n ?_; (try simp only [Nat.reduceAdd, Nat.zero_add]))
      by_cases hlt2 : k < xi.m
      · have hat : (t : Int) - 8 * ((cntC bs i + k : Nat) : Int) < 0 ∨ 8 ≤ (t : Int) - 8 * ((cntC bs i + k : Nat) : Int) := by omega
        rcases hat with hat | hat
        · repeat' (first | refine go ?_ | intro _ | (apply cG; first | refine cT ?_ | refine cF ?_ | refine cS (fun _ => ?_) fun _ => ?_) | (apply gW; refine sW ?_) | (apply gI; refine sI ?_) | (apply gE; refine sE ?_) | (apply gP; refine sP ?_) | (apply gC; refine sC ?_) | (apply gD; refine sD ?_) | fail)
          exact E_round (k + 1) hlt2 (by omega) ⟨congrArg (Value.int .i64) (by omega), rfl, trivial⟩ Sb
        · repeat' (first | refine go ?_ | intro _ | (apply cG; first | refine cT ?_ | refine cF ?_ | refine cS (fun _ => ?_) fun _ => ?_) | (apply gW; refine sW ?_) | (apply gI; refine sI ?_) | (apply gE; refine sE ?_) | (apply gP; refine sP ?_) | (apply gC; refine sC ?_) | (apply gD; refine sD ?_) | fail)
          exact E_round (k + 1) hlt2 (by omega) ⟨congrArg (Value.int .i64) (by omega), rfl, trivial⟩ Sb
      obtain rfl : k = xi.m := by omega
      repeat' (first | refine go ?_ | intro _ | (apply cG; first | refine cT ?_ | refine cF ?_ | refine cS (fun _ => ?_) fun _ => ?_) | (apply gW; refine sW ?_) | (apply gI; refine sI ?_) | (apply gE; refine sE ?_) | (apply gP; refine sP ?_) | (apply gC; refine sC ?_) | (apply gD; refine sD ?_) | fail)
      refine E_round (i + 1) hlt3 (by omega) ⟨congrArg (Value.int .i64) (by omega), rfl, trivial⟩ ?_
      rw [hcur2]
      exact Sb
    subst hij
    obtain rfl : xi = x := by rw [hxb] at hxi; exact (Option.some.inj hxi).symm
    obtain rfl : jr = j := by
      rw [hyj] at hy
      have := Option.some.inj hy
      omega
    obtain rfl : xir = xr := by rw [hxr, hxir]
    rw [if_neg (Nat.lt_irrefl _)]
    repeat' (first | refine go ?_ | intro _ | (apply cG; first | refine cT ?_ | refine cF ?_ | refine cS (fun _ => ?_) fun _ => ?_) | (apply gW; refine sW ?_) | (apply gI; refine sI ?_) | (apply gE; refine sE ?_) | (apply gP; refine sP ?_) | (apply gC; refine sC ?_) | (apply gD; refine sD ?_) | fail)
    refine C_loopS (κ := Nat) [false, false, false, false, false, false, false, false, false, false, false, false, true, false, false, true, false, false, false, false, false, false, false, false, false, false, false, false, false, false, false, false, false, false, false, false, false, false, false, false, false, false, false, false, false, false, false, false, false, false, false, false, false, false, false, false, false, false, false, false, false, false, false, false, false, false, false, false, false, false, false, false, false, false, false, false, false, false, false, false, false, false, false, false, false, false, false, false, false, false, false, false, false, false, false, false, false, false, false, false, false, false, false, false, false, false, false, false, false, false, true, true, true, true, true, true, true, true, true, true, true, true, true, true, true, true, true, true, true, true, true, true, true, true, true, true, true, true, true, true, true, true, true, true, true, true, true, true, true, true, true, true, true, true, false, false, false, false, false, false, false, false, false, false, false, false, false, false, false, false, false, false, false, false, false, false, false, false] (fun k => [(12, .int .i64 ((t : Int) - 8 * ((cntC bs i + k : Nat) : Int))), (15, .int .i64 ((xi.D + k : Nat) : Int))]) (fun k => [(4, own 5 eB (.slice xir.A xir.b.length xir.c) (if o < k then b2 else xi.b))]) (fun k => k ≤ xi.m) (fun k => xi.m - k) 0 (Nat.zero_le _) ⟨rfl, rfl, trivial⟩ ?_ (by rw [if_neg (Nat.not_lt_zero _)]; exact Sb)
    rintro k u5 hk2
    dsimp only
    ((try dsimp only); refine C_n ?_; (try simp only [Nat.reduceAdd, Nat.zero_add]))
    by_cases hlt2 : k < xi.m
    · by_cases hko : k = o
      rotate_left
      · obtain ⟨cur, hcur⟩ : ∃ cur, (if o < k then b2 else xi.b) = cur := ⟨_, rfl⟩
        have hcur2 : (if o < k + 1 then b2 else xi.b) = cur := by
          rw [← hcur]
          by_cases h : o < k
          · rw [if_pos h, if_pos (by omega)]
          · rw [if_neg h, if_neg (by omega)]
        rw [hcur]
        have hat : (t : Int) - 8 * ((cntC bs i + k : Nat) : Int) < 0 ∨ 8 ≤ (t : Int) - 8 * ((cntC bs i + k : Nat) : Int) := by omega
        rcases hat with hat | hat
        · repeat' (first | refine go ?_ | intro _ | (apply cG; first | refine cT ?_ | refine cF ?_ | refine cS (fun _ => ?_) fun _ => ?_) | (apply gW; refine sW ?_) | (apply gI; refine sI ?_) | (apply gE; refine sE ?_) | (apply gP; refine sP ?_) | (apply gC; refine sC ?_) | (apply gD; refine sD ?_) | fail)
          refine E_round (k + 1) hlt2 (by omega) ⟨congrArg (Value.int .i64) (by omega), rfl, trivial⟩ ?_
          rw [hcur2]
          exact Sb
        · repeat' (first | refine go ?_ | intro _ | (apply cG; first | refine cT ?_ | refine cF ?_ | refine cS (fun _ => ?_) fun _ => ?_) | (apply gW; refine sW ?_) | (apply gI; refine sI ?_) | (apply gE; refine sE ?_) | (apply gP; refine sP ?_) | (apply gC; refine sC ?_) | (apply gD; refine sD ?_) | fail)
          refine E_round (k + 1) hlt2 (by omega) ⟨congrArg (Value.int .i64) (by omega), rfl, trivial⟩ ?_
          rw [hcur2]
          exact Sb
      subst hko
      rw [if_neg (Nat.lt_irrefl _)]
      have hat : (t : Int) - 8 * ((cntC bs i + k : Nat) : Int) = ((t % 8 : Nat) : Int) := by omega
      rw [hat]
      have hayb : At xi.b (xi.D + k) yb := ⟨hyb⟩
      obtain ⟨hz8, _⟩ := fl8_eq (y := yb) (s := 7 - t % 8) (by omega)
      repeat' (first | refine go ?_ | intro _ | (apply cG; first | refine cT ?_ | refine cF ?_ | refine cS (fun _ => ?_) fun _ => ?_) | (apply gW; refine sW ?_) | (apply gI; refine sI ?_) | (apply gE; refine sE ?_) | (apply gP; refine sP ?_) | (apply gC; refine sC ?_) | (apply gD; refine sD ?_) | fail)
      refine C_draw (n := 24) [cel r [.int .i64 room, .slice (some ab) 64 64, .slice (some af) 64 64, .bool off, .int .i64 plan] 50, own 39 eRBy (.slice (some ab) 64 64) R, own 5 eB (.slice xir.A xir.b.length xir.c) xi.b] [(0, 1), (1, 1), (2, 1), (3, 1), (4, 1), (5, 1), (6, 1), (7, 1), (8, 1), (9, 1), (10, 1), (11, 1), (12, 1), (13, 1), (14, 1), (15, 1), (16, 1), (17, 1), (18, 1), (19, 1), (20, 1), (21, 1), (22, 1), (23, 1), (24, 0)] (by kernel_rfl) (by kernel_rfl) Sb ?_
      repeat' (first | refine go ?_ | intro _ | (apply cG; first | refine cT ?_ | refine cF ?_ | refine cS (fun _ => ?_) fun _ => ?_) | (apply gI; refine sI ?_) | (apply gE; refine sE ?_) | (apply gP; refine sP ?_) | (apply gC; refine sC ?_) | (apply gD; refine sD ?_) | fail)
      apply gW; refine sW (r := ((7 - t % 8 : Nat) : Int)) ?_ (by rw [wr_i64 (by omega) (by omega)]; omega)
      repeat' (first | refine go ?_ | intro _ | (apply cG; first | refine cT ?_ | refine cF ?_ | refine cS (fun _ => ?_) fun _ => ?_) | (apply gI; refine sI ?_) | (apply gE; refine sE ?_) | (apply gP; refine sP ?_) | (apply gC; refine sC ?_) | (apply gD; refine sD ?_) | fail)
      apply gW; refine sW (r := ((7 - t % 8 : Nat) : Int)) ?_ (wr_u64 (by omega) (by omega))
      repeat' (first | refine go ?_ | intro _ | (apply cG; first | refine cT ?_ | refine cF ?_ | refine cS (fun _ => ?_) fun _ => ?_) | (apply gI; refine sI ?_) | (apply gE; refine sE ?_) | (apply gP; refine sP ?_) | (apply gC; refine sC ?_) | (apply gD; refine sD ?_) | fail)
      refine D_op rfl ?_; refine X_s (sv_shl (hr := (show IntKind.u8.wrap (1 * 2 ^ (((7 - t % 8 : Nat) : Int)).toNat) = IntKind.u8.wrap (1 * 2 ^ (7 - t % 8)) from rfl))) ?_
      refine D_op rfl ?_; refine X_s (sv_xor (hr := hz8)) ?_
      repeat' (first | refine go ?_ | intro _ | (apply cG; first | refine cT ?_ | refine cF ?_ | refine cS (fun _ => ?_) fun _ => ?_) | (apply gI; refine sI ?_) | (apply gE; refine sE ?_) | (apply gP; refine sP ?_) | (apply gC; refine sC ?_) | (apply gD; refine sD ?_) | fail)
      refine D_op rfl ?_; refine X_d (dy_storeE (f := bv) (hf := fun _ => rfl) (n := xir.b.length) (c := xir.c) (fl8 yb (7 - t % 8)) (hy := by rfl) (hj := by omega)) ?_; rintro _ _ ⟨rfl, hLL⟩; replace hLL := hLL.trans SAt.pf; subst hLL; refine ⟨(by first | exact .inl rfl | exact .inr Sb), D_n ?_⟩
      rw [hb2]
      repeat' (first | refine go ?_ | intro _ | (apply cG; first | refine cT ?_ | refine cF ?_ | refine cS (fun _ => ?_) fun _ => ?_) | (apply gW; refine sW ?_) | (apply gI; refine sI ?_) | (apply gE; refine sE ?_) | (apply gP; refine sP ?_) | (apply gC; refine sC ?_) | (apply gD; refine sD ?_) | fail)
      refine E_round (k + 1) hlt2 (by omega) ⟨congrArg (Value.int .i64) (by omega), rfl, trivial⟩ ?_
      rw [if_pos (Nat.lt_succ_self _)]
      exact Sb
    obtain rfl : k = xi.m := by omega
    rw [if_pos ho]
    repeat' (first | refine go ?_ | intro _ | (apply cG; first | refine cT ?_ | refine cF ?_ | refine cS (fun _ => ?_) fun _ => ?_) | (apply gW; refine sW ?_) | (apply gI; refine sI ?_) | (apply gE; refine sE ?_) | (apply gP; refine sP ?_) | (apply gC; refine sC ?_) | (apply gD; refine sD ?_) | fail)
    refine E_round (i + 1) hlt3 (by omega) ⟨congrArg (Value.int .i64) (by omega), rfl, trivial⟩ ?_
    rw [if_pos (Nat.lt_succ_self _)]
    exact Sb
  obtain rfl : i = ys.length := by omega
  rw [if_pos hjl]
  repeat' (first | refine go ?_ | intro _ | (apply cG; first | refine cT ?_ | refine cF ?_ | refine cS (fun _ => ?_) fun _ => ?_) | (apply gW; refine sW ?_) | (apply gI; refine sI ?_) | (apply gE; refine sE ?_) | (apply gP; refine sP ?_) | (apply gC; refine sC ?_) | (apply gD; refine sD ?_) | fail)
  obtain ⟨bs2, hbs2⟩ : ∃ bs2, bs.set jj { x with b := b2 } = bs2 := ⟨_, rfl⟩
  have hnf : bs2.map (fun x => x.b) = crRL kp z ⟨room, B, F, off, plan⟩ := by rw [hcrl, htu, ← hbs2, List.map_set]
  obtain ⟨R2, hR2⟩ : ∃ R2, setYs ys (bs2.map CB.r) Bs = R2 := ⟨_, rfl⟩
  have hR2l : R2.length = 64 := by rw [← hR2, setYs_len]; exact h2
  have hgh : R.map fRBy = R2.map fRBy := by
    rw [← hR, ← hR2, setYs_map, setYs_map, ← hbs2, List.map_set, List.map_set, set_same]
    rw [List.getElem?_map, List.getElem?_map, hxb]
    show some (Value.slice x.A x.b.length x.c) = some (Value.slice x.A b2.length x.c)
    rw [hb2l]
  have hRB2 : R2.map (fun y => y.b) = setYs ys (crRL kp z ⟨room, B, F, off, plan⟩) B := by
    rw [← hR2, setYs_map, List.map_map, h1, ← hnf]
    rfl
  clear hrow
  obtain ⟨B2, hB2⟩ : ∃ B2, setYs ys (crRL kp z ⟨room, B, F, off, plan⟩) B = B2 := ⟨_, rfl⟩
  rw [hB2] at hRB2 ⊢
  refine C_frz 4 ?_
  refine C_frzC 5 (bs := bs.eraseIdx jj) ?_ rfl
  refine C_sub (S := own 3 eI (.slice A1 ys.length c1) ys :: cel r [.int .i64 room, .slice (some ab) 64 64, .slice (some af) 64 64, .bool off, .int .i64 plan] 50 :: own 39 eRBy (.slice (some ab) 64 64) R2 :: own 3 eI (.slice (some af) 64 64) F :: imR R2 :: L) (Sub.trans (B := own 39 eRBy (.slice (some ab) 64 64) R :: own 3 eI (.slice A1 ys.length c1) ys :: cel r [.int .i64 room, .slice (some ab) 64 64, .slice (some af) 64 64, .bool off, .int .i64 plan] 50 :: own 3 eI (.slice (some af) 64 64) F :: rd eB (.slice x.A b2.length x.c) b2 :: imC (bs.eraseIdx jj) :: imR Bs :: L) (by rw [hb2l, show xr.A = x.A by rw [hxr], show xr.c = x.c by rw [hxr], hxrl]; exact Sb) (Sub.trans (sub_ownR hgh) (Sub.trans (sub_imCset (j := jj) (x := { x with b := b2 }) (by repeat (first | exact .head _ | refine .tail _ ?_)) (by repeat (first | exact .head _ | refine .tail _ ?_))) (Sub.trans (sub_imRY (ys := ys) (bs := bs2) (Bs := Bs) (by repeat (first | exact .head _ | refine .tail _ ?_)) (by rw [hbs2]; exact .head _)) (by rw [hR2]; exact Sb))))) ?_
  obtain ⟨G, hG⟩ : ∃ G, (B2.map fun b => (b.length : Int)) = G := ⟨_, rfl⟩
  rw [hG]
  have hGl : G.length = 64 := by rw [← hG, List.length_map, ← hRB2, List.length_map]; exact hR2l
  refine C_loopS (κ := Nat) [false, false, false, false, false, false, false, false, false, false, false, false, false, false, false, false, true, false, false, false, false, false, false, false, false, false, false, false, false, false, false, false, false, false, false, false, false, false, false, false, false, false, false, false, false, false, false, false, false, false, false, false, false, false, false, false, false, false, false, false, false, false, false, false, false, false, false, false, false, false, false, false, false, false, false, false, false, false, false, false, false, false, false, false, false, false, false, false, false, false, false, false, false, false, false, false, false, false, false, false, false, false, false, false, false, false, false, false, false, false, false, false, false, false, false, false, false, false, false, false, false, false, false, false, false, false, false, false, false, false, false, false, false, false, false, false, false, false, false, false, false, false, false, false, false, false, false, false, false, false, false, false, false, false, true, true, true, true, true, true, true, true, true, true, true, true, true, true, true, true, true, true, false, false, false, false, false, false] (fun k => [(16, .int .i64 (k : Int))]) (fun k => [(3, own 3 eI (.slice (some af) 64 64) (G.take k ++ F.drop k))]) (fun k => k ≤ 64) (fun k => 64 - k) 0 (Nat.zero_le _) ⟨rfl, trivial⟩ ?_ (by simp only [List.take_zero, List.drop_zero, List.nil_append]; exact Sb)
  rintro i u6 hi3
  ((try dsimp only); refine C_n ?_; (try simp only [Nat.reduceAdd, Nat.zero_add]))
  by_cases hlt4 : i < 64
  · obtain ⟨x, hx⟩ : ∃ x, R2[i]? = some x := ⟨_, List.getElem?_eq_getElem (by omega)⟩
    have hax : At R2 i x := ⟨hx⟩
    have hgx : G[i]? = some (x.b.length : Int) := by rw [← hG]; exact lens_at (map_at hRB2 hx)
    repeat' (first | refine go ?_ | intro _ | (apply cG; first | refine cT ?_ | refine cF ?_ | refine cS (fun _ => ?_) fun _ => ?_) | (apply gW; refine sW ?_) | (apply gI; refine sI ?_) | (apply gE; refine sE ?_) | (apply gP; refine sP ?_) | (apply gC; refine sC ?_) | (apply gD; refine sD ?_) | fail)
    refine C_draw (n := 14) [cel r [.int .i64 room, .slice (some ab) 64 64, .slice (some af) 64 64, .bool off, .int .i64 plan] 50, own 39 eRBy (.slice (some ab) 64 64) R2, own 3 eI (.slice (some af) 64 64) (G.take i ++ F.drop i)] [(0, 1), (1, 1), (2, 1), (3, 1), (4, 1), (5, 1), (6, 1), (7, 1), (8, 1), (9, 1), (10, 1), (11, 1), (12, 1), (13, 1), (14, 0)] (by kernel_rfl) (by kernel_rfl) Sb ?_
    repeat' (first | refine go ?_ | intro _ | (apply cG; first | refine cT ?_ | refine cF ?_ | refine cS (fun _ => ?_) fun _ => ?_) | (apply gW; refine sW ?_) | (apply gI; refine sI ?_) | (apply gE; refine sE ?_) | (apply gP; refine sP ?_) | (apply gC; refine sC ?_) | (apply gD; refine sD ?_) | fail)
    refine D_op rfl ?_; refine X_d (dy_storeE (f := iv) (hf := fun _ => rfl) (j := i) (n := 64) (c := 64) (x.b.length : Int) (hy := by rfl) (hj := by rw [List.length_append, List.length_take, List.length_drop]; omega)) ?_; rintro _ _ ⟨rfl, hLL⟩; replace hLL := hLL.trans SAt.pf; subst hLL; refine ⟨(by first | exact .inl rfl | exact .inr Sb), D_n ?_⟩
    rw [set_lens (by omega) hgx]
    repeat' (first | refine go ?_ | intro _ | (apply cG; first | refine cT ?_ | refine cF ?_ | refine cS (fun _ => ?_) fun _ => ?_) | (apply gW; refine sW ?_) | (apply gI; refine sI ?_) | (apply gE; refine sE ?_) | (apply gP; refine sP ?_) | (apply gC; refine sC ?_) | (apply gD; refine sD ?_) | fail)
    exact E_round (i + 1) hlt4 (by show 64 - (i + 1) < 64 - i; omega) ⟨rfl, trivial⟩ Sb
  obtain rfl : i = 64 := by omega
  have hGF : G.take 64 ++ F.drop 64 = G := by rw [List.take_of_length_le (by omega), List.drop_eq_nil_of_le (by omega), List.append_nil]
  rw [hGF]
  repeat' (first | refine go ?_ | intro _ | (apply cG; first | refine cT ?_ | refine cF ?_ | refine cS (fun _ => ?_) fun _ => ?_) | (apply gW; refine sW ?_) | (apply gI; refine sI ?_) | (apply gE; refine sE ?_) | (apply gP; refine sP ?_) | (apply gC; refine sC ?_) | (apply gD; refine sD ?_) | fail)
  refine E_sub (S := rdk r ⟨room, B2, G, false, -1⟩ :: L) (Sub.trans (B := cel r [.int .i64 room, .slice (some ab) 64 64, .slice (some af) 64 64, .bool false, .int .i64 (-1)] 50 :: own 39 eRBy (.slice (some ab) 64 64) R2 :: own 3 eI (.slice (some af) 64 64) G :: imR R2 :: L) Sb (rdk_sub (K := ⟨room, B2, G, false, -1⟩) hRB2 hR2l hGl)) ?_
  refine E_end0 (by first | exact .inl rfl | exact .inr rfl) (by rfl) (by rfl) ⟨rfl, rfl⟩
end
end Go.Proofs.YtbjaecofccpahaaGreat
