/-
  Walks: Crash of a disk with several files.
-/
import Derived.Test.YtbjaecofccpahaaGreatMY
namespace Go.Proofs.YtbjaecofccpahaaGreat
open Go Go.RowKit
set_option linter.unusedVariables false
set_option linter.unusedSimpArgs false
set_option maxRecDepth 20000
set_option synthInstance.maxSize 100000
set_option synthInstance.maxHeartbeats 400000
def eElP : Enc (Option Addr × Nat) := e1 (fun q => elp q.1 q.2 1 0) fun _ => rfl
instance : Sz eElP 1 := ⟨rfl⟩
instance : E1E eElP (fun q => elp q.1 q.2 1 0) := ⟨⟨_, rfl⟩⟩
theorem fileF_valB (n : Int) (l : List (Int × DF)) : ((posM n l 0).map fun q => mDB.val q.2).getD (.agg #[.slice none 0 0, .int .i64 0]) = mDB.val (fileF n l) := by
  unfold fileF
  cases posM n l 0 <;> rfl
theorem fileF_mem : ∀ {l : List (Int × DF)} {q : Int × DF}, KeysOk l → q ∈ l → fileF q.1 l = q.2
  | p :: l, q, hk, h => by
    have hk2 := List.nodup_cons.1 hk
    rw [fileF_cons]
    rcases List.mem_cons.1 h with rfl | h
    · rw [if_pos rfl]
    · have hne : ¬ q.1 = p.1 := fun e => hk2.1 (e ▸ List.mem_map.2 ⟨q, h, rfl⟩)
      rw [if_neg hne]
      exact fileF_mem hk2.2 h
theorem crS_sl {m : Hp} {ys : List Int} {bs : List CB} {files : List (Int × DF)} (hp : ys.Perm (files.map Prod.fst)) (hk : KeysOk files) (hl : bs.length = ys.length) (h : ∀ x ∈ bs, Sl m eB (.slice x.A x.b.length x.c) x.b) : ∀ q ∈ crS ys bs files, Sl m eB q.2.v q.2.b := by
  intro q hq
  have hn : ys.Nodup := hp.nodup_iff.2 hk
  have hy : q.1 ∈ ys := by
    rcases crS_keys (List.mem_map.2 ⟨q, hq, rfl⟩) with h | h
    · exact h
    · exact hp.mem_iff.2 h
  obtain ⟨j, hj, hy⟩ := List.getElem_of_mem hy
  have hy2 : ys[j]? = some q.1 := by rw [List.getElem?_eq_getElem hj, hy]
  obtain ⟨x, hx⟩ : ∃ x, bs[j]? = some x := ⟨_, List.getElem?_eq_getElem (by omega)⟩
  have h1 := crS_at hn hk hy2 hx
  rw [fileF_mem (crS_ok hk) hq] at h1
  rw [h1]
  split
  · exact Sl.nil _ _ _ _
  · exact h x (List.mem_of_getElem? hx)
section
variable {P : Program} {W0 : World} {L L' : List HP} {ops : Array Oper} {rest : List Oper} {a : Act} {Q : Exit → Act → World → Prop}
/-- all files' bytes -/
def imF (files : List (Int × DF)) : HP := im ⟨fun m => ∀ n, Sl m eB (fileF n files).v (fileF n files).b, fun hm h n => (h n).mono hm⟩
theorem sub_imF {p : Nat} {d : DK} : Sub (dsk p d :: L) (imF d.files :: dsk p d :: L) := fun m h s =>
  ⟨Hp.none, h, Hp.none_dj _, Hp.none_le _, Hp.le_refl _, fun n => rd_mem (dsk_file (n := n) m h s) (.head _), s⟩
theorem sub_imF1 {files : List (Int × DF)} (hm : imF files ∈ L) (n : Int) : Sub L (rd eB (fileF n files).v (fileF n files).b :: L) := fun m h s => by
  obtain ⟨y, hy, k⟩ := s.mem hm
  exact ⟨Hp.none, h, Hp.none_dj _, Hp.none_le _, Hp.le_refl _, k n, s⟩
def owC (x : CB) : HP := own 5 eB (.slice x.A x.b.length x.c) x.b
def imC (bs : List CB) : HP := im ⟨fun m => ∀ x ∈ bs, Sl m eB (.slice x.A x.b.length x.c) x.b, fun hm h x hx => (h x hx).mono hm⟩
theorem owC_sl : ∀ {bs : List CB} {m h c : Hp}, m.le c → h.le c → SepL m (bs.map owC) h → ∀ x ∈ bs, Sl c eB (.slice x.A x.b.length x.c) x.b
  | [], _, _, _, _, _, _, _, hx => by cases hx
  | y :: bs, m, h, c, hm, hh, ⟨a, b, d, ha, hb, hA, hL⟩, x, hx => by
    rcases List.mem_cons.1 hx with rfl | hx
    · exact own_sl hm (ha.trans hh) hA
    · exact owC_sl hm (hb.trans hh) hL x hx
theorem O_frzC (i : Nat) {bs : List CB} (k : OL P W0 L' ops Q rest a) (h : L[i]? = some (sp (bs.map owC))) (hL : L.set i (imC bs) = L' := by exact SAt.pf) : OL P W0 L ops Q rest a := by
  subst hL
  refine ⟨fun w s => k.run w ?_⟩
  exact (((s.at_ h).freeze (R := ⟨fun m => ∀ x ∈ bs, Sl m eB (.slice x.A x.b.length x.c) x.b, fun hm h x hx => (h x hx).mono hm⟩) fun m h d k => owC_sl (Hp.le_or_left m h) (Hp.le_or_right d) k)).back h
theorem sub_spout : ∀ {bs : List CB} {j : Nat} {x : CB} {L : List HP}, bs[j]? = some x → Sub (sp (bs.map owC) :: L) (owC x :: sp ((bs.eraseIdx j).map owC) :: L)
  | y :: bs, 0, x, L, h => by
    simp only [List.getElem?_cons_zero, Option.some.injEq] at h
    subst h
    exact sub_spcons
  | y :: bs, j + 1, x, L, h => by
    rw [List.getElem?_cons_succ] at h
    refine Sub.trans sub_spcons (Sub.trans (sub_skip (sub_spout h)) ?_)
    intro m hp s
    have s2 := s.swap
    refine SepL.skip s2 fun b hb => ?_
    exact sub_close (Ls := owC y :: (bs.eraseIdx j).map owC) m b (by
      have := sub_skip (A := owC y) (sub_open (Ls := (bs.eraseIdx j).map owC) (L := L)) m b hb
      exact this)
  | [], _, _, _, h => by simp at h
end
structure CS where
  i : Nat
  bs : List CB
  Al : Option Addr
  cl : Nat
section
variable {W0 : World} {L : List HP}
set_option maxHeartbeats 8000000 in
theorem Crash_ct {p : Nat} {files : List (Int × DF)} {room left z : Int} {off armed : Bool} {kv : Value} {kp : List Int} (hok : DOk ⟨files, room, off, armed, left⟩) (hn : files.length ≤ 64) (hkv : rd eI kv kp ∈ L) (hkl : kp.length ≤ 1000000000) (hkr : ∀ x ∈ kp, -9223372036854775808 ≤ x ∧ x ≤ 9223372036854775807) (hz1 : -9223372036854775808 ≤ z) (hz2 : z ≤ 9223372036854775807) :
    CT Tryz.prog 11 #[.pointer (some ⟨p, 0, none⟩), kv, .int .i64 z] W0 (dsk p ⟨files, room, off, armed, left⟩ :: L) fun r L' => ∃ ys F, ys.Perm (files.map Prod.fst) ∧ ys.Pairwise (· ≤ ·) ∧ CrOk kp z ys files F ∧ DOk ⟨F, room, false, false, left⟩ ∧ r = .tuple #[] ∧ L' = dsk p ⟨F, room, false, false, left⟩ :: L := by
  refine CT_fact (fun w s => ((Src.sl (.inl (.tail _ hkv)) s).form)) ?_
  rintro ⟨Ak, ck, rfl, hck⟩
  obtain ⟨kv, hkve⟩ : ∃ kv, Value.slice Ak kp.length ck = kv := ⟨_, rfl⟩
  refine CT_sub2 (sub_dup (.tail _ hkv)) ?_
  refine CT_enter Tryz.func11 rfl ?_; (simp only [Tryz.ntmps11, List.size_toArray, List.length_cons, List.length_nil, Nat.reduceAdd, Nat.reduceSub, Array.replicate_succ, Array.replicate_zero, List.push_toArray, List.append_toArray, List.nil_append, List.cons_append])
  repeat' (first | refine go ?_ | intro _ | (apply cG; first | refine cT ?_ | refine cF ?_ | refine cS (fun _ => ?_) fun _ => ?_) | (apply gW; refine sW ?_) | (apply gI; refine sI ?_) | (apply gE; refine sE ?_) | (apply gP; refine sP ?_) | (apply gC; refine sC ?_) | (apply gD; refine sD ?_) | fail)
  refine O_d (dy_call ArgsI.pf (by first | exact rfl | trivial | (intro a b; rfl)) (CT.pull (i := 1) (by rfl) (Files_ct (by show files.length ≤ 1000000; omega)))) ?_; rintro _ _ ⟨_, ⟨ys, A1, c1, hp, hsort, rfl, rfl⟩, rfl⟩; refine O_n ?_
  subst hkve
  have hnd : ys.Nodup := hp.nodup_iff.2 hok.k
  have hyl : ys.length ≤ 64 := by rw [hp.length_eq, List.length_map]; exact hn
  have hr1 := hok.r1
  have hou := hok.u
  dsimp only at hr1 hou
  repeat' (first | refine go ?_ | intro _ | (apply cG; first | refine cT ?_ | refine cF ?_ | refine cS (fun _ => ?_) fun _ => ?_) | (apply gW; refine sW ?_) | (apply gI; refine sI ?_) | (apply gE; refine sE ?_) | (apply gP; refine sP ?_) | (apply gC; refine sC ?_) | (apply gD; refine sD ?_) | fail)
  refine C_ownnil 68 eElP ?_
  refine C_sub (S := own 3 eI (.slice A1 ys.length c1) ys :: dskG mDB p ⟨files, room, off, armed, left⟩ :: own 68 eElP (.slice none 0 0) [] :: sp [] :: imF files :: rd eI (.slice Ak kp.length ck) kp :: L) (Sub.trans (B := dsk p ⟨files, room, off, armed, left⟩ :: own 3 eI (.slice A1 ys.length c1) ys :: own 68 eElP (.slice none 0 0) [] :: rd eI (.slice Ak kp.length ck) kp :: L) Sb (Sub.trans sub_imF (Sub.trans (B := dsk p ⟨files, room, off, armed, left⟩ :: imF files :: own 3 eI (.slice A1 ys.length c1) ys :: own 68 eElP (.slice none 0 0) [] :: rd eI (.slice Ak kp.length ck) kp :: L) Sb (Sub.trans sub_bare (Sub.trans sub_spnil Sb))))) ?_
  refine C_loopS (κ := CS) [false, false, false, false, false, false, true, true, true, true, true, true, false, false, false, false, false, true, true, true, true, true, true, true, true, true, true, true, true, true, true, true, true, true, true, true, true, true, true, true, true, true, true, true, true, true, true, true, true, true, true, true, true, true, true, true, true, true, true, true, true, true, true, true, true, true, true, true, true, true, true, true, true, true, false, false, false, false, false, false, false, false, false, false, false, false, false, false, false, false, false, false, false, false, false, false, false, false, false, false, false, false, false, false, false, false, false] (fun k => [(6, .slice k.Al (loosC k.bs).length k.cl), (17, .int .i64 (k.i : Int))]) (fun k => [(1, dskG mDB p ⟨crS (ys.take k.i) k.bs files, room, off, armed, left⟩), (2, own 68 eElP (.slice k.Al (loosC k.bs).length k.cl) (loosC k.bs)), (3, sp (k.bs.map owC))]) (fun k => k.i ≤ ys.length ∧ k.bs.length = k.i ∧ k.bs.map prC = keptL kp files ys k.i ∧ (∀ x ∈ k.bs, x.b.length = x.D + x.m) ∧ (loosC k.bs).length ≤ 16777216 * k.i) (fun k => ys.length - k.i) ⟨0, [], none, 0⟩ ⟨Nat.zero_le _, rfl, rfl, (fun x hx => by cases hx), Nat.zero_le _⟩ ⟨rfl, rfl, trivial⟩ ?_ (Sub.refl _)
  rintro ⟨i, bs, Al, cl⟩ u ⟨hi, hbl, hbk, hbm, hlo⟩
  dsimp only at hi hbl hbk hbm hlo
  dsimp only
  ((try dsimp only); refine C_n ?_; (try simp only [Nat.reduceAdd, Nat.zero_add]))
  by_cases hlt : i < ys.length
  · obtain ⟨y, hy⟩ : ∃ y, ys[i]? = some y := ⟨_, List.getElem?_eq_getElem hlt⟩
    have hay : At ys i y := ⟨hy⟩
    have hyt : y ∉ ys.take i := fun h => by
      obtain ⟨j, hj, e⟩ := List.getElem_of_mem h
      rw [List.length_take] at hj
      rw [List.getElem_take] at e
      have h1 : ys[j]? = some y := by rw [List.getElem?_eq_getElem (by omega), e]
      have := (List.getElem?_inj (by omega) hnd).1 (h1.trans hy.symm)
      omega
    have hd0 := hok.d0 y
    have hfu := file_le_used (n := y) files
    dsimp only at hd0 hfu
    have hkept : kept kp files i (ys.getD i 0) = kept kp files i y := by rw [List.getD_eq_getElem?_getD, hy]; rfl
    have hne := crS_ne (ys := ys.take i) (bs := bs) (l := files) hyt
    unfold kept at hkept
    refine C_sub (sub_imF1 (by repeat (first | exact .head _ | refine .tail _ ?_)) y) ?_
    obtain ⟨f, hf⟩ : ∃ f, fileF y files = f := ⟨_, rfl⟩
    rw [hf] at hd0 hfu hkept hne ⊢
    obtain ⟨fv, fb, fd⟩ := f
    dsimp only at hd0 hfu hkept ⊢
    obtain ⟨D, rfl⟩ : ∃ D : Nat, fd = (D : Int) := ⟨fd.toNat, by omega⟩
    simp only [Int.toNat_natCast] at hkept
    obtain ⟨m, hm⟩ : ∃ m, keepN kp i fb.length D = m := ⟨_, rfl⟩
    have hmD := keepN_le kp i fb.length D (by omega)
    rw [hm] at hmD hkept
    obtain ⟨b1, hb1⟩ : ∃ b1, fb.take (D + m) = b1 := ⟨_, rfl⟩
    rw [hb1] at hkept
    have hb1l : b1.length = D + m := by rw [← hb1, List.length_take]; omega
    refine C_fact (φ := ∃ A c, fv = .slice A fb.length c ∧ fb.length ≤ c) (fun w s => (Src.sl (.inl (.head _)) s : Sl _ eB fv fb).form) ?_
    rintro ⟨A0, c0, rfl, hc0⟩
    refine C_sub (S := own 3 eI (.slice A1 ys.length c1) ys :: dskG mDB p ⟨crS (ys.take i) bs files, room, off, armed, left⟩ :: own 68 eElP (.slice Al (loosC bs).length cl) (loosC bs) :: sp (bs.map owC) :: imF files :: rd eI (.slice Ak kp.length ck) kp :: rd eB (.slice A0 fb.length c0) fb :: L) Sb ?_
    refine dsk_C 1 rfl fun mb => ?_
    simp only [List.eraseIdx_cons_succ, List.eraseIdx_cons_zero]
    repeat' (first | refine go ?_ | intro _ | (apply cG; first | refine cT ?_ | refine cF ?_ | refine cS (fun _ => ?_) fun _ => ?_) | (apply gW; refine sW ?_) | (apply gI; refine sI ?_) | (apply gE; refine sE ?_) | (apply gP; refine sP ?_) | (apply gC; refine sC ?_) | (apply gD; refine sD ?_) | fail)
    refine O_s (sv_lookp (R := mDB) (b := mb) (by repeat (first | exact .head _ | refine .tail _ ?_)) Ev.pf Ev.pf (fileF_valB y _)) ?_
    rw [hne]
    simp only [mDB_val]
    repeat' (first | ((fail_if_success apply AtE); refine go ?_) | intro _ | (apply cG; first | refine cT ?_ | refine cF ?_ | refine cS (fun _ => ?_) fun _ => ?_) | (apply gW; refine sW ?_) | (apply gI; refine sI ?_) | (apply gE; refine sE ?_) | (apply gP; refine sP ?_) | (apply gC; refine sC ?_) | (apply gD; refine sD ?_) | fail)
    rename_i bx
    refine go ?_
    repeat' (first | ((fail_if_success apply AtE); refine go ?_) | intro _ | (apply cG; first | refine cT ?_ | refine cF ?_ | refine cS (fun _ => ?_) fun _ => ?_) | (apply gW; refine sW ?_) | (apply gI; refine sI ?_) | (apply gE; refine sE ?_) | (apply gP; refine sP ?_) | (apply gC; refine sC ?_) | (apply gD; refine sD ?_) | fail)
    refine go ?_; refine go ?_; refine C_join (κ := Unit) [false, false, false, false, false, false, false, false, false, false, true, false, false, false, false, false, false, false, false, false, false, false, false, false, false, false, false, false, true, true, true, true, true, true, true, true, true, true, true, true, true, true, true, true, false, false, false, false, false, false, false, false, false, false, false, false, false, false, false, false, false, false, false, false, false, false, false, false, false, false, false, false, false, false, false, false, false, false, false, false, false, false, false, false, false, false, false, false, false, false, false, false, false, false, false, false, false, false, false, false, false, false, false, false, false, false, false] (fun k => [(10, .int .i64 (m : Int))]) (fun k => []) (fun k => True) ?_ ?_
    · cases hkp : kp[i]? with
      | none =>
        have hm0 : m = 0 := by rw [← hm]; unfold keepN; rw [hkp]
        have hkl0 : kp.length ≤ i := by rwa [List.getElem?_eq_none_iff] at hkp
        subst hm0
        repeat' (first | refine go ?_ | intro _ | (apply cG; first | refine cT ?_ | refine cF ?_ | refine cS (fun _ => ?_) fun _ => ?_) | (apply gW; refine sW ?_) | (apply gI; refine sI ?_) | (apply gE; refine sE ?_) | (apply gP; refine sP ?_) | (apply gC; refine sC ?_) | (apply gD; refine sD ?_) | fail)
        exact E_join () trivial ⟨rfl, trivial⟩ Sb
      | some x =>
        have hxr := hkr x (List.mem_of_getElem? hkp)
        have hax : At kp i x := ⟨hkp⟩
        have hkl0 := (List.getElem?_eq_some_iff.1 hkp).1
        have hm0 : (max 0 (min x ((fb.length : Int) - (D : Int)))).toNat = m := by rw [← hm]; unfold keepN; rw [hkp]
        repeat' (first | refine go ?_ | intro _ | (apply cG; first | refine cT ?_ | refine cF ?_ | refine cS (fun _ => ?_) fun _ => ?_) | (apply gW; refine sW ?_) | (apply gI; refine sI ?_) | (apply gE; refine sE ?_) | (apply gP; refine sP ?_) | (apply gC; refine sC ?_) | (apply gD; refine sD ?_) | fail)
        refine C_draw (n := 99) [cel bx [.slice A0 fb.length c0, .int .i64 (D : Int)] 66, rd eI (.slice Ak kp.length ck) kp] [(0, 1), (1, 1), (2, 1), (3, 1), (4, 1), (5, 1), (6, 1), (7, 1), (8, 1), (9, 1), (10, 1), (11, 1), (12, 1)] (by kernel_rfl) (by kernel_rfl) Sb ?_
        obtain ⟨mi, hmi⟩ : ∃ mi : Int, min x ((fb.length : Int) - (D : Int)) = mi := ⟨_, rfl⟩
        rw [hmi] at hm0
        have hmin : (if ((fb.length : Int) - (D : Int)) < x then ((fb.length : Int) - (D : Int)) else x) = mi := by split <;> omega
        have hmax : (if (0 : Int) < mi then mi else 0) = (m : Int) := by split <;> omega
        repeat' (first | refine go ?_ | intro _ | (apply cG; first | refine cT ?_ | refine cF ?_ | refine cS (fun _ => ?_) fun _ => ?_) | (apply gI; refine sI ?_) | (apply gE; refine sE ?_) | (apply gP; refine sP ?_) | (apply gC; refine sC ?_) | (apply gD; refine sD ?_) | fail)
        apply gW; refine sW (r := (fb.length : Int) - (D : Int)) ?_ (wr_i64 (by omega) (by omega))
        repeat' (first | refine go ?_ | intro _ | (apply cG; first | refine cT ?_ | refine cF ?_ | refine cS (fun _ => ?_) fun _ => ?_) | (apply gI; refine sI ?_) | (apply gE; refine sE ?_) | (apply gP; refine sP ?_) | (apply gC; refine sC ?_) | (apply gD; refine sD ?_) | fail)
        apply gW; refine sW (r := mi) ?_ hmin
        repeat' (first | refine go ?_ | intro _ | (apply cG; first | refine cT ?_ | refine cF ?_ | refine cS (fun _ => ?_) fun _ => ?_) | (apply gI; refine sI ?_) | (apply gE; refine sE ?_) | (apply gP; refine sP ?_) | (apply gC; refine sC ?_) | (apply gD; refine sD ?_) | fail)
        apply gW; refine sW (r := (m : Int)) ?_ hmax
        repeat' (first | refine go ?_ | intro _ | (apply cG; first | refine cT ?_ | refine cF ?_ | refine cS (fun _ => ?_) fun _ => ?_) | (apply gW; refine sW ?_) | (apply gI; refine sI ?_) | (apply gE; refine sE ?_) | (apply gP; refine sP ?_) | (apply gC; refine sC ?_) | (apply gD; refine sD ?_) | fail)
        exact E_join () trivial ⟨rfl, trivial⟩ Sb
    rintro ⟨⟩ u2 _
    ((try dsimp only); refine C_n ?_; (try simp only [Nat.reduceAdd, Nat.zero_add]))
    repeat' (first | refine go ?_ | intro _ | (apply cG; first | refine cT ?_ | refine cF ?_ | refine cS (fun _ => ?_) fun _ => ?_) | (apply gW; refine sW ?_) | (apply gI; refine sI ?_) | (apply gE; refine sE ?_) | (apply gP; refine sP ?_) | (apply gC; refine sC ?_) | (apply gD; refine sD ?_) | fail)
    have htn : ((D : Int) + (m : Int)).toNat - 0 = D + m := by omega
    rw [htn, List.drop_zero, hb1]
    refine O_d (dy_call ArgsI.pf (by first | exact rfl | trivial | (intro a b; rfl)) (Clone_ct (l := b1) Sc.pf (by omega))) ?_; rintro _ _ ⟨_, ⟨A2, c2, rfl, rfl⟩, rfl⟩; refine O_n ?_
    repeat' (first | refine go ?_ | intro _ | (apply cG; first | refine cT ?_ | refine cF ?_ | refine cS (fun _ => ?_) fun _ => ?_) | (apply gW; refine sW ?_) | (apply gI; refine sI ?_) | (apply gE; refine sE ?_) | (apply gP; refine sP ?_) | (apply gC; refine sC ?_) | (apply gD; refine sD ?_) | fail)
    refine C_sub (S := cel p [.map (some mb), .int .i64 room, .bool off, .bool armed, .int .i64 left] 62 :: mapo mDB mb (crS (ys.take i) bs files) :: own 68 eElP (.slice Al (loosC bs).length cl) (loosC bs) :: own 5 eB (.slice A2 b1.length c2) b1 :: cel bx [.slice A2 b1.length c2, .int .i64 (D : Int)] 66 :: own 3 eI (.slice A1 ys.length c1) ys :: sp (bs.map owC) :: imF files :: rd eI (.slice Ak kp.length ck) kp :: L) Sb ?_
    refine C_loopS (κ := Nat × Option Addr × Nat) [false, false, false, false, false, false, true, false, false, false, false, true, false, false, false, false, false, false, false, false, false, false, false, false, false, false, false, false, false, false, false, false, false, false, false, false, false, false, false, false, false, false, false, false, false, false, false, false, false, false, false, false, false, false, false, true, true, true, true, true, true, true, true, true, true, true, true, true, true, false, false, false, false, false, false, false, false, false, false, false, false, false, false, false, false, false, false, false, false, false, false, false, false, false, false, false, false, false, false, false, false, false, false, false, false, false, false] (fun k => [(6, .slice k.2.1 (loosC bs ++ (loos D k.1).map fun i => (A2, i)).length k.2.2), (11, .int .i64 ((D + k.1 : Nat) : Int))]) (fun k => [(2, own 68 eElP (.slice k.2.1 (loosC bs ++ (loos D k.1).map fun i => (A2, i)).length k.2.2) (loosC bs ++ (loos D k.1).map fun i => (A2, i)))]) (fun k => k.1 ≤ m) (fun k => m - k.1) (0, Al, cl) (Nat.zero_le _) ⟨by show Value.slice Al (loosC bs).length cl = Value.slice Al (loosC bs ++ (loos D 0).map fun i => (A2, i)).length cl; simp [loos], rfl, trivial⟩ ?_ (by simp only [loos, List.range_zero, List.map_nil, List.append_nil]; exact Sub.refl _)
    rintro ⟨j, Al3, cl3⟩ u3 hj
    dsimp only at hj
    dsimp only
    have hjl : (loosC bs ++ (loos D j).map fun i => (A2, i)).length = (loosC bs).length + j := by rw [List.length_append, List.length_map, loos_len]
    have hjs : (loosC bs ++ (loos D j).map fun i => (A2, i)) ++ [(A2, D + j)] = loosC bs ++ (loos D (j + 1)).map fun i => (A2, i) := by rw [loos_succ, List.map_append, List.append_assoc]; rfl
    obtain ⟨lj, hlj⟩ : ∃ lj, (loosC bs ++ (loos D j).map fun i => (A2, i)) = lj := ⟨_, rfl⟩
    rw [hlj] at hjl hjs
    ((try dsimp only); refine C_n ?_; (try simp only [Nat.reduceAdd, Nat.zero_add]))
    by_cases hlt2 : j < m
    · obtain ⟨yb, hyb⟩ : ∃ yb, b1[D + j]? = some yb := ⟨_, List.getElem?_eq_getElem (by omega)⟩
      have hayb : At b1 (D + j) yb := ⟨hyb⟩
      rw [hlj]
      repeat' (first | refine go ?_ | intro _ | (apply cG; first | refine cT ?_ | refine cF ?_ | refine cS (fun _ => ?_) fun _ => ?_) | (apply gW; refine sW ?_) | (apply gI; refine sI ?_) | (apply gE; refine sE ?_) | (apply gP; refine sP ?_) | (apply gC; refine sC ?_) | (apply gD; refine sD ?_) | fail)
      refine O_d (dy_lit1 (R := eElP) (A2, D + j) (hcs := by rfl) (hel := fun _ _ _ => by rfl)) ?_; rintro _ _ ⟨_, rfl, rfl⟩; refine O_n ?_
      refine O_d (dy_append (l := lj) (l2 := [(A2, D + j)]) (N := lj.length + 1) (hN := rfl)) ?_; rintro _ _ ⟨A7, c7, rfl, rfl⟩; refine O_n ?_
      rw [show lj.length + 1 = (lj ++ [(A2, D + j)]).length by rw [List.length_append]; rfl, hjs]
      repeat' (first | refine go ?_ | intro _ | (apply cG; first | refine cT ?_ | refine cF ?_ | refine cS (fun _ => ?_) fun _ => ?_) | (apply gW; refine sW ?_) | (apply gI; refine sI ?_) | (apply gE; refine sE ?_) | (apply gP; refine sP ?_) | (apply gC; refine sC ?_) | (apply gD; refine sD ?_) | fail)
      exact E_round (j + 1, A7, c7) hlt2 (by show m - (j + 1) < m - j; omega) ⟨rfl, by push_cast; rfl, trivial⟩ Sb
    obtain rfl : j = m := by omega
    rw [hlj]
    repeat' (first | refine go ?_ | intro _ | (apply cG; first | refine cT ?_ | refine cF ?_ | refine cS (fun _ => ?_) fun _ => ?_) | (apply gW; refine sW ?_) | (apply gI; refine sI ?_) | (apply gE; refine sE ?_) | (apply gP; refine sP ?_) | (apply gC; refine sC ?_) | (apply gD; refine sD ?_) | fail)
    refine O_sub (S := dskG mDB p ⟨crS (ys.take i) bs files, room, off, armed, left⟩ :: cel bx [.slice A2 b1.length c2, .int .i64 (D : Int)] 66 :: own 68 eElP (.slice Al3 lj.length cl3) lj :: own 5 eB (.slice A2 b1.length c2) b1 :: own 3 eI (.slice A1 ys.length c1) ys :: sp (bs.map owC) :: imF files :: rd eI (.slice Ak kp.length ck) kp :: L) (Sub.trans (B := cel p [.map (some mb), .int .i64 room, .bool off, .bool armed, .int .i64 left] 62 :: mapo mDB mb (crS (ys.take i) bs files) :: cel bx [.slice A2 b1.length c2, .int .i64 (D : Int)] 66 :: own 68 eElP (.slice Al3 lj.length cl3) lj :: own 5 eB (.slice A2 b1.length c2) b1 :: own 3 eI (.slice A1 ys.length c1) ys :: sp (bs.map owC) :: imF files :: rd eI (.slice Ak kp.length ck) kp :: L) Sb (dsk_sub (R := mDB) (d := ⟨crS (ys.take i) bs files, room, off, armed, left⟩))) ?_
    refine O_d (dy_call ArgsI.pf (by first | exact rfl | trivial | (intro a b; rfl)) (CT.pull (i := 0) (by rfl) (dSet_ct (R := mDB) (x := ⟨.slice A2 b1.length c2, b1, (D : Int)⟩) rfl mDB_val (fun _ _ _ => trivial)))) ?_; rintro _ _ ⟨_, ⟨rfl, rfl⟩, rfl⟩; refine O_n ?_
    dsimp only
    have htk : ys.take (i + 1) = ys.take i ++ [y] := by rw [List.take_add_one, hy]; rfl
    have hsn := crS_snoc (ys := ys.take i) (bs := bs) (l := files) (y := y) (x := ⟨A2, c2, b1, D, j⟩) (by rw [List.length_take]; omega)
    rw [← htk] at hsn
    have hsn2 : setF y ⟨.slice A2 b1.length c2, b1, (D : Int)⟩ (crS (ys.take i) bs files) = crS (ys.take (i + 1)) (bs ++ [⟨A2, c2, b1, D, j⟩]) files := hsn.symm
    rw [hsn2]
    have hll : loosC (bs ++ [⟨A2, c2, b1, D, j⟩]) = lj := by rw [loosC_snoc]; exact hlj
    repeat' (first | refine go ?_ | intro _ | (apply cG; first | refine cT ?_ | refine cF ?_ | refine cS (fun _ => ?_) fun _ => ?_) | (apply gW; refine sW ?_) | (apply gI; refine sI ?_) | (apply gE; refine sE ?_) | (apply gP; refine sP ?_) | (apply gC; refine sC ?_) | (apply gD; refine sD ?_) | fail)
    refine E_round ⟨i + 1, bs ++ [⟨A2, c2, b1, D, j⟩], Al3, cl3⟩ ⟨hlt, by dsimp only; rw [List.length_append, hbl]; rfl, ?_, ?_, ?_⟩ (by show ys.length - (i + 1) < ys.length - i; omega) ⟨by dsimp only; rw [hll]; rfl, rfl, trivial⟩ ?_
    · dsimp only
      rw [List.map_append, hbk, keptL_succ]
      congr 1
      show [(D, b1)] = _
      rw [← hkept]
      unfold kept
      rfl
    · intro x hx
      rcases List.mem_append.1 hx with hx | hx
      · exact hbm x hx
      · simp only [List.mem_cons, List.not_mem_nil, or_false] at hx
        subst hx
        exact hb1l
    · dsimp only
      rw [hll, hjl]
      omega
    · dsimp only
      rw [hll, List.map_append]
      refine Sub.trans (B := own 5 eB (.slice A2 b1.length c2) b1 :: sp (bs.map owC) :: own 3 eI (.slice A1 ys.length c1) ys :: dskG mDB p ⟨crS (ys.take (i + 1)) (bs ++ [⟨A2, c2, b1, D, j⟩]) files, room, off, armed, left⟩ :: own 68 eElP (.slice Al3 lj.length cl3) lj :: imF files :: rd eI (.slice Ak kp.length ck) kp :: L) Sb (Sub.trans (B := sp (bs.map owC ++ [own 5 eB (.slice A2 b1.length c2) b1]) :: own 3 eI (.slice A1 ys.length c1) ys :: dskG mDB p ⟨crS (ys.take (i + 1)) (bs ++ [⟨A2, c2, b1, D, j⟩]) files, room, off, armed, left⟩ :: own 68 eElP (.slice Al3 lj.length cl3) lj :: imF files :: rd eI (.slice Ak kp.length ck) kp :: L) sub_spsnoc ?_)
      exact Sb
  obtain rfl : i = ys.length := by omega
  have hT := loosC_len hbm
  have hcr : crL kp z ys files = turnL (atZ z (loosC bs).length) (bs.map prC) := by unfold crL; rw [← hbk, ← hT]
  have hbx : ∀ (j : Nat) (y : Int) (x : CB), ys[j]? = some y → bs[j]? = some x → x.b.length ≤ (fileF y files).b.length := fun j y x hy hx => by
    have h1 := congrArg (fun q => q[j]?) hbk
    have hj := (List.getElem?_eq_some_iff.1 hy).1
    unfold keptL at h1
    simp only [List.getElem?_map, hx, List.getElem?_range hj, Option.map_some, Option.some.injEq, List.getD_eq_getElem?_getD, hy, Option.getD_some] at h1
    have h2 : x.b = (kept kp files j y).2 := by rw [← h1]; rfl
    rw [h2]
    unfold kept
    rw [List.length_take]
    omega
  rw [List.take_length]
  by_cases hz0 : 0 ≤ z
  rotate_left
  · have hnf : bs.map (fun x => x.b) = crL kp z ys files := by
      rw [hcr, turnL_none (by unfold atZ; rw [if_neg (fun h => hz0 h.1), hT]; exact Nat.le_refl _), List.map_map]
      rfl
    have hus := crS_used (bs := bs) (l := files) hnd (by omega) hbx
    repeat' (first | refine go ?_ | intro _ | (apply cG; first | refine cT ?_ | refine cF ?_ | refine cS (fun _ => ?_) fun _ => ?_) | (apply gW; refine sW ?_) | (apply gI; refine sI ?_) | (apply gE; refine sE ?_) | (apply gP; refine sP ?_) | (apply gC; refine sC ?_) | (apply gD; refine sD ?_) | fail)
    refine O_frzC 3 (bs := bs) ?_ rfl
    refine O_sub (S := dsk p ⟨crS ys bs files, room, off, armed, left⟩ :: imC bs :: L) (Sub.trans (B := dskG mDB p ⟨crS ys bs files, room, off, armed, left⟩ :: imC bs :: L) Sb (sub_clad (fun m h hs => by obtain ⟨y, hy, k⟩ := hs.mem (.head _); exact crS_sl hp hok.k hbl k))) ?_
    refine O_d (dy_call ArgsI.pf (by first | exact rfl | trivial | (intro a b; rfl)) (CT.pull (i := 0) (by rfl) (dHarden_ct (d := ⟨crS ys bs files, room, off, armed, left⟩) (crS_ok hok.k) (by show usedL (crS ys bs files) ≤ _; omega)))) ?_; rintro _ _ ⟨_, ⟨rfl, rfl⟩, rfl⟩; refine O_n ?_
    dsimp only
    refine dsk_O 0 rfl fun mb2 => ?_
    simp only [List.eraseIdx_cons_zero]
    repeat' (first | refine go ?_ | intro _ | (apply cG; first | refine cT ?_ | refine cF ?_ | refine cS (fun _ => ?_) fun _ => ?_) | (apply gW; refine sW ?_) | (apply gI; refine sI ?_) | (apply gE; refine sE ?_) | (apply gP; refine sP ?_) | (apply gC; refine sC ?_) | (apply gD; refine sD ?_) | fail)
    refine E_sub (S := dsk p ⟨hardL (crS ys bs files), room, false, false, left⟩ :: L) (Sub.trans (B := cel p [.map (some mb2), .int .i64 room, .bool false, .bool false, .int .i64 left] 62 :: mapo mDF mb2 (hardL (crS ys bs files)) :: L) Sb (dsk_sub (R := mDF) (d := ⟨hardL (crS ys bs files), room, false, false, left⟩))) ?_
    refine E_end0 (by first | exact .inl rfl | exact .inr rfl) (by rfl) (by rfl) ⟨ys, hardL (crS ys bs files), hp, hsort, crOk_of hp hok.k hbl hnf, ⟨hard_ok (crS_ok hok.k), hok.r0, hok.r1, by show (usedL (hardL (crS ys bs files)) : Int) ≤ room; rw [hard_used]; omega, fun n => by show 0 ≤ (fileF n (hardL (crS ys bs files))).d ∧ _; rw [(fileF_hard _).2]; exact ⟨by omega, by show _ ≤ (((fileF n (hardL (crS ys bs files))).b.length : Nat) : Int); rw [(fileF_hard _).1]; exact Int.le_refl _⟩⟩, rfl, rfl⟩
  by_cases hm0 : 0 < (loosC bs).length
  rotate_left
  · have hnf : bs.map (fun x => x.b) = crL kp z ys files := by
      rw [hcr, turnL_none (by unfold atZ; rw [if_neg (fun h => hm0 h.2), hT]; exact Nat.le_refl _), List.map_map]
      rfl
    have hus := crS_used (bs := bs) (l := files) hnd (by omega) hbx
    repeat' (first | refine go ?_ | intro _ | (apply cG; first | refine cT ?_ | refine cF ?_ | refine cS (fun _ => ?_) fun _ => ?_) | (apply gW; refine sW ?_) | (apply gI; refine sI ?_) | (apply gE; refine sE ?_) | (apply gP; refine sP ?_) | (apply gC; refine sC ?_) | (apply gD; refine sD ?_) | fail)
    refine O_frzC 3 (bs := bs) ?_ rfl
    refine O_sub (S := dsk p ⟨crS ys bs files, room, off, armed, left⟩ :: imC bs :: L) (Sub.trans (B := dskG mDB p ⟨crS ys bs files, room, off, armed, left⟩ :: imC bs :: L) Sb (sub_clad (fun m h hs => by obtain ⟨y, hy, k⟩ := hs.mem (.head _); exact crS_sl hp hok.k hbl k))) ?_
    refine O_d (dy_call ArgsI.pf (by first | exact rfl | trivial | (intro a b; rfl)) (CT.pull (i := 0) (by rfl) (dHarden_ct (d := ⟨crS ys bs files, room, off, armed, left⟩) (crS_ok hok.k) (by show usedL (crS ys bs files) ≤ _; omega)))) ?_; rintro _ _ ⟨_, ⟨rfl, rfl⟩, rfl⟩; refine O_n ?_
    dsimp only
    refine dsk_O 0 rfl fun mb2 => ?_
    simp only [List.eraseIdx_cons_zero]
    repeat' (first | refine go ?_ | intro _ | (apply cG; first | refine cT ?_ | refine cF ?_ | refine cS (fun _ => ?_) fun _ => ?_) | (apply gW; refine sW ?_) | (apply gI; refine sI ?_) | (apply gE; refine sE ?_) | (apply gP; refine sP ?_) | (apply gC; refine sC ?_) | (apply gD; refine sD ?_) | fail)
    refine E_sub (S := dsk p ⟨hardL (crS ys bs files), room, false, false, left⟩ :: L) (Sub.trans (B := cel p [.map (some mb2), .int .i64 room, .bool false, .bool false, .int .i64 left] 62 :: mapo mDF mb2 (hardL (crS ys bs files)) :: L) Sb (dsk_sub (R := mDF) (d := ⟨hardL (crS ys bs files), room, false, false, left⟩))) ?_
    refine E_end0 (by first | exact .inl rfl | exact .inr rfl) (by rfl) (by rfl) ⟨ys, hardL (crS ys bs files), hp, hsort, crOk_of hp hok.k hbl hnf, ⟨hard_ok (crS_ok hok.k), hok.r0, hok.r1, by show (usedL (hardL (crS ys bs files)) : Int) ≤ room; rw [hard_used]; omega, fun n => by show 0 ≤ (fileF n (hardL (crS ys bs files))).d ∧ _; rw [(fileF_hard _).2]; exact ⟨by omega, by show _ ≤ (((fileF n (hardL (crS ys bs files))).b.length : Nat) : Int); rw [(fileF_hard _).1]; exact Int.le_refl _⟩⟩, rfl, rfl⟩
  have hlt8 := atZ_lt (z := z) (many := (loosC bs).length) ⟨hz0, hm0⟩
  obtain ⟨k, hk⟩ : ∃ k, atZ z (loosC bs).length = k := ⟨_, rfl⟩
  rw [hk] at hlt8 hcr
  obtain ⟨jj, x, o, hx, ho, hlo2, htu⟩ := turnL_at (bs := bs) (at_ := k) hbm (by omega)
  have hkz : z % (8 * ((loosC bs).length : Int)) = (k : Int) := by
    have h1 := Int.emod_nonneg z (b := 8 * ((loosC bs).length : Int)) (by omega)
    unfold atZ at hk
    rw [if_pos ⟨hz0, hm0⟩] at hk
    push_cast at hk
    omega
  have hxl := hbm x (List.mem_of_getElem? hx)
  obtain ⟨A2, c2, b1, D, m⟩ := x
  dsimp only at ho hlo2 htu hxl
  refine C_sub (S := own 5 eB (.slice A2 b1.length c2) b1 :: sp ((bs.eraseIdx jj).map owC) :: own 68 eElP (.slice Al (loosC bs).length cl) (loosC bs) :: dskG mDB p ⟨crS ys bs files, room, off, armed, left⟩ :: L) (Sub.trans (B := sp (bs.map owC) :: own 68 eElP (.slice Al (loosC bs).length cl) (loosC bs) :: dskG mDB p ⟨crS ys bs files, room, off, armed, left⟩ :: L) Sb (sub_spout hx)) ?_
  refine C_fact (φ := A2 = none → b1 = []) (fun w s hA => by subst hA; exact (Src.sl (.inr ⟨_, .head _⟩) s : Sl _ eB _ b1).nil_of) fun hA => ?_
  obtain ⟨ad, rfl⟩ : ∃ ad, A2 = some ad := by
    cases A2 with
    | none => have := hA rfl; rw [this] at hxl; simp only [List.length_nil] at hxl; omega
    | some ad => exact ⟨ad, rfl⟩
  refine C_fact (φ := Al = none → loosC bs = []) (fun w s hA => by subst hA; exact (Src.sl (.inr ⟨_, .tail _ (.tail _ (.head _))⟩) s : Sl _ eElP _ (loosC bs)).nil_of) fun hAl => ?_
  obtain ⟨al, rfl⟩ : ∃ al, Al = some al := by
    cases Al with
    | none => have := hAl rfl; rw [this] at hm0; simp only [List.length_nil] at hm0; omega
    | some al => exact ⟨al, rfl⟩
  repeat' (first | refine go ?_ | intro _ | (apply cG; first | refine cT ?_ | refine cF ?_ | refine cS (fun _ => ?_) fun _ => ?_) | (apply gI; refine sI ?_) | (apply gE; refine sE ?_) | (apply gP; refine sP ?_) | (apply gC; refine sC ?_) | (apply gD; refine sD ?_) | fail)
  apply gW; refine sW (r := 8 * ((loosC bs).length : Int)) ?_ (wr_i64 (by omega) (by omega))
  repeat' (first | refine go ?_ | intro _ | (apply cG; first | refine cT ?_ | refine cF ?_ | refine cS (fun _ => ?_) fun _ => ?_) | (apply gI; refine sI ?_) | (apply gE; refine sE ?_) | (apply gP; refine sP ?_) | (apply gC; refine sC ?_) | (apply gD; refine sD ?_) | fail)
  apply gW; refine sW (r := (k : Int)) ?_ ⟨by omega, by rw [wm_nn (by omega)]; exact hkz⟩
  repeat' (first | refine go ?_ | intro _ | (apply cG; first | refine cT ?_ | refine cF ?_ | refine cS (fun _ => ?_) fun _ => ?_) | (apply gI; refine sI ?_) | (apply gE; refine sE ?_) | (apply gP; refine sP ?_) | (apply gC; refine sC ?_) | (apply gD; refine sD ?_) | fail)
  refine C_draw (n := 13) [own 68 eElP (.slice (some al) (loosC bs).length cl) (loosC bs), own 5 eB (.slice (some ad) b1.length c2) b1] [(0, 1), (1, 1), (2, 1), (3, 1), (4, 1), (5, 1), (6, 1), (7, 1), (8, 1), (9, 1), (10, 1), (11, 1), (12, 1), (13, 0)] (by kernel_rfl) (by kernel_rfl) Sb ?_
  have hal : At (loosC bs) (k / 8) (some ad, D + o) := ⟨hlo2⟩
  obtain ⟨y, hy3⟩ : ∃ y, b1[D + o]? = some y := ⟨_, List.getElem?_eq_getElem (by omega)⟩
  have hay : At b1 (D + o) y := ⟨hy3⟩
  obtain ⟨hz8, _⟩ := fl8_eq (y := y) (s := 7 - k % 8) (by omega)
  repeat' (first | refine go ?_ | intro _ | (apply cG; first | refine cT ?_ | refine cF ?_ | refine cS (fun _ => ?_) fun _ => ?_) | (apply gI; refine sI ?_) | (apply gE; refine sE ?_) | (apply gP; refine sP ?_) | (apply gC; refine sC ?_) | (apply gD; refine sD ?_) | fail)
  apply gW; refine sW (r := ((k / 8 : Nat) : Int)) ?_ ⟨by decide, by show IntKind.i64.wrap ((k / 8 : Nat) : Int) = ((k / 8 : Nat) : Int); exact wr_i64 (by omega) (by omega)⟩
  repeat' (first | refine go ?_ | intro _ | (apply cG; first | refine cT ?_ | refine cF ?_ | refine cS (fun _ => ?_) fun _ => ?_) | (apply gI; refine sI ?_) | (apply gE; refine sE ?_) | (apply gP; refine sP ?_) | (apply gC; refine sC ?_) | (apply gD; refine sD ?_) | fail)
  refine D_op rfl ?_; refine X_s (sv_nilE (s := 1) (o := 0) Ev.pf) ?_
  repeat' (first | refine go ?_ | intro _ | (apply cG; first | refine cT ?_ | refine cF ?_ | refine cS (fun _ => ?_) fun _ => ?_) | (apply gI; refine sI ?_) | (apply gE; refine sE ?_) | (apply gP; refine sP ?_) | (apply gC; refine sC ?_) | (apply gD; refine sD ?_) | fail)
  apply gW; refine sW (r := ((k % 8 : Nat) : Int)) ?_ ⟨by decide, rfl⟩
  repeat' (first | refine go ?_ | intro _ | (apply cG; first | refine cT ?_ | refine cF ?_ | refine cS (fun _ => ?_) fun _ => ?_) | (apply gI; refine sI ?_) | (apply gE; refine sE ?_) | (apply gP; refine sP ?_) | (apply gC; refine sC ?_) | (apply gD; refine sD ?_) | fail)
  apply gW; refine sW (r := ((7 - k % 8 : Nat) : Int)) ?_ (by rw [wr_i64 (by omega) (by omega)]; omega)
  repeat' (first | refine go ?_ | intro _ | (apply cG; first | refine cT ?_ | refine cF ?_ | refine cS (fun _ => ?_) fun _ => ?_) | (apply gI; refine sI ?_) | (apply gE; refine sE ?_) | (apply gP; refine sP ?_) | (apply gC; refine sC ?_) | (apply gD; refine sD ?_) | fail)
  refine D_op rfl ?_; refine X_s (sv_shl (hr := (show IntKind.u8.wrap (1 * 2 ^ (((7 - k % 8 : Nat) : Int)).toNat) = IntKind.u8.wrap (1 * 2 ^ (7 - k % 8)) from rfl))) ?_
  refine D_op rfl ?_; refine X_s (sv_xor (hr := hz8)) ?_
  repeat' (first | refine go ?_ | intro _ | (apply cG; first | refine cT ?_ | refine cF ?_ | refine cS (fun _ => ?_) fun _ => ?_) | (apply gI; refine sI ?_) | (apply gE; refine sE ?_) | (apply gP; refine sP ?_) | (apply gC; refine sC ?_) | (apply gD; refine sD ?_) | fail)
  refine D_op rfl ?_; refine X_s (sv_nilE (s := 1) (o := 0) Ev.pf) ?_
  repeat' (first | refine go ?_ | intro _ | (apply cG; first | refine cT ?_ | refine cF ?_ | refine cS (fun _ => ?_) fun _ => ?_) | (apply gI; refine sI ?_) | (apply gE; refine sE ?_) | (apply gP; refine sP ?_) | (apply gC; refine sC ?_) | (apply gD; refine sD ?_) | fail)
  refine D_op rfl ?_; refine X_d (dy_storeE (f := bv) (hf := fun _ => rfl) (n := b1.length) (c := c2) (fl8 y (7 - k % 8)) (hy := by rfl) (hj := by omega)) ?_; rintro _ _ ⟨rfl, hLL⟩; replace hLL := hLL.trans SAt.pf; subst hLL; refine ⟨(by first | exact .inl rfl | exact .inr Sb), D_n ?_⟩
  obtain ⟨b2, hb2⟩ : ∃ b2, b1.set (D + o) (fl8 y (7 - k % 8)) = b2 := ⟨_, rfl⟩
  have hb2l : b2.length = b1.length := by rw [← hb2, List.length_set]
  have hgd : b1.getD (D + o) 0 = y := by rw [List.getD_eq_getElem?_getD, hy3]; rfl
  rw [hgd, hb2] at htu
  rw [hb2]
  obtain ⟨bs2, hbs2⟩ : ∃ bs2, bs.set jj ⟨some ad, c2, b2, D, m⟩ = bs2 := ⟨_, rfl⟩
  have hnf : bs2.map (fun x => x.b) = crL kp z ys files := by rw [hcr, htu, ← hbs2, List.map_set]
  have hbl2 : bs2.length = ys.length := by rw [← hbs2, List.length_set]; exact hbl
  have hgh : All2 ghostR (crS ys bs files) (crS ys bs2 files) := by
    rw [← hbs2]
    exact ghost_crS (ghostC_set hx hb2l) (ghost_rfl files)
  have hus := crS_used (bs := bs2) (l := files) hnd (by omega) (fun q y' x' hy' hx' => by
    rw [← hbs2] at hx'
    by_cases hq : jj = q
    · subst hq
      rw [List.getElem?_set_self (List.getElem?_eq_some_iff.1 hx).1] at hx'
      injection hx' with hx'
      subst hx'
      have := hbx jj y' _ hy' hx
      dsimp only at this ⊢
      omega
    · rw [List.getElem?_set_ne hq] at hx'
      exact hbx q y' x' hy' hx')
  have hms : ∀ x ∈ bs2, x = ⟨some ad, c2, b2, D, m⟩ ∨ x ∈ bs.eraseIdx jj := fun x hx => by rw [← hbs2] at hx; exact mem_setC hx
  repeat' (first | refine go ?_ | intro _ | (apply cG; first | refine cT ?_ | refine cF ?_ | refine cS (fun _ => ?_) fun _ => ?_) | (apply gW; refine sW ?_) | (apply gI; refine sI ?_) | (apply gE; refine sE ?_) | (apply gP; refine sP ?_) | (apply gC; refine sC ?_) | (apply gD; refine sD ?_) | fail)
  refine O_frz 0 ?_
  refine O_frzC 1 (bs := bs.eraseIdx jj) ?_ rfl
  refine O_sub (S := dsk p ⟨crS ys bs2 files, room, off, armed, left⟩ :: rd eB (.slice (some ad) b1.length c2) b2 :: imC (bs.eraseIdx jj) :: L) (Sub.trans (B := dskG mDB p ⟨crS ys bs files, room, off, armed, left⟩ :: rd eB (.slice (some ad) b1.length c2) b2 :: imC (bs.eraseIdx jj) :: L) Sb (Sub.trans (sub_ghost (l' := crS ys bs2 files) hgh) (sub_clad (fun m h hs => by
    obtain ⟨y, hy, k⟩ := hs.mem (.tail _ (.head _))
    refine crS_sl hp hok.k hbl2 fun x hx => ?_
    rcases hms x hx with rfl | hx
    · dsimp only
      rw [hb2l]
      exact rd_mem hs (.head _)
    · exact k x hx)))) ?_
  refine O_d (dy_call ArgsI.pf (by first | exact rfl | trivial | (intro a b; rfl)) (CT.pull (i := 0) (by rfl) (dHarden_ct (d := ⟨crS ys bs2 files, room, off, armed, left⟩) (crS_ok hok.k) (by show usedL (crS ys bs2 files) ≤ _; omega)))) ?_; rintro _ _ ⟨_, ⟨rfl, rfl⟩, rfl⟩; refine O_n ?_
  dsimp only
  refine dsk_O 0 rfl fun mb2 => ?_
  simp only [List.eraseIdx_cons_zero]
  repeat' (first | refine go ?_ | intro _ | (apply cG; first | refine cT ?_ | refine cF ?_ | refine cS (fun _ => ?_) fun _ => ?_) | (apply gW; refine sW ?_) | (apply gI; refine sI ?_) | (apply gE; refine sE ?_) | (apply gP; refine sP ?_) | (apply gC; refine sC ?_) | (apply gD; refine sD ?_) | fail)
  refine E_sub (S := dsk p ⟨hardL (crS ys bs2 files), room, false, false, left⟩ :: L) (Sub.trans (B := cel p [.map (some mb2), .int .i64 room, .bool false, .bool false, .int .i64 left] 62 :: mapo mDF mb2 (hardL (crS ys bs2 files)) :: L) Sb (dsk_sub (R := mDF) (d := ⟨hardL (crS ys bs2 files), room, false, false, left⟩))) ?_
  refine E_end0 (by first | exact .inl rfl | exact .inr rfl) (by rfl) (by rfl) ⟨ys, hardL (crS ys bs2 files), hp, hsort, crOk_of hp hok.k hbl2 hnf, ⟨hard_ok (crS_ok hok.k), hok.r0, hok.r1, by show (usedL (hardL (crS ys bs2 files)) : Int) ≤ room; rw [hard_used]; omega, fun n => by show 0 ≤ (fileF n (hardL (crS ys bs2 files))).d ∧ _; rw [(fileF_hard _).2]; exact ⟨by omega, by show _ ≤ (((fileF n (hardL (crS ys bs2 files))).b.length : Nat) : Int); rw [(fileF_hard _).1]; exact Int.le_refl _⟩⟩, rfl, rfl⟩
end
end Go.Proofs.YtbjaecofccpahaaGreat
