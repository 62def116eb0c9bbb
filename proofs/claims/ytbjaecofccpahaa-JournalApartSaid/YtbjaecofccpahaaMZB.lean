/-
  Walks: JournalApart.
-/
import Derived.Test.YtbjaecofccpahaaMZ
import Derived.Test.YtbjaecofccpahaaMZA
import Derived.Test.YtbjaecofccpahaaMC
namespace Go.Proofs.Ytbjaecofccpahaa
open Go Go.RowKit
set_option linter.unusedVariables false
set_option linter.unusedSimpArgs false
set_option maxRecDepth 20000
set_option synthInstance.maxSize 100000
set_option synthInstance.maxHeartbeats 400000
/-- two files alone -/
structure JT (d : DK) (f g : Int) (B C : List UInt8) : Prop where
  ok : DOk d
  on : d.off = false
  na : d.armed = false
  l : d.left = 0
  room : d.room = 5000
  keys : ∀ n, n ∈ d.files.map Prod.fst → n = f ∨ n = g
  b : (fileF f d.files).b = B
  c : (fileF g d.files).b = C
  u : usedL d.files = B.length + C.length
def Frm (d : DK) : Prop := ∀ n, (fileF n d.files).d = ((fileF n d.files).b.length : Int)
theorem JT.swap {d : DK} {f g : Int} {B C : List UInt8} (h : JT d f g B C) : JT d g f C B := ⟨h.ok, h.on, h.na, h.l, h.room, fun n hn => (h.keys n hn).symm, h.c, h.b, by rw [h.u, Nat.add_comm]⟩
theorem JT.few {d : DK} {f g : Int} {B C : List UInt8} (h : JT d f g B C) : d.files.length ≤ 64 := by
  have hk := h.ok.k
  have hk2 := h.keys
  obtain ⟨files, room, off, armed, left⟩ := d
  dsimp only at hk hk2 ⊢
  match files, hk, hk2 with
  | [], _, _ => decide
  | [_], _, _ => show 1 ≤ 64; decide
  | [_, _], _, _ => show 2 ≤ 64; decide
  | p :: q :: r :: l, hk, hk2 =>
    exfalso
    have h1 := List.nodup_cons.1 hk
    have h2 := List.nodup_cons.1 h1.2
    have a1 : p.1 ≠ q.1 := fun e => h1.1 (e ▸ List.mem_cons_self)
    have a2 : p.1 ≠ r.1 := fun e => h1.1 (e ▸ List.mem_cons_of_mem _ List.mem_cons_self)
    have a3 : q.1 ≠ r.1 := fun e => h2.1 (e ▸ List.mem_cons_self)
    have b1 := hk2 p.1 List.mem_cons_self
    have b2 := hk2 q.1 (List.mem_cons_of_mem _ List.mem_cons_self)
    have b3 := hk2 r.1 (List.mem_cons_of_mem _ (List.mem_cons_of_mem _ List.mem_cons_self))
    omega
theorem JT.set {d : DK} {f g : Int} {B C : List UInt8} (h : JT d f g B C) (hne : f ≠ g) {x : DF} (hb : x.b.length + C.length ≤ 5000) (hd : 0 ≤ x.d ∧ x.d ≤ x.b.length) : JT { d with files := setF f x d.files } f g x.b C := by
  have hu := h.u
  have hr := h.room
  have hbl : (fileF f d.files).b.length = B.length := by rw [h.b]
  have hs := set_used (n := f) (x := x) d.files
  refine ⟨h.ok.set (by omega) hd, h.on, h.na, h.l, h.room, fun n hn => ?_, (fileF_set h.ok.k).1, ?_, by dsimp only; omega⟩
  · rcases set_keys hn with rfl | hn
    · exact .inl rfl
    · exact h.keys n hn
  · show (fileF g (setF f x d.files)).b = C
    rw [fileF_set_ne (fun e => hne e.symm)]
    exact h.c
theorem JT.hard {d : DK} {f g : Int} {B C : List UInt8} (h : JT d f g B C) : JT { d with files := hardL d.files } f g B C ∧ Frm { d with files := hardL d.files } :=
  ⟨⟨h.ok.hard, h.on, h.na, h.l, h.room, fun n hn => h.keys n (by rw [← hard_keys]; exact hn), (fileF_hard d.files).1.trans h.b, (fileF_hard d.files).1.trans h.c, (hard_used d.files).trans h.u⟩,
   fun n => by show (fileF n (hardL d.files)).d = _; rw [(fileF_hard _).2]; show _ = (((fileF n (hardL d.files)).b.length : Nat) : Int); rw [(fileF_hard _).1]⟩
theorem JT.sync {d : DK} {f g : Int} {B C : List UInt8} (h : JT d f g B C) : syncF d = ({ d with files := hardL d.files }, 0) := by
  unfold syncF
  rw [if_neg (by simp [h.on]), stepF_na h.na]
  rfl
theorem JT.app {d : DK} {f g n : Int} {B C b : List UInt8} (h : JT d f g B C) (hne : f ≠ g) (hf : 0 ≤ f ∧ f < 64) (hb : (frameF n b).length + B.length + C.length ≤ 5000) (y : Value) :
    ∃ d', logF ⟨f, n, false⟩ d b y = (⟨f, n + 1, false⟩, d', 0) ∧ JT d' f g (B ++ frameF n b) C ∧ Frm d' := by
  obtain ⟨x, hx⟩ : ∃ x : DF, (⟨y, (fileF f d.files).b ++ frameF n b, (fileF f d.files).d⟩ : DF) = x := ⟨_, rfl⟩
  have hxb : x.b = B ++ frameF n b := by rw [← hx, ← h.b]
  have hxl : x.b.length = B.length + (frameF n b).length := by rw [hxb, List.length_append]
  have hu := h.u
  have hr := h.room
  have hd0 := h.ok.d0 f
  have hbl : (fileF f d.files).b.length = B.length := by rw [h.b]
  have hxd : x.d = (fileF f d.files).d := by rw [← hx]
  have ha : appF d f (frameF n b) y = ({ d with files := setF f x d.files }, 0) := by
    unfold appF
    rw [if_pos hf, if_neg (by simp [h.on]), if_neg (by omega), hx]
    dsimp only
    rw [stepF_na (by exact h.na)]
    rfl
  have hj := h.set hne (x := x) (by omega) (by omega)
  have hs := hj.sync
  obtain ⟨h2, h3⟩ := hj.hard
  rw [hxb] at h2
  refine ⟨_, ?_, h2, h3⟩
  unfold logF
  rw [if_neg (by simp)]
  dsimp only
  rw [ha]
  dsimp only
  rw [if_pos rfl, hs]
  rfl
theorem JT.opened {d : DK} {f g : Int} {B C : List UInt8} {N : Nat} (h : JT d f g B C) (hne : f ≠ g) (hN : N ≤ B.length) (y : Value) : ∃ d', openF d f N y = (d', 0) ∧ JT d' f g (B.take N) C ∧ Frm d' := by
  have hu := h.u
  have hr := h.room
  have hou := h.ok.u
  by_cases hlt : N < B.length
  · obtain ⟨x, hx⟩ : ∃ x : DF, (⟨y, (fileF f d.files).b.take N, min (fileF f d.files).d (N : Int)⟩ : DF) = x := ⟨_, rfl⟩
    have hxb : x.b = B.take N := by rw [← hx, ← h.b]
    have hxl : x.b.length = N := by rw [hxb, List.length_take]; omega
    have hd0 := h.ok.d0 f
    have hxd : x.d = min (fileF f d.files).d (N : Int) := by rw [← hx]
    have ht : truncF d f N y = ({ d with files := setF f x d.files }, 0) := by
      unfold truncF
      rw [if_neg (by simp [h.on]), stepF_na h.na]
      dsimp only
      rw [if_pos rfl, hx]
    have hj := h.set hne (x := x) (by omega) (by omega)
    have hs := hj.sync
    obtain ⟨h2, h3⟩ := hj.hard
    rw [hxb] at h2
    refine ⟨_, ?_, h2, h3⟩
    unfold openF
    rw [h.b, if_pos hlt, ht]
    dsimp only
    rw [if_pos rfl, hs]
  · have hNe : B.take N = B := List.take_of_length_le (by omega)
    rw [hNe]
    obtain ⟨h2, h3⟩ := h.hard
    refine ⟨_, ?_, h2, h3⟩
    unfold openF
    rw [h.b, if_neg hlt]
    dsimp only
    rw [if_pos rfl, h.sync]
/-- a crash of a disk that is durable changes nothing -/
theorem firm_crash {ys : List Int} {files F : List (Int × DF)} (hp : ys.Perm (files.map Prod.fst)) (hfr : ∀ n, (fileF n files).d = ((fileF n files).b.length : Int)) (h : CrOk [] (-1) ys files F) (n : Int) : (fileF n F).b = (fileF n files).b := by
  by_cases hn : n ∈ ys
  · obtain ⟨j, hj, hy⟩ := List.getElem_of_mem hn
    have hy2 : ys[j]? = some n := by rw [List.getElem?_eq_getElem hj, hy]
    have h1 := h.at_ j n hy2
    unfold crL at h1
    rw [turnL_none (by unfold atZ; rw [if_neg (fun h => by omega)]; exact Nat.le_refl _)] at h1
    unfold keptL at h1
    simp only [List.getElem?_map, List.getElem?_range hj, Option.map_some, Option.some.injEq, List.getD_eq_getElem?_getD, hy2, Option.getD_some] at h1
    rw [← h1]
    unfold kept
    rw [hfr n]
    exact List.take_of_length_le (by simp)
  · rw [h.ne n hn]
    have : n ∉ files.map Prod.fst := fun h => hn (hp.mem_iff.2 h)
    rw [fileF_no this]
section
variable {W0 : World} {L : List HP}
theorem LApp_t {q p : Nat} {f g n : Int} {d : DK} {v : Value} {b B C : List UInt8} (hv : Src L eB v b) (hb : b.length ≤ 65536) (hn1 : 0 ≤ n) (hn2 : n ≤ 1000000000) (h : JT d f g B C) (hne : f ≠ g) (hf : 0 ≤ f ∧ f < 64) (hbk : (frameF n b).length + B.length + C.length ≤ 5000) :
    CT Try.prog 15 #[.pointer (some ⟨q, 0, none⟩), v] W0 (cel q [.pointer (some ⟨p, 0, none⟩), .int .i64 f, .int .i64 n, .bool false] 70 :: dsk p d :: L) fun r L' => ∃ d', JT d' f g (B ++ frameF n b) C ∧ Frm d' ∧ r = .int .i64 0 ∧ L' = cel q [.pointer (some ⟨p, 0, none⟩), .int .i64 f, .int .i64 (n + 1), .bool false] 70 :: dsk p d' :: L := by
  have hl := h.l
  refine (LApp_ct hv hb hn1 hn2 h.ok (by omega) (by omega)).mono fun r L' h2 => ?_
  obtain ⟨A, c, rfl, rfl⟩ := h2
  obtain ⟨d', e, hj, hfr⟩ := h.app hne hf hbk (.slice A ((fileF f d.files).b ++ frameF n b).length c)
  rw [e]
  exact ⟨d', hj, hfr, rfl, rfl⟩
theorem Open_t {p : Nat} {d : DK} {f g : Int} {B C : List UInt8} {N : Nat} {xs : List (List UInt8)} (h : JT d f g B C) (hne : f ≠ g) (hf : 0 ≤ f ∧ f < 64) (hsc : scanF B.length 0 B = (xs, N)) :
    CT Try.prog 11 #[.pointer (some ⟨p, 0, none⟩), .int .i64 f] W0 (dsk p d :: L) fun r L' => ∃ d' q A3 c3, JT d' f g (B.take N) C ∧ Frm d' ∧ r = .tuple #[.pointer (some ⟨q, 0, none⟩), .slice A3 xs.length c3, .int .i64 0] ∧
      L' = cel q [.pointer (some ⟨p, 0, none⟩), .int .i64 f, .int .i64 (xs.length : Int), .bool false] 70 :: own 23 (eSl eB) (.slice A3 xs.length c3) xs :: dsk p d' :: L := by
  have hst := scanF_take B.length 0 B
  rw [hsc] at hst
  dsimp only at hst
  obtain ⟨_, hN, hxl⟩ := hst
  have hl := h.l
  have hu := h.u
  have hou := h.ok.u
  have hr := h.room
  refine (Open_ct (N := N) (xs := xs) h.ok h.on hf (by rw [h.b]; omega) (by rw [h.b]; exact hsc) (by rw [h.b]; exact hN) (by omega) (by omega) (by omega)).mono fun r L' h2 => ?_
  obtain ⟨A, c, h2⟩ := h2
  obtain ⟨d', e, hj, hfr⟩ := h.opened hne hN (.slice A N c)
  rw [e] at h2
  rcases h2 with ⟨h3, _⟩ | ⟨_, q, A3, c3, rfl, rfl⟩
  · exact absurd rfl h3
  · exact ⟨d', q, A3, c3, hj, hfr, rfl, rfl⟩
structure AS where
  i : Nat
  d : DK
set_option maxHeartbeats 4000000 in
theorem JournalApart_ct {v vm vb : Value} {li lm : List Int} {lb : List UInt8} (hv : rd eI v li ∈ L) (hl : li.length ≤ 9223372036854775807) (hr : ∀ n ∈ li, -9223372036854775808 ≤ n ∧ n ≤ 9223372036854775807) (hv2 : rd eI vm lm ∈ L) (hl2 : lm.length ≤ 9223372036854775807) (hr2 : ∀ n ∈ lm, -9223372036854775808 ≤ n ∧ n ≤ 9223372036854775807) (hb : rd eB vb lb ∈ L) (hbl : lb.length ≤ 9223372036854775807) :
    CT Try.prog 9 #[v, vm, vb] W0 L fun r L' => r = .bool true ∧ L' = L := by
  refine CT_enter Try.func9 rfl ?_; (simp only [Try.ntmps9, List.size_toArray, List.length_cons, List.length_nil, Nat.reduceAdd, Nat.reduceSub, Array.replicate_succ, Array.replicate_zero, List.push_toArray, List.append_toArray, List.nil_append, List.cons_append])
  repeat' (first | refine go ?_ | intro _ | (apply cG; first | refine cT ?_ | refine cF ?_ | refine cS (fun _ => ?_) fun _ => ?_) | (apply gW; refine sW ?_) | (apply gI; refine sI ?_) | (apply gE; refine sE ?_) | (apply gP; refine sP ?_) | (apply gC; refine sC ?_) | (apply gD; refine sD ?_) | fail)
  refine O_d (dy_call ArgsI.pf (by first | exact rfl | trivial | (intro a b; rfl)) (fresh_ct (room := 5000) (by decide) (by decide))) ?_; rintro _ _ ⟨_, ⟨p, rfl, rfl⟩, rfl⟩; refine O_n ?_
  repeat' (first | refine go ?_ | intro _ | (apply cG; first | refine cT ?_ | refine cF ?_ | refine cS (fun _ => ?_) fun _ => ?_) | (apply gW; refine sW ?_) | (apply gI; refine sI ?_) | (apply gE; refine sE ?_) | (apply gP; refine sP ?_) | (apply gC; refine sC ?_) | (apply gD; refine sD ?_) | fail)
  refine O_d (dy_call ArgsI.pf (by first | exact rfl | trivial | (intro a b; rfl)) (Few_ct (.tail _ hb) hbl (most := 3) (by decide) (by decide))) ?_; rintro _ _ ⟨_, ⟨A5, c5, rfl, rfl⟩, rfl⟩; refine O_n ?_
  obtain ⟨fb, hfb⟩ : ∃ fb, lb.take (Int.toNat 3) = fb := ⟨_, rfl⟩
  have hfbl : fb.length ≤ 3 := by rw [← hfb]; exact List.length_take_le _ _
  rw [hfb]
  refine O_frz 0 ?_
  repeat' (first | refine go ?_ | intro _ | (apply cG; first | refine cT ?_ | refine cF ?_ | refine cS (fun _ => ?_) fun _ => ?_) | (apply gW; refine sW ?_) | (apply gI; refine sI ?_) | (apply gE; refine sE ?_) | (apply gP; refine sP ?_) | (apply gC; refine sC ?_) | (apply gD; refine sD ?_) | fail)
  have hj0 : JT ⟨[], 5000, false, false, 0⟩ 4 3 [] [] := ⟨⟨List.nodup_nil, by decide, by decide, by decide, fun n => ⟨Int.le_refl _, Int.le_refl _⟩⟩, rfl, rfl, rfl, rfl, (fun n hn => by cases hn), rfl, rfl, rfl⟩
  refine O_d (dy_call ArgsI.pf (by first | exact rfl | trivial | (intro a b; rfl)) (CT.pull (i := 1) (by rfl) (dAppend_ct (n := 4) (b := fb) (.inl (.head _)) (by omega) (by decide) (by decide) (by decide) (by decide) (by decide) (by decide)))) ?_; rintro _ _ ⟨_, ⟨A8, c8, rfl, rfl⟩, rfl⟩; refine O_n ?_
  have ha8 : ∃ d1, appF ⟨[], 5000, false, false, 0⟩ 4 fb (.slice A8 ((fileF 4 []).b ++ fb).length c8) = (d1, 0) ∧ JT d1 4 3 fb [] := by
    refine ⟨{ files := setF 4 ⟨.slice A8 ((fileF 4 []).b ++ fb).length c8, fb, 0⟩ [], room := 5000, off := false, armed := false, left := 0 }, ?_, hj0.set (by decide) (x := ⟨.slice A8 ((fileF 4 []).b ++ fb).length c8, fb, 0⟩) (by dsimp only; simp only [List.length_nil]; omega) ⟨Int.le_refl _, by dsimp only; omega⟩⟩
    unfold appF
    rw [if_pos (by decide), if_neg (by simp)]
    dsimp only
    rw [if_neg (by show ¬ (5000 - ((0 : Nat) : Int) < _); omega)]
    rfl
  obtain ⟨d1, ha8, hj1⟩ := ha8
  rw [ha8]
  dsimp only
  repeat' (first | refine go ?_ | intro _ | (apply cG; first | refine cT ?_ | refine cF ?_ | refine cS (fun _ => ?_) fun _ => ?_) | (apply gW; refine sW ?_) | (apply gI; refine sI ?_) | (apply gE; refine sE ?_) | (apply gP; refine sP ?_) | (apply gC; refine sC ?_) | (apply gD; refine sD ?_) | fail)
  refine O_d (dy_call ArgsI.pf (by first | exact rfl | trivial | (intro a b; rfl)) (CT.pull (i := 0) (by rfl) (Open_t (f := 3) (g := 4) hj1.swap (by decide) (by decide) (xs := []) (N := 0) (by rfl)))) ?_; rintro _ _ ⟨_, ⟨d2, qa, A9, c9, hj2, hfr2, rfl, rfl⟩, rfl⟩; refine O_n ?_
  replace hj2 : JT d2 3 4 [] fb := hj2
  repeat' (first | refine go ?_ | intro _ | (apply cG; first | refine cT ?_ | refine cF ?_ | refine cS (fun _ => ?_) fun _ => ?_) | (apply gW; refine sW ?_) | (apply gI; refine sI ?_) | (apply gE; refine sE ?_) | (apply gP; refine sP ?_) | (apply gC; refine sC ?_) | (apply gD; refine sD ?_) | fail)
  refine O_d (dy_call ArgsI.pf (by first | exact rfl | trivial | (intro a b; rfl)) (CT.pull (i := 2) (by rfl) (Open_t (f := 4) (g := 3) hj2.swap (by decide) (by decide) (xs := []) (N := 0) (scanF_short (by omega))))) ?_; rintro _ _ ⟨_, ⟨d3, qb, A10, c10, hj3, hfr3, rfl, rfl⟩, rfl⟩; refine O_n ?_
  replace hj3 : JT d3 4 3 [] [] := hj3
  replace hj3 := hj3.swap
  dsimp only [List.length_nil]
  repeat' (first | refine go ?_ | intro _ | (apply cG; first | refine cT ?_ | refine cF ?_ | refine cS (fun _ => ?_) fun _ => ?_) | (apply gW; refine sW ?_) | (apply gI; refine sI ?_) | (apply gE; refine sE ?_) | (apply gP; refine sP ?_) | (apply gC; refine sC ?_) | (apply gD; refine sD ?_) | fail)
  refine O_d (dy_call ArgsI.pf (by first | exact rfl | trivial | (intro a b; rfl)) (Records_ct (.tail _ (.tail _ (.tail _ (.tail _ (.tail _ (.tail _ hv)))))) hl hr)) ?_; rintro _ _ ⟨_, ⟨A4, c4, xs, rfl, rfl, hxs, hx6⟩, rfl⟩; refine O_n ?_
  refine O_frz 0 ?_
  repeat' (first | refine go ?_ | intro _ | (apply cG; first | refine cT ?_ | refine cF ?_ | refine cS (fun _ => ?_) fun _ => ?_) | (apply gW; refine sW ?_) | (apply gI; refine sI ?_) | (apply gE; refine sE ?_) | (apply gP; refine sP ?_) | (apply gC; refine sC ?_) | (apply gD; refine sD ?_) | fail)
  refine O_d (dy_call ArgsI.pf (by first | exact rfl | trivial | (intro a b; rfl)) (Records_ct (.tail _ (.tail _ (.tail _ (.tail _ (.tail _ (.tail _ (.tail _ hv2))))))) hl2 hr2)) ?_; rintro _ _ ⟨_, ⟨A11, c11, ys, rfl, rfl, hys, hy6⟩, rfl⟩; refine O_n ?_
  refine O_frz 0 ?_
  repeat' (first | refine go ?_ | intro _ | (apply cG; first | refine cT ?_ | refine cF ?_ | refine cS (fun _ => ?_) fun _ => ?_) | (apply gW; refine sW ?_) | (apply gI; refine sI ?_) | (apply gE; refine sE ?_) | (apply gP; refine sP ?_) | (apply gC; refine sC ?_) | (apply gD; refine sD ?_) | fail)
  refine C_sub (S := cel qa [.pointer (some ⟨p, 0, none⟩), .int .i64 3, .int .i64 ((0 : Nat) : Int), .bool false] 70 :: cel qb [.pointer (some ⟨p, 0, none⟩), .int .i64 4, .int .i64 ((0 : Nat) : Int), .bool false] 70 :: dsk p d3 :: rd (eSl eB) (.slice A4 xs.length c4) xs :: rd (eSl eB) (.slice A11 ys.length c11) ys :: L) Sb ?_
  refine C_loopS (κ := AS) [false, false, false, false, false, false, true, false, false, false, false, false, false, false, false, false, true, false, false, false, false, false, false, false, false, false, false, false, false, false, false, false, false, false, false, false, false, false, false, false, false, false, false, false, false, false, false, false, false, false, false, false, false, false, false, false, false, false, false, false, false, false, false, false, false, false, false, false, false, false, false, true, true, true, true, true, true, true, true, true, true, true, true, true, true, true, true, true, true, true, true, true, true, true, true, true, true, true, true, true, true, true, true, false, false, false, false, false, false, false, false, false, false, false, false, false, false, false, false, false, false, false, false, false, false, false, false, false, false, false, false, false, false, false, false, false, false, false, false, false] (fun k => [(16, .int .i64 (k.i : Int))]) (fun k => [(0, cel qa [.pointer (some ⟨p, 0, none⟩), .int .i64 3, .int .i64 (((xs.take k.i).length : Nat) : Int), .bool false] 70), (1, cel qb [.pointer (some ⟨p, 0, none⟩), .int .i64 4, .int .i64 (((ys.take k.i).length : Nat) : Int), .bool false] 70), (2, dsk p k.d)]) (fun k => k.i ≤ 6 ∧ JT k.d 3 4 (framesF 0 (xs.take k.i)) (framesF 0 (ys.take k.i)) ∧ Frm k.d) (fun k => 6 - k.i) ⟨0, d3⟩ ⟨Nat.zero_le _, hj3, hfr3⟩ ⟨rfl, trivial⟩ ?_ Sb
  rintro ⟨i, d⟩ u ⟨hi, hj, hfr⟩
  dsimp only at hi hj hfr
  dsimp only
  ((try dsimp only); refine C_n ?_; (try simp only [Nat.reduceAdd, Nat.zero_add]))
  have hU := framesF_len (m := 10) (xs.take i) 0 (fun y hy => hxs y (List.mem_of_mem_take hy)) (by decide) (by decide) (by rw [List.length_take]; omega)
  have hV := framesF_len (m := 10) (ys.take i) 0 (fun y hy => hys y (List.mem_of_mem_take hy)) (by decide) (by decide) (by rw [List.length_take]; omega)
  have hxtl : (xs.take i).length ≤ 6 := by rw [List.length_take]; omega
  have hytl : (ys.take i).length ≤ 6 := by rw [List.length_take]; omega
  have hfk3 : (0 : Int) ≤ 3 ∧ (3 : Int) < 64 := by decide
  have hfk4 : (0 : Int) ≤ 4 ∧ (4 : Int) < 64 := by decide
  by_cases hlt : i < 6
  · have hxn : ¬ i < xs.length → xs.take (i + 1) = xs.take i := fun h => by rw [List.take_of_length_le (by omega), List.take_of_length_le (by omega)]
    have hyn : ¬ i < ys.length → ys.take (i + 1) = ys.take i := fun h => by rw [List.take_of_length_le (by omega), List.take_of_length_le (by omega)]
    by_cases hix : i < xs.length
    · obtain ⟨x, hx⟩ : ∃ x, xs[i]? = some x := ⟨_, List.getElem?_eq_getElem hix⟩
      have hax : At xs i x := ⟨hx⟩
      have hxl := hxs x (List.mem_of_getElem? hx)
      have hFl := frameF_len (i := (i : Int)) (x := x) (by omega) (by omega) (by omega)
      have hnext := frames_next (Nat.le_of_lt hix) hx
      have hxti : (xs.take i).length = i := by rw [List.length_take]; omega
      have hxts : (xs.take (i + 1)).length = i + 1 := by rw [List.length_take]; omega
      rw [hxti]
      by_cases hiy : i < ys.length
      · obtain ⟨y, hy⟩ : ∃ y, ys[i]? = some y := ⟨_, List.getElem?_eq_getElem hiy⟩
        have hay : At ys i y := ⟨hy⟩
        have hyl := hys y (List.mem_of_getElem? hy)
        have hGl := frameF_len (i := (i : Int)) (x := y) (by omega) (by omega) (by omega)
        have hnexty := frames_next (Nat.le_of_lt hiy) hy
        have hyti : (ys.take i).length = i := by rw [List.length_take]; omega
        have hyts : (ys.take (i + 1)).length = i + 1 := by rw [List.length_take]; omega
        rw [hyti]
        repeat' (first | refine go ?_ | intro _ | (apply cG; first | refine cT ?_ | refine cF ?_ | refine cS (fun _ => ?_) fun _ => ?_) | (apply gW; refine sW ?_) | (apply gI; refine sI ?_) | (apply gE; refine sE ?_) | (apply gP; refine sP ?_) | (apply gC; refine sC ?_) | (apply gD; refine sD ?_) | fail)
        refine O_front 3 rfl EAt.pf ?_
        refine O_front 2 rfl EAt.pf ?_
        refine O_d (dy_call ArgsI.pf (by first | exact rfl | trivial | (intro a b; rfl)) (LApp_t (n := (i : Int)) (b := x) (.inl (.head _)) (by omega) (by omega) (by omega) hj (by decide) hfk3 (by omega))) ?_; rintro _ _ ⟨_, ⟨d4, hj4, hfr4, rfl, rfl⟩, rfl⟩; refine O_n ?_
        rw [← hnext] at hj4
        have hU4 := congrArg List.length hnext
        rw [List.length_append] at hU4
        repeat' (first | refine go ?_ | intro _ | (apply cG; first | refine cT ?_ | refine cF ?_ | refine cS (fun _ => ?_) fun _ => ?_) | (apply gW; refine sW ?_) | (apply gI; refine sI ?_) | (apply gE; refine sE ?_) | (apply gP; refine sP ?_) | (apply gC; refine sC ?_) | (apply gD; refine sD ?_) | fail)
        refine O_front 2 rfl EAt.pf ?_
        refine O_front 4 rfl EAt.pf ?_
        refine O_d (dy_call ArgsI.pf (by first | exact rfl | trivial | (intro a b; rfl)) (LApp_t (n := (i : Int)) (b := y) (.inl (.head _)) (by omega) (by omega) (by omega) hj4.swap (by decide) hfk4 (by omega))) ?_; rintro _ _ ⟨_, ⟨d5, hj5, hfr5, rfl, rfl⟩, rfl⟩; refine O_n ?_
        rw [← hnexty] at hj5
        repeat' (first | refine go ?_ | intro _ | (apply cG; first | refine cT ?_ | refine cF ?_ | refine cS (fun _ => ?_) fun _ => ?_) | (apply gW; refine sW ?_) | (apply gI; refine sI ?_) | (apply gE; refine sE ?_) | (apply gP; refine sP ?_) | (apply gC; refine sC ?_) | (apply gD; refine sD ?_) | fail)
        exact E_round ⟨i + 1, d5⟩ ⟨hlt, hj5.swap, hfr5⟩ (by show 6 - (i + 1) < 6 - i; omega) ⟨rfl, trivial⟩ (by dsimp only; rw [hxts, hyts]; exact Sb)
      · rw [show ys.take i = ys.take (i + 1) from (hyn hiy).symm] at hj hV ⊢
        repeat' (first | refine go ?_ | intro _ | (apply cG; first | refine cT ?_ | refine cF ?_ | refine cS (fun _ => ?_) fun _ => ?_) | (apply gW; refine sW ?_) | (apply gI; refine sI ?_) | (apply gE; refine sE ?_) | (apply gP; refine sP ?_) | (apply gC; refine sC ?_) | (apply gD; refine sD ?_) | fail)
        refine O_front 3 rfl EAt.pf ?_
        refine O_front 2 rfl EAt.pf ?_
        refine O_d (dy_call ArgsI.pf (by first | exact rfl | trivial | (intro a b; rfl)) (LApp_t (n := (i : Int)) (b := x) (.inl (.head _)) (by omega) (by omega) (by omega) hj (by decide) hfk3 (by rw [hyn hiy]; rw [hyn hiy] at hV; omega))) ?_; rintro _ _ ⟨_, ⟨d4, hj4, hfr4, rfl, rfl⟩, rfl⟩; refine O_n ?_
        rw [← hnext] at hj4
        repeat' (first | refine go ?_ | intro _ | (apply cG; first | refine cT ?_ | refine cF ?_ | refine cS (fun _ => ?_) fun _ => ?_) | (apply gW; refine sW ?_) | (apply gI; refine sI ?_) | (apply gE; refine sE ?_) | (apply gP; refine sP ?_) | (apply gC; refine sC ?_) | (apply gD; refine sD ?_) | fail)
        exact E_round ⟨i + 1, d4⟩ ⟨hlt, hj4, hfr4⟩ (by show 6 - (i + 1) < 6 - i; omega) ⟨rfl, trivial⟩ (by dsimp only; rw [hxts]; exact Sb)
    · have hxe := hxn hix
      by_cases hiy : i < ys.length
      · obtain ⟨y, hy⟩ : ∃ y, ys[i]? = some y := ⟨_, List.getElem?_eq_getElem hiy⟩
        have hay : At ys i y := ⟨hy⟩
        have hyl := hys y (List.mem_of_getElem? hy)
        have hGl := frameF_len (i := (i : Int)) (x := y) (by omega) (by omega) (by omega)
        have hnexty := frames_next (Nat.le_of_lt hiy) hy
        have hyti : (ys.take i).length = i := by rw [List.length_take]; omega
        have hyts : (ys.take (i + 1)).length = i + 1 := by rw [List.length_take]; omega
        rw [hyti]
        repeat' (first | refine go ?_ | intro _ | (apply cG; first | refine cT ?_ | refine cF ?_ | refine cS (fun _ => ?_) fun _ => ?_) | (apply gW; refine sW ?_) | (apply gI; refine sI ?_) | (apply gE; refine sE ?_) | (apply gP; refine sP ?_) | (apply gC; refine sC ?_) | (apply gD; refine sD ?_) | fail)
        refine O_front 3 rfl EAt.pf ?_
        refine O_front 3 rfl EAt.pf ?_
        refine O_d (dy_call ArgsI.pf (by first | exact rfl | trivial | (intro a b; rfl)) (LApp_t (n := (i : Int)) (b := y) (.inl (.head _)) (by omega) (by omega) (by omega) hj.swap (by decide) hfk4 (by omega))) ?_; rintro _ _ ⟨_, ⟨d5, hj5, hfr5, rfl, rfl⟩, rfl⟩; refine O_n ?_
        rw [← hnexty] at hj5
        replace hj5 := hj5.swap
        rw [← hxe] at hj5
        repeat' (first | refine go ?_ | intro _ | (apply cG; first | refine cT ?_ | refine cF ?_ | refine cS (fun _ => ?_) fun _ => ?_) | (apply gW; refine sW ?_) | (apply gI; refine sI ?_) | (apply gE; refine sE ?_) | (apply gP; refine sP ?_) | (apply gC; refine sC ?_) | (apply gD; refine sD ?_) | fail)
        exact E_round ⟨i + 1, d5⟩ ⟨hlt, hj5, hfr5⟩ (by show 6 - (i + 1) < 6 - i; omega) ⟨rfl, trivial⟩ (by dsimp only; rw [hxe, hyts]; exact Sb)
      · have hye := hyn hiy
        repeat' (first | refine go ?_ | intro _ | (apply cG; first | refine cT ?_ | refine cF ?_ | refine cS (fun _ => ?_) fun _ => ?_) | (apply gW; refine sW ?_) | (apply gI; refine sI ?_) | (apply gE; refine sE ?_) | (apply gP; refine sP ?_) | (apply gC; refine sC ?_) | (apply gD; refine sD ?_) | fail)
        rw [← hxe, ← hye] at hj
        exact E_round ⟨i + 1, d⟩ ⟨hlt, hj, hfr⟩ (by show 6 - (i + 1) < 6 - i; omega) ⟨rfl, trivial⟩ (by dsimp only; rw [hxe, hye]; exact Sb)
  obtain rfl : i = 6 := by omega
  have hx6e : xs.take 6 = xs := List.take_of_length_le hx6
  have hy6e : ys.take 6 = ys := List.take_of_length_le hy6
  rw [hx6e, hy6e] at hj ⊢
  rw [hx6e] at hU
  rw [hy6e] at hV
  repeat' (first | refine go ?_ | intro _ | (apply cG; first | refine cT ?_ | refine cF ?_ | refine cS (fun _ => ?_) fun _ => ?_) | (apply gW; refine sW ?_) | (apply gI; refine sI ?_) | (apply gE; refine sE ?_) | (apply gP; refine sP ?_) | (apply gC; refine sC ?_) | (apply gD; refine sD ?_) | fail)
  refine O_rdnil eI none 0 ?_
  refine O_front 3 rfl EAt.pf ?_
  have hfew := hj.few
  obtain ⟨files, room, off, armed, left⟩ := d
  refine O_d (dy_call ArgsI.pf (by first | exact rfl | trivial | (intro a b; rfl)) (Crash_ct (kp := []) (z := -1) hj.ok hfew (.head _) (by decide) (fun x hx => by cases hx) (by decide) (by decide))) ?_; rintro _ _ ⟨_, ⟨us, F, hp, _, hcr, hok4, rfl, rfl⟩, rfl⟩; refine O_n ?_
  have hleft : left = 0 := hj.l
  have hj4a : JS ⟨F, room, false, false, left⟩ 3 room (framesF 0 xs) (usedL F) := ⟨hok4, rfl, rfl, by dsimp only; omega, by dsimp only; omega, rfl, (firm_crash hp hfr hcr 3).trans hj.b, rfl⟩
  have hj4b : JS ⟨F, room, false, false, left⟩ 4 room (framesF 0 ys) (usedL F) := ⟨hok4, rfl, rfl, by dsimp only; omega, by dsimp only; omega, rfl, (firm_crash hp hfr hcr 4).trans hj.c, rfl⟩
  obtain ⟨U, hUe⟩ : ∃ U, usedL F = U := ⟨_, rfl⟩
  rw [hUe] at hj4a hj4b
  clear hj hfr hcr hp hok4
  have hsx := scan_frames (xs := xs) (fun y hy => by have := hxs y hy; omega) (by omega)
  have hsy := scan_frames (xs := ys) (fun y hy => by have := hys y hy; omega) (by omega)
  repeat' (first | refine go ?_ | intro _ | (apply cG; first | refine cT ?_ | refine cF ?_ | refine cS (fun _ => ?_) fun _ => ?_) | (apply gW; refine sW ?_) | (apply gI; refine sI ?_) | (apply gE; refine sE ?_) | (apply gP; refine sP ?_) | (apply gC; refine sC ?_) | (apply gD; refine sD ?_) | fail)
  refine C_sub (S := dsk p ⟨F, room, false, false, left⟩ :: rd (eSl eB) (.slice A4 xs.length c4) xs :: rd (eSl eB) (.slice A11 ys.length c11) ys :: L) Sb ?_
  refine C_loopS (κ := AS) [false, false, false, false, false, false, true, false, false, false, false, false, false, false, false, false, false, true, true, true, true, true, true, true, false, false, false, false, false, false, false, false, false, false, false, false, false, false, false, false, false, false, false, false, false, false, false, false, false, false, false, false, false, false, false, false, false, false, false, false, false, false, false, false, false, false, false, false, false, false, false, false, false, false, false, false, false, false, false, false, false, false, false, false, false, false, false, false, false, false, false, false, false, false, false, false, false, false, false, false, false, false, false, false, false, true, true, true, true, true, true, true, true, true, true, true, true, true, true, true, true, true, true, true, true, true, true, true, true, true, true, true, true, true, true, true, true, true, true, false] (fun k => [(17, .int .i64 (k.i : Int))]) (fun k => [(0, dsk p k.d)]) (fun k => k.i ≤ 2 ∧ JS k.d 3 room (framesF 0 xs) U ∧ JS k.d 4 room (framesF 0 ys) U) (fun k => 2 - k.i) ⟨0, ⟨F, room, false, false, left⟩⟩ ⟨Nat.zero_le _, hj4a, hj4b⟩ ⟨rfl, trivial⟩ ?_ Sb
  rintro ⟨i, d⟩ u2 ⟨hi2, hja, hjb⟩
  dsimp only at hi2 hja hjb
  dsimp only
  ((try dsimp only); refine C_n ?_; (try simp only [Nat.reduceAdd, Nat.zero_add]))
  by_cases hlt2 : i < 2
  · repeat' (first | refine go ?_ | intro _ | (apply cG; first | refine cT ?_ | refine cF ?_ | refine cS (fun _ => ?_) fun _ => ?_) | (apply gW; refine sW ?_) | (apply gI; refine sI ?_) | (apply gE; refine sE ?_) | (apply gP; refine sP ?_) | (apply gC; refine sC ?_) | (apply gD; refine sD ?_) | fail)
    refine O_d (dy_call ArgsI.pf (by first | exact rfl | trivial | (intro a b; rfl)) (CT.pull (i := 0) (by rfl) (Open_js hja hfk3 (by omega) hsx (by omega)))) ?_; rintro _ _ ⟨_, ⟨d5, q5, A12, c12, hj5, hm5, rfl, rfl⟩, rfl⟩; refine O_n ?_
    have hj5b : JS d5 4 room (framesF 0 ys) U := ⟨hj5.ok, hj5.on, hj5.na, hj5.l0, hj5.l1, hj5.room, (hm5 4).trans hjb.b, hj5.u⟩
    refine O_frz 1 ?_
    repeat' (first | refine go ?_ | intro _ | (apply cG; first | refine cT ?_ | refine cF ?_ | refine cS (fun _ => ?_) fun _ => ?_) | (apply gW; refine sW ?_) | (apply gI; refine sI ?_) | (apply gE; refine sE ?_) | (apply gP; refine sP ?_) | (apply gC; refine sC ?_) | (apply gD; refine sD ?_) | fail)
    refine O_d (dy_call ArgsI.pf (by first | exact rfl | trivial | (intro a b; rfl)) (CT.pull (i := 2) (by rfl) (Open_js hj5b hfk4 (by omega) hsy (by omega)))) ?_; rintro _ _ ⟨_, ⟨d6, q6, A13, c13, hj6, hm6, rfl, rfl⟩, rfl⟩; refine O_n ?_
    have hj6a : JS d6 3 room (framesF 0 xs) U := ⟨hj6.ok, hj6.on, hj6.na, hj6.l0, hj6.l1, hj6.room, (hm6 3).trans hj5.b, hj6.u⟩
    refine O_frz 1 ?_
    have hx2 : ∀ y ∈ xs, y.length ≤ 10000000 := fun y hy => by have := hxs y hy; omega
    have hy2 : ∀ y ∈ ys, y.length ≤ 10000000 := fun y hy => by have := hys y hy; omega
    repeat' (first | refine go ?_ | intro _ | (apply cG; first | refine cT ?_ | refine cF ?_ | refine cS (fun _ => ?_) fun _ => ?_) | (apply gW; refine sW ?_) | (apply gI; refine sI ?_) | (apply gE; refine sE ?_) | (apply gP; refine sP ?_) | (apply gC; refine sC ?_) | (apply gD; refine sD ?_) | fail)
    refine O_d (dy_call ArgsI.pf (by first | exact rfl | trivial | (intro a b; rfl)) (SameLists_ct (la := xs) (lb := xs) (.tail _ (.tail _ (.tail _ (.tail _ (.head _))))) (.tail _ (.tail _ (.tail _ (.tail _ (.tail _ (.head _)))))) (by omega) (by omega) hx2 hx2 (q := true) (decide_eq_true rfl))) ?_; rintro _ _ ⟨_, ⟨rfl, hLL⟩, rfl⟩; replace hLL := hLL.symm; subst hLL; refine O_n ?_
    repeat' (first | refine go ?_ | intro _ | (apply cG; first | refine cT ?_ | refine cF ?_ | refine cS (fun _ => ?_) fun _ => ?_) | (apply gW; refine sW ?_) | (apply gI; refine sI ?_) | (apply gE; refine sE ?_) | (apply gP; refine sP ?_) | (apply gC; refine sC ?_) | (apply gD; refine sD ?_) | fail)
    refine O_d (dy_call ArgsI.pf (by first | exact rfl | trivial | (intro a b; rfl)) (SameLists_ct (la := ys) (lb := ys) (.tail _ (.head _)) (.tail _ (.tail _ (.tail _ (.tail _ (.tail _ (.tail _ (.head _))))))) (by omega) (by omega) hy2 hy2 (q := true) (decide_eq_true rfl))) ?_; rintro _ _ ⟨_, ⟨rfl, hLL⟩, rfl⟩; replace hLL := hLL.symm; subst hLL; refine O_n ?_
    repeat' (first | refine go ?_ | intro _ | (apply cG; first | refine cT ?_ | refine cF ?_ | refine cS (fun _ => ?_) fun _ => ?_) | (apply gW; refine sW ?_) | (apply gI; refine sI ?_) | (apply gE; refine sE ?_) | (apply gP; refine sP ?_) | (apply gC; refine sC ?_) | (apply gD; refine sD ?_) | fail)
    exact E_round ⟨i + 1, d6⟩ ⟨hlt2, hj6a, hj6⟩ (by show 2 - (i + 1) < 2 - i; omega) ⟨rfl, trivial⟩ Sb
  obtain rfl : i = 2 := by omega
  repeat' (first | refine go ?_ | intro _ | (apply cG; first | refine cT ?_ | refine cF ?_ | refine cS (fun _ => ?_) fun _ => ?_) | (apply gW; refine sW ?_) | (apply gI; refine sI ?_) | (apply gE; refine sE ?_) | (apply gP; refine sP ?_) | (apply gC; refine sC ?_) | (apply gD; refine sD ?_) | fail)
  refine O_d (dy_call ArgsI.pf (by first | exact rfl | trivial | (intro a b; rfl)) (lives_ct)) ?_; rintro _ _ ⟨_, ⟨rfl, hLL⟩, rfl⟩; replace hLL := hLL.symm; subst hLL; refine O_n ?_
  repeat' (first | refine go ?_ | intro _ | (apply cG; first | refine cT ?_ | refine cF ?_ | refine cS (fun _ => ?_) fun _ => ?_) | (apply gW; refine sW ?_) | (apply gI; refine sI ?_) | (apply gE; refine sE ?_) | (apply gP; refine sP ?_) | (apply gC; refine sC ?_) | (apply gD; refine sD ?_) | fail)
  refine E_res1 (by rfl) (by rfl) ⟨rfl, rfl⟩ Sb
theorem JournalApart_any {v vm vb : Value} {li lm : List Int} {lb : List UInt8} {w : World} (s : St w w [rd eI v li, rd eI vm lm, rd eB vb lb]) (hl : li.length ≤ 9223372036854775807) (hr : ∀ n ∈ li, -9223372036854775808 ≤ n ∧ n ≤ 9223372036854775807) (hl2 : lm.length ≤ 9223372036854775807) (hr2 : ∀ n ∈ lm, -9223372036854775808 ≤ n ∧ n ≤ 9223372036854775807) (hbl : lb.length ≤ 9223372036854775807) :
    Calls Try.prog 9 #[v, vm, vb] w fun e w' => e = .returned (.bool true) ∧ Below w.heap.size w w' :=
  ((JournalApart_ct (W0 := w) (.head _) hl hr (.tail _ (.head _)) hl2 hr2 (.tail _ (.tail _ (.head _))) hbl).run w s).mono fun e w' h => by
    obtain ⟨v, L', rfl, ⟨rfl, rfl⟩, s⟩ := h
    exact ⟨rfl, s.below⟩
end
end Go.Proofs.Ytbjaecofccpahaa
namespace Go.Proofs.Ytbjaecofccpahaa
open Go Go.RowKit
set_option linter.unusedVariables false
set_option linter.unusedSimpArgs false
def toB (n : Int) : UInt8 := UInt8.ofNat n.toNat
theorem toB_wf {n : Int} (h : (Lit.int .u8 n).wf = true) : ((toB n).toNat : Int) = n := by
  simp [Lit.wf, IntKind.min, IntKind.max, IntKind.signed, IntKind.bits] at h
  unfold toB
  simp
  omega
/-- a row of numbers of one kind, said as the rows' proofs say it -/
theorem row_sl {α : Type} {f : α → Value} {hf : ∀ a, (f a).oneCell' = true} {k : IntKind} {w : World} {a : Option Addr} {len cap : Nat} {zs : List Int} {l : List α} (hl : l.map f = (zs.take len).map (Value.int k)) (hz : zs.length = cap) (hlc : len ≤ cap)
    {x : Addr} (ha : a = some x) (hcell : ∀ i, i < zs.length → w.cell? (x.add i) = some (.int k (zs.getD i 0))) : Sl (Hp.of w) (e1 f hf) (.slice a len cap) l := by
  have hlen : l.length = len := by
    have := congrArg List.length hl
    simp at this
    omega
  subst hlen
  refine ⟨a, cap, l.map fun b => [f b], rfl, hlc, all2_e1.2 rfl, ?_⟩
  by_cases h0 : l = []
  · exact .inl h0
  · right
    have hpos : 0 < l.length := List.length_pos_iff.2 h0
    obtain ⟨b, off, spot⟩ := x
    have h1 := hcell 0 (by omega)
    have hspot : spot = none := by simpa [Addr.add] using World.cell?_spot h1
    subst hspot
    rw [flat_one]
    have hb : ∃ cs t fr, w.heap[b]? = some (.cells cs t fr) := by
      unfold World.cell? at h1
      simp only [Addr.add] at h1
      split at h1
      · rename_i cs t fr he; exact ⟨cs, t, fr, he⟩
      · cases h1
    obtain ⟨cs, t, fr, hb⟩ := hb
    refine ⟨b, off, cs, t, fr, ha, hb, ?_⟩
    intro j u hj
    rw [hl] at hj
    have hjl : j < l.length := by
      have := (List.getElem?_eq_some_iff.1 hj).1
      simp at this
      omega
    have h2 := hcell j (by omega)
    have h3 : w.cell? ⟨b, off + j, none⟩ = some (.int k (zs.getD j 0)) := by
      have e : (Addr.add ⟨b, off, none⟩ j) = ⟨b, off + j, none⟩ := by
        by_cases hj0 : j = 0
        · subst hj0; rfl
        · simp [Addr.add, hj0]
      rw [e] at h2
      exact h2
    have h4 : cs[off + j]? = some (.int k (zs.getD j 0)) := by simpa [World.cell?, hb] using h3
    rw [h4]
    rw [List.getElem?_map, List.getElem?_take, if_pos hjl] at hj
    rw [List.getD_eq_getElem?_getD]
    cases hzz : zs[j]? with
    | none => rw [hzz] at hj; cases hj
    | some z => rw [hzz] at hj; simpa using hj
theorem row_i64 {w : World} {a : Option Addr} {len cap : Nat} {zs : List Int} (h : (a = none ∧ len = 0 ∧ cap = 0 ∧ zs = []) ∨
    ∃ x, a = some x ∧ len ≤ cap ∧ cap ≤ maxLen ∧ zs.length = cap ∧ (∀ i, i < zs.length → w.cell? (x.add i) = some (.int .i64 (zs.getD i 0))) ∧ ∀ n ∈ zs, (Lit.int .i64 n).wf = true) :
    ∃ l : List Int, Sl (Hp.of w) eI (.slice a len cap) l ∧ l.length = len ∧ len ≤ 9223372036854775807 ∧ ∀ n ∈ l, -9223372036854775808 ≤ n ∧ n ≤ 9223372036854775807 := by
  rcases h with ⟨rfl, rfl, rfl, rfl⟩ | ⟨x, ha, hl, hm, hz, hc, hw⟩
  · exact ⟨[], ⟨none, 0, [], rfl, Nat.le_refl _, trivial, .inl rfl⟩, rfl, by omega, by simp⟩
  · unfold maxLen at hm
    refine ⟨zs.take len, row_sl rfl hz hl ha hc, by simp; omega, by omega, fun n hn => ?_⟩
    have := hw n (List.mem_of_mem_take hn)
    simpa [Lit.wf, IntKind.min, IntKind.max, IntKind.signed, IntKind.bits] using this
theorem row_u8 {w : World} {a : Option Addr} {len cap : Nat} {zs : List Int} (h : (a = none ∧ len = 0 ∧ cap = 0 ∧ zs = []) ∨
    ∃ x, a = some x ∧ len ≤ cap ∧ cap ≤ maxLen ∧ zs.length = cap ∧ (∀ i, i < zs.length → w.cell? (x.add i) = some (.int .u8 (zs.getD i 0))) ∧ ∀ n ∈ zs, (Lit.int .u8 n).wf = true) :
    ∃ l : List UInt8, Sl (Hp.of w) eB (.slice a len cap) l ∧ l.length = len ∧ len ≤ 9223372036854775807 := by
  rcases h with ⟨rfl, rfl, rfl, rfl⟩ | ⟨x, ha, hl, hm, hz, hc, hw⟩
  · exact ⟨[], ⟨none, 0, [], rfl, Nat.le_refl _, trivial, .inl rfl⟩, rfl, by omega⟩
  · unfold maxLen at hm
    refine ⟨(zs.take len).map toB, row_sl ?_ hz hl ha hc, by simp; omega, by omega⟩
    rw [List.map_map]
    refine List.map_congr_left fun n hn => ?_
    show bv (toB n) = _
    rw [bv, toB_wf (hw n (List.mem_of_mem_take hn))]
theorem St.mem_ {W : World} {α : Type} {R : Enc α} {v : Value} {l : List α} {L : List HP} (h : Sl (Hp.of W) R v l) (hS : St W W L) : St W W (Go.Proofs.Ytbjaecofccpahaa.rd R v l :: L) := hS.old h
end Go.Proofs.Ytbjaecofccpahaa
