/-
  Walks: JournalDetects.
-/
import Derived.Test.YtbjaecofccpahaaJ7
import Derived.Test.YtbjaecofccpahaaJq
namespace Go.Proofs.Ytbjaecofccpahaa
open Go Go.RowKit
set_option linter.unusedVariables false
set_option linter.unusedSimpArgs false
set_option maxRecDepth 20000
set_option synthInstance.maxSize 100000
set_option synthInstance.maxHeartbeats 400000
section
variable {W0 : World} {L : List HP}
theorem JournalDetects_ct {vb : Value} {lb : List UInt8} {bit : Int} (hb : rd eB vb lb ∈ L) (hbl : lb.length ≤ 9223372036854775807) (hn1 : -9223372036854775808 ≤ bit) (hn2 : bit ≤ 9223372036854775807) :
    CT Try.prog 7 #[vb, .int .i64 bit] W0 L fun r L' => r = .bool true ∧ L' = L := by
  refine CT_enter Try.func7 rfl ?_; (simp only [Try.ntmps7, List.size_toArray, List.length_cons, List.length_nil, Nat.reduceAdd, Nat.reduceSub, Array.replicate_succ, Array.replicate_zero, List.push_toArray, List.append_toArray, List.nil_append, List.cons_append])
  repeat' (first | refine go ?_ | intro _ | (apply cG; first | refine cT ?_ | refine cF ?_ | refine cS (fun _ => ?_) fun _ => ?_) | (apply gW; refine sW ?_) | (apply gI; refine sI ?_) | (apply gE; refine sE ?_) | (apply gP; refine sP ?_) | (apply gC; refine sC ?_) | (apply gD; refine sD ?_) | fail)
  refine O_d (dy_call ArgsI.pf (by first | exact rfl | trivial | (intro a b; rfl)) (Few_ct hb hbl (most := 200) (by decide) (by decide))) ?_; rintro _ _ ⟨_, ⟨A1, c1, rfl, rfl⟩, rfl⟩; refine O_n ?_
  obtain ⟨o, ho⟩ : ∃ o, lb.take (Int.toNat 200) = o := ⟨_, rfl⟩
  have hol : o.length ≤ 200 := by rw [← ho]; exact List.length_take_le _ _
  rw [ho]
  refine O_frz 0 ?_
  repeat' (first | refine go ?_ | intro _ | (apply cG; first | refine cT ?_ | refine cF ?_ | refine cS (fun _ => ?_) fun _ => ?_) | (apply gW; refine sW ?_) | (apply gI; refine sI ?_) | (apply gE; refine sE ?_) | (apply gP; refine sP ?_) | (apply gC; refine sC ?_) | (apply gD; refine sD ?_) | fail)
  refine O_d (dy_call ArgsI.pf (by first | exact rfl | trivial | (intro a b; rfl)) (Frame_ct (i := 0) (x := o) Sc.pf (by decide) (by decide) (by omega))) ?_; rintro _ _ ⟨_, ⟨A2, c2, rfl, rfl⟩, rfl⟩; refine O_n ?_
  have hfl := frameF_len (i := 0) (x := o) (by decide) (by decide) (by omega)
  have hfm := frameF_min 0 o
  have hcl := coreF_len (i := 0) (x := o) (by decide) (by decide) (by omega)
  have hflen : (frameF 0 o).length = (varint (coreF 0 o).length).length + ((coreF 0 o).length + (varint (sumF 0 o)).length) := by unfold frameF; simp only [List.length_append]; omega
  have hsp := varint_pos (sumF 0 o)
  have hv1 := vlen (m := (coreF 0 o).length) (by omega)
  have hv2 := vlen (m := o.length) (by omega)
  have hdet := fun p y z => detect (x := o) (p := p) (y := y) (z := z) (by omega)
  have hself := isF_frame (i := 0) (x := o) (t := []) (by decide) (by decide) (by omega)
  rw [List.append_nil] at hself
  have hrec := recF_frame (i := 0) (x := o) (t := []) (by decide) (by decide) (by omega)
  rw [List.append_nil] at hrec
  have hread : rList rNext (frameF 0 o, 0) = (coreF 0 o, (varint (sumF 0 o), 0)) := by
    unfold frameF
    exact raw_pre (by omega)
  have hread2 : rU (varint (sumF 0 o), 0) = (sumF 0 o, ([], 0)) := by
    have := rU_varint (sumF_lt 0 o) []
    rwa [List.append_nil] at this
  have hsl := sumF_lt 0 o
  have hcore : ([] : List UInt8) ++ varint (zig 0) ++ varint o.length ++ o = coreF 0 o := by unfold coreF; simp
  have hsumd : (bytesW lblF.data.toList (coreF 0 o)).toNat = sumF 0 o := rfl
  obtain ⟨f, hf⟩ : ∃ f, frameF 0 o = f := ⟨_, rfl⟩
  obtain ⟨c, hc⟩ : ∃ c, coreF 0 o = c := ⟨_, rfl⟩
  obtain ⟨sm, hsm⟩ : ∃ sm, sumF 0 o = sm := ⟨_, rfl⟩
  rw [hf, hc, hsm] at hread
  rw [hsm] at hread2 hsumd hsl hsp hflen
  rw [hc] at hcore hcl hdet hflen hv1 hsumd
  rw [hf] at hfl hfm hdet hself hrec hflen ⊢
  repeat' (first | refine go ?_ | intro _ | (apply cG; first | refine cT ?_ | refine cF ?_ | refine cS (fun _ => ?_) fun _ => ?_) | (apply gW; refine sW ?_) | (apply gI; refine sI ?_) | (apply gE; refine sE ?_) | (apply gP; refine sP ?_) | (apply gC; refine sC ?_) | (apply gD; refine sD ?_) | fail)
  refine wr_newO ?_
  refine O_d (dy_call ArgsI.pf (by first | exact rfl | trivial | (intro a b; rfl)) (CT.pull (i := 0) (by rfl) (wInt_ct (n := 0) (by decide) (by decide) (by decide)))) ?_; rintro _ _ ⟨_, rfl, rfl⟩; refine O_n ?_
  repeat' (first | refine go ?_ | intro _ | (apply cG; first | refine cT ?_ | refine cF ?_ | refine cS (fun _ => ?_) fun _ => ?_) | (apply gW; refine sW ?_) | (apply gI; refine sI ?_) | (apply gE; refine sE ?_) | (apply gP; refine sP ?_) | (apply gC; refine sC ?_) | (apply gD; refine sD ?_) | fail)
  refine O_d (dy_call ArgsI.pf (by first | exact rfl | trivial | (intro a b; rfl)) (wRaw_ct (l := o) Sc.pf (by omega) (by decide +kernel))) ?_; rintro _ _ ⟨_, rfl, rfl⟩; refine O_n ?_
  rw [hcore]
  repeat' (first | refine go ?_ | intro _ | (apply cG; first | refine cT ?_ | refine cF ?_ | refine cS (fun _ => ?_) fun _ => ?_) | (apply gW; refine sW ?_) | (apply gI; refine sI ?_) | (apply gE; refine sE ?_) | (apply gP; refine sP ?_) | (apply gC; refine sC ?_) | (apply gD; refine sD ?_) | fail)
  refine O_d (dy_call ArgsI.pf (by first | exact rfl | trivial | (intro a b; rfl)) (wDone_ct (by omega))) ?_; rintro _ _ ⟨_, ⟨A3, c3, rfl, rfl⟩, rfl⟩; refine O_n ?_
  refine O_frz 0 ?_
  repeat' (first | refine go ?_ | intro _ | (apply cG; first | refine cT ?_ | refine cF ?_ | refine cS (fun _ => ?_) fun _ => ?_) | (apply gW; refine sW ?_) | (apply gI; refine sI ?_) | (apply gE; refine sE ?_) | (apply gP; refine sP ?_) | (apply gC; refine sC ?_) | (apply gD; refine sD ?_) | fail)
  refine wr_newO ?_
  refine O_d (dy_call ArgsI.pf (by first | exact rfl | trivial | (intro a b; rfl)) (wUint_ct (m := c.length) (by omega) (by decide))) ?_; rintro _ _ ⟨_, rfl, rfl⟩; refine O_n ?_
  rw [List.nil_append]
  repeat' (first | refine go ?_ | intro _ | (apply cG; first | refine cT ?_ | refine cF ?_ | refine cS (fun _ => ?_) fun _ => ?_) | (apply gW; refine sW ?_) | (apply gI; refine sI ?_) | (apply gE; refine sE ?_) | (apply gP; refine sP ?_) | (apply gC; refine sC ?_) | (apply gD; refine sD ?_) | fail)
  refine O_d (dy_call ArgsI.pf (by first | exact rfl | trivial | (intro a b; rfl)) (wDone_ct (by omega))) ?_; rintro _ _ ⟨_, ⟨A4, c4, rfl, rfl⟩, rfl⟩; refine O_n ?_
  repeat' (first | refine go ?_ | intro _ | (apply cG; first | refine cT ?_ | refine cF ?_ | refine cS (fun _ => ?_) fun _ => ?_) | (apply gW; refine sW ?_) | (apply gI; refine sI ?_) | (apply gE; refine sE ?_) | (apply gP; refine sP ?_) | (apply gC; refine sC ?_) | (apply gD; refine sD ?_) | fail)
  refine O_d (dy_call ArgsI.pf (by first | exact rfl | trivial | (intro a b; rfl)) (CT.pull (i := 1) (by rfl) (wRaw_ct (l := c) Sc.pf (by omega) (by omega)))) ?_; rintro _ _ ⟨_, rfl, rfl⟩; refine O_n ?_
  repeat' (first | refine go ?_ | intro _ | (apply cG; first | refine cT ?_ | refine cF ?_ | refine cS (fun _ => ?_) fun _ => ?_) | (apply gW; refine sW ?_) | (apply gI; refine sI ?_) | (apply gE; refine sE ?_) | (apply gP; refine sP ?_) | (apply gC; refine sC ?_) | (apply gD; refine sD ?_) | fail)
  obtain ⟨V, hV⟩ : ∃ V, (varint c.length).length = V := ⟨_, rfl⟩
  rw [hV] at hdet hflen hv1
  refine O_sub (S := rd eB (.slice A3 c.length c3) c :: own 5 eB (.slice A2 f.length c2) f :: L) Sb ?_
  rw [hV]
  refine O_d (dy_call ArgsI.pf (by first | exact rfl | trivial | (intro a b; rfl)) (Around_ct (most := 8 * ((f.length : Int) - (V : Int))) hn1 hn2 (by omega) (by omega))) ?_; rintro _ _ ⟨_, ⟨rfl, hLL⟩, rfl⟩; replace hLL := hLL.symm; subst hLL; refine O_n ?_
  obtain ⟨kk, hkk, hkl⟩ : ∃ kk : Nat, around bit (8 * ((f.length : Int) - (V : Int))) = (kk : Int) ∧ kk < 8 * (f.length - V) := by
    have := around_in (n := bit) (most := 8 * ((f.length : Int) - (V : Int))) (by omega)
    exact ⟨(around bit (8 * ((f.length : Int) - (V : Int)))).toNat, by omega, by omega⟩
  rw [hkk]
  repeat' (first | refine go ?_ | intro _ | (apply cG; first | refine cT ?_ | refine cF ?_ | refine cS (fun _ => ?_) fun _ => ?_) | (apply gW; refine sW ?_) | (apply gI; refine sI ?_) | (apply gE; refine sE ?_) | (apply gP; refine sP ?_) | (apply gC; refine sC ?_) | (apply gD; refine sD ?_) | fail)
  refine O_d (dy_call ArgsI.pf (by first | exact rfl | trivial | (intro a b; rfl)) (Few_all (l := f) Sc.pf (by omega) (by omega))) ?_; rintro _ _ ⟨_, ⟨A5, c5, rfl, rfl⟩, rfl⟩; refine O_n ?_
  obtain ⟨p, hp⟩ : ∃ p : Nat, p = V + kk / 8 := ⟨_, rfl⟩
  have hpf : p < f.length := by omega
  obtain ⟨y, hy⟩ : ∃ y, f[p]? = some y := ⟨_, List.getElem?_eq_getElem hpf⟩
  have hpi : ((V : Int) + (kk : Int) / 8).toNat = p := by omega
  have hay : At f p y := ⟨hy⟩
  have hay2 : At f ((V : Int) + (kk : Int) / 8).toNat y := by rw [hpi]; exact ⟨hy⟩
  obtain ⟨z, hz, hzy⟩ := bit_flip (y := y) (k := kk % 8) (by omega)
  have hno := hdet p y z (by omega) hy hzy
  have hy2 : f[V + kk / 8]? = some y := by rw [← hp]; exact hy
  have hsh : IntKind.u8.wrap (1 * 2 ^ ((kk : Int) % 8).toNat) = IntKind.u8.wrap (1 * 2 ^ (kk % 8)) := by
    have : ((kk : Int) % 8).toNat = kk % 8 := by omega
    rw [this]
  repeat' (first | refine go ?_ | intro _ | (apply cG; first | refine cT ?_ | refine cF ?_ | refine cS (fun _ => ?_) fun _ => ?_) | (apply gW; refine sW ?_) | (apply gI; refine sI ?_) | (apply gE; refine sE ?_) | (apply gP; refine sP ?_) | (apply gC; refine sC ?_) | (apply gD; refine sD ?_) | fail)
  refine O_s (sv_shl (hr := hsh)) ?_
  refine O_s (sv_xor (hr := hz)) ?_
  repeat' (first | refine go ?_ | intro _ | (apply cG; first | refine cT ?_ | refine cF ?_ | refine cS (fun _ => ?_) fun _ => ?_) | (apply gW; refine sW ?_) | (apply gI; refine sI ?_) | (apply gE; refine sE ?_) | (apply gP; refine sP ?_) | (apply gC; refine sC ?_) | (apply gD; refine sD ?_) | fail)
  refine O_d (dy_storeE (f := bv) (hf := fun _ => rfl) (j := V + kk / 8) (n := f.length) (c := c5) z (hy := by rfl) (hj := by omega)) ?_; rintro _ _ ⟨rfl, rfl⟩; refine O_n ?_
  rw [← hp]
  obtain ⟨turned, htd⟩ : ∃ turned, f.set p z = turned := ⟨_, rfl⟩
  have htl : turned.length = f.length := by rw [← htd, List.length_set]
  rw [htd] at hno ⊢
  have hs1 : scanF turned.length 0 turned = ([], 0) := by
    cases h : turned.length with
    | zero => rfl
    | succ n => exact scanF_no hno
  have hs2 : scanF f.length 0 f = ([o], f.length) := by
    have h := scanF_frames [o] f.length 0 [] (by intro x hx; simp only [List.mem_cons, List.not_mem_nil, or_false] at hx; subst hx; omega) (by decide) (by show (0 : Int) + ((1 : Nat) : Int) ≤ 9223372036854775807; decide) (by show 1 ≤ f.length; omega)
    have e : framesF 0 [o] = f := by simp [framesF, hf]
    rw [e, List.append_nil, scanF_nil] at h
    simpa using h
  refine O_frz 0 ?_
  refine O_frz 2 ?_
  repeat' (first | refine go ?_ | intro _ | (apply cG; first | refine cT ?_ | refine cF ?_ | refine cS (fun _ => ?_) fun _ => ?_) | (apply gW; refine sW ?_) | (apply gI; refine sI ?_) | (apply gE; refine sE ?_) | (apply gP; refine sP ?_) | (apply gC; refine sC ?_) | (apply gD; refine sD ?_) | fail)
  refine O_d (dy_call ArgsI.pf (by first | exact rfl | trivial | (intro a b; rfl)) (Scan_ct (b := turned) (.head _) (by omega) hs1)) ?_; rintro _ _ ⟨_, ⟨A6, c6, rfl, rfl⟩, rfl⟩; refine O_n ?_
  repeat' (first | refine go ?_ | intro _ | (apply cG; first | refine cT ?_ | refine cF ?_ | refine cS (fun _ => ?_) fun _ => ?_) | (apply gW; refine sW ?_) | (apply gI; refine sI ?_) | (apply gE; refine sE ?_) | (apply gP; refine sP ?_) | (apply gC; refine sC ?_) | (apply gD; refine sD ?_) | fail)
  refine O_d (dy_call ArgsI.pf (by first | exact rfl | trivial | (intro a b; rfl)) (Scan_ct (b := f) (.tail _ (.tail _ (.tail _ (.head _)))) (by omega) hs2)) ?_; rintro _ _ ⟨_, ⟨A7, c7, rfl, rfl⟩, rfl⟩; refine O_n ?_
  repeat' (first | refine go ?_ | intro _ | (apply cG; first | refine cT ?_ | refine cF ?_ | refine cS (fun _ => ?_) fun _ => ?_) | (apply gW; refine sW ?_) | (apply gI; refine sI ?_) | (apply gE; refine sE ?_) | (apply gP; refine sP ?_) | (apply gC; refine sC ?_) | (apply gD; refine sD ?_) | fail)
  refine O_d (dy_call ArgsI.pf (by first | exact rfl | trivial | (intro a b; rfl)) (Read_ct (l := f) (.inl (.tail _ (.tail _ (.tail _ (.tail _ (.head _)))))) (by omega))) ?_; rintro _ _ ⟨_, ⟨p1, rfl, rfl⟩, rfl⟩; refine O_n ?_
  repeat' (first | refine go ?_ | intro _ | (apply cG; first | refine cT ?_ | refine cF ?_ | refine cS (fun _ => ?_) fun _ => ?_) | (apply gW; refine sW ?_) | (apply gI; refine sI ?_) | (apply gE; refine sE ?_) | (apply gP; refine sP ?_) | (apply gC; refine sC ?_) | (apply gD; refine sD ?_) | fail)
  refine O_d (dy_call ArgsI.pf (by first | exact rfl | trivial | (intro a b; rfl)) (Raw_ct hread (by omega))) ?_; rintro _ _ ⟨_, ⟨A8, c8, rfl, rfl⟩, rfl⟩; refine O_n ?_
  repeat' (first | refine go ?_ | intro _ | (apply cG; first | refine cT ?_ | refine cF ?_ | refine cS (fun _ => ?_) fun _ => ?_) | (apply gW; refine sW ?_) | (apply gI; refine sI ?_) | (apply gE; refine sE ?_) | (apply gP; refine sP ?_) | (apply gC; refine sC ?_) | (apply gD; refine sD ?_) | fail)
  obtain ⟨bw, hbw⟩ : ∃ bw, bytesW lblF.data.toList c = bw := ⟨_, rfl⟩
  rw [hbw] at hsumd
  have hq0 : ([] : List (List UInt8)).length = 0 := rfl
  have hq1 : [o].length = 1 := rfl
  refine O_d (dy_call ArgsI.pf (by first | exact rfl | trivial | (intro a b; rfl)) (CT.pull (i := 1) (by rfl) (Uint_ct hread2 (by omega)))) ?_; rintro _ _ ⟨_, ⟨rfl, rfl⟩, rfl⟩; refine O_n ?_
  repeat' (first | refine go ?_ | intro _ | (apply cG; first | refine cT ?_ | refine cF ?_ | refine cS (fun _ => ?_) fun _ => ?_) | (apply gW; refine sW ?_) | (apply gI; refine sI ?_) | (apply gE; refine sE ?_) | (apply gP; refine sP ?_) | (apply gC; refine sC ?_) | (apply gD; refine sD ?_) | fail)
  refine O_d (dy_call ArgsI.pf (by first | exact rfl | trivial | (intro a b; rfl)) (CT.pull (i := 0) (by rfl) (End_ct (bs := []) (e := 0) (x := 0) rfl (by decide)))) ?_; rintro _ _ ⟨_, ⟨rfl, rfl⟩, rfl⟩; refine O_n ?_
  repeat' (first | refine go ?_ | intro _ | (apply cG; first | refine cT ?_ | refine cF ?_ | refine cS (fun _ => ?_) fun _ => ?_) | (apply gW; refine sW ?_) | (apply gI; refine sI ?_) | (apply gE; refine sE ?_) | (apply gP; refine sP ?_) | (apply gC; refine sC ?_) | (apply gD; refine sD ?_) | fail)
  refine O_d (dy_call ArgsI.pf (by first | exact rfl | trivial | (intro a b; rfl)) (SameBytes_ct (la := c) (lb := c) (.inr ⟨_, .tail _ (.head _)⟩) Sc.pf (by omega) (by omega) (q := true) (decide_eq_true rfl))) ?_; rintro _ _ ⟨_, ⟨rfl, hLL⟩, rfl⟩; replace hLL := hLL.symm; subst hLL; refine O_n ?_
  repeat' (first | refine go ?_ | intro _ | (apply cG; first | refine cT ?_ | refine cF ?_ | refine cS (fun _ => ?_) fun _ => ?_) | (apply gW; refine sW ?_) | (apply gI; refine sI ?_) | (apply gE; refine sE ?_) | (apply gP; refine sP ?_) | (apply gC; refine sC ?_) | (apply gD; refine sD ?_) | fail)
  refine O_d (dy_call ArgsI.pf (by first | exact rfl | trivial | (intro a b; rfl)) (hBytes_ct (s := lblF) (l := c) (.inl (by repeat (first | exact .head _ | refine .tail _ ?_))) (by decide) (by omega) hbw)) ?_; rintro _ _ ⟨_, ⟨rfl, hLL⟩, rfl⟩; replace hLL := hLL.symm; subst hLL; refine O_n ?_
  repeat' (first | refine go ?_ | intro _ | (apply cG; first | refine cT ?_ | refine cF ?_ | refine cS (fun _ => ?_) fun _ => ?_) | (apply gW; refine sW ?_) | (apply gI; refine sI ?_) | (apply gE; refine sE ?_) | (apply gP; refine sP ?_) | (apply gC; refine sC ?_) | (apply gD; refine sD ?_) | fail)
  refine O_d (dy_call ArgsI.pf (by first | exact rfl | trivial | (intro a b; rfl)) (lives_ct)) ?_; rintro _ _ ⟨_, ⟨rfl, hLL⟩, rfl⟩; replace hLL := hLL.symm; subst hLL; refine O_n ?_
  repeat' (first | refine go ?_ | intro _ | (apply cG; first | refine cT ?_ | refine cF ?_ | refine cS (fun _ => ?_) fun _ => ?_) | (apply gW; refine sW ?_) | (apply gI; refine sI ?_) | (apply gE; refine sE ?_) | (apply gP; refine sP ?_) | (apply gC; refine sC ?_) | (apply gD; refine sD ?_) | fail)
  refine E_res1 (by rfl) (by rfl) ⟨rfl, rfl⟩ Sb
theorem JournalDetects_any {vb : Value} {lb : List UInt8} {bit : Int} {w : World} (s : St w w [rd eB vb lb]) (hbl : lb.length ≤ 9223372036854775807) (hn1 : -9223372036854775808 ≤ bit) (hn2 : bit ≤ 9223372036854775807) :
    Calls Try.prog 7 #[vb, .int .i64 bit] w fun e w' => e = .returned (.bool true) ∧ Below w.heap.size w w' :=
  ((JournalDetects_ct (W0 := w) (.head _) hbl hn1 hn2).run w s).mono fun e w' h => by
    obtain ⟨v, L', rfl, ⟨rfl, rfl⟩, s⟩ := h
    exact ⟨rfl, s.below⟩
end
end Go.Proofs.Ytbjaecofccpahaa
