/-
  Walks: the examples.
-/
import Derived.Test.YtbjaecofccpahaaJ5
import Derived.Test.YtbjaecofccpahaaAk
namespace Go.Proofs.Ytbjaecofccpahaa
open Go Go.RowKit
set_option linter.unusedVariables false
set_option linter.unusedSimpArgs false
set_option maxRecDepth 20000
set_option synthInstance.maxSize 100000
set_option synthInstance.maxHeartbeats 400000
theorem core07 : coreF 0 [7] = [0, 1, 7] := by
  unfold coreF
  decide +kernel
theorem frame07 : frameF 0 [7] = varint 3 ++ [0, 1, 7] ++ varint (bytesW lblF.data.toList [0, 1, 7]).toNat := by
  unfold frameF sumF
  rw [core07]
  rfl
theorem isF_short {i : Int} {b : List UInt8} (h : b.length ≤ 3) : isF i b = false := by
  rw [Bool.eq_false_iff]
  intro h2
  obtain ⟨t, ht⟩ := isF_iff.1 h2
  have h3 := frameF_min i (recF b)
  have h4 := congrArg List.length ht
  rw [List.length_append] at h4
  omega
theorem scanF_short {n : Nat} {i : Int} {b : List UInt8} (h : b.length ≤ 3) : scanF n i b = ([], 0) := by
  cases n with
  | zero => rfl
  | succ n => exact scanF_no (isF_short h)
theorem scan07 {f : List UInt8} (hf : frameF 0 [7] = f) (n : Nat) (hn : 1 ≤ n) : scanF n 0 (f ++ [3, 0, 1]) = ([[7]], f.length) := by
  have h := scanF_frames [[7]] n 0 [3, 0, 1] (by intro x hx; simp only [List.mem_cons, List.not_mem_nil, or_false] at hx; subst hx; decide) (by decide) (by decide) hn
  have e : framesF 0 [[7]] = f := by simp [framesF, hf]
  rw [e, scanF_short (b := [3, 0, 1]) (by decide)] at h
  simpa using h
section
variable {W0 : World} {L : List HP}
theorem lives_ct : CT Try.prog 22 #[] W0 L fun r L' => r = .bool true ∧ L' = L := by
  refine CT_enter Try.func22 rfl ?_; (simp only [Try.ntmps22, List.size_toArray, List.length_cons, List.length_nil, Nat.reduceAdd, Nat.reduceSub, Array.replicate_succ, Array.replicate_zero, List.push_toArray, List.append_toArray, List.nil_append, List.cons_append])
  repeat' (first | refine go ?_ | intro _ | (apply cG; first | refine cT ?_ | refine cF ?_ | refine cS (fun _ => ?_) fun _ => ?_) | (apply gW; refine sW ?_) | (apply gI; refine sI ?_) | (apply gE; refine sE ?_) | (apply gP; refine sP ?_) | (apply gC; refine sC ?_) | (apply gD; refine sD ?_) | fail)
  refine O_d (dy_lit1 (R := eB) (7 : UInt8) (hcs := by rfl) (hel := fun _ _ _ => by rfl)) ?_; rintro _ _ ⟨_, rfl, rfl⟩; refine O_n ?_
  repeat' (first | refine go ?_ | intro _ | (apply cG; first | refine cT ?_ | refine cF ?_ | refine cS (fun _ => ?_) fun _ => ?_) | (apply gW; refine sW ?_) | (apply gI; refine sI ?_) | (apply gE; refine sE ?_) | (apply gP; refine sP ?_) | (apply gC; refine sC ?_) | (apply gD; refine sD ?_) | fail)
  refine O_d (dy_call ArgsI.pf (by first | exact rfl | trivial | (intro a b; rfl)) (Frame_ct (i := 0) (x := [7]) Sc.pf (by decide) (by decide) (by decide))) ?_; rintro _ _ ⟨_, ⟨A1, c1, rfl, rfl⟩, rfl⟩; refine O_n ?_
  have hmin := frameF_min 0 [7]
  have hmax := frameF_len (i := 0) (x := [7]) (by decide) (by decide) (by decide)
  simp only [List.length_cons, List.length_nil] at hmin hmax
  have h07 := frame07
  obtain ⟨f, hf⟩ : ∃ f, frameF 0 [7] = f := ⟨_, rfl⟩
  have hscan := scan07 hf (f ++ [3, 0, 1]).length (by simp)
  rw [hf] at hmin hmax h07 ⊢
  repeat' (first | refine go ?_ | intro _ | (apply cG; first | refine cT ?_ | refine cF ?_ | refine cS (fun _ => ?_) fun _ => ?_) | (apply gW; refine sW ?_) | (apply gI; refine sI ?_) | (apply gE; refine sE ?_) | (apply gP; refine sP ?_) | (apply gC; refine sC ?_) | (apply gD; refine sD ?_) | fail)
  refine wr_newO ?_
  refine O_d (dy_litP (f := bv) (hf := fun _ => rfl) [0, 1, 7] (by rfl)) ?_; rintro _ _ ⟨_, rfl, rfl⟩; refine O_n ?_
  refine O_d (dy_call ArgsI.pf (by first | exact rfl | trivial | (intro a b; rfl)) (CT.pull (i := 1) (by rfl) (wRaw_ct (l := [0, 1, 7]) Sc.pf (by decide) (by decide)))) ?_; rintro _ _ ⟨_, rfl, rfl⟩; refine O_n ?_
  repeat' (first | refine go ?_ | intro _ | (apply cG; first | refine cT ?_ | refine cF ?_ | refine cS (fun _ => ?_) fun _ => ?_) | (apply gW; refine sW ?_) | (apply gI; refine sI ?_) | (apply gE; refine sE ?_) | (apply gP; refine sP ?_) | (apply gC; refine sC ?_) | (apply gD; refine sD ?_) | fail)
  refine O_d (dy_litP (f := bv) (hf := fun _ => rfl) [0, 1, 7] (by rfl)) ?_; rintro _ _ ⟨_, rfl, rfl⟩; refine O_n ?_
  refine O_d (dy_call ArgsI.pf (by first | exact rfl | trivial | (intro a b; rfl)) (hBytes_ct (s := lblF) (l := [0, 1, 7]) Sc.pf (by decide) (by decide) rfl)) ?_; rintro _ _ ⟨_, ⟨rfl, hLL⟩, rfl⟩; replace hLL := hLL.symm; subst hLL; refine O_n ?_
  obtain ⟨z, hz⟩ : ∃ z, bytesW lblF.data.toList [0, 1, 7] = z := ⟨_, rfl⟩
  rw [hz] at h07 ⊢
  have hzl := z.toNat_lt
  repeat' (first | refine go ?_ | intro _ | (apply cG; first | refine cT ?_ | refine cF ?_ | refine cS (fun _ => ?_) fun _ => ?_) | (apply gW; refine sW ?_) | (apply gI; refine sI ?_) | (apply gE; refine sE ?_) | (apply gP; refine sP ?_) | (apply gC; refine sC ?_) | (apply gD; refine sD ?_) | fail)
  refine O_d (dy_call ArgsI.pf (by first | exact rfl | trivial | (intro a b; rfl)) (CT.pull (i := 1) (by rfl) (wUint_ct (m := z.toNat) hzl (by decide +kernel)))) ?_; rintro _ _ ⟨_, rfl, rfl⟩; refine O_n ?_
  have hw : ([] : List UInt8) ++ varint ([0, 1, 7] : List UInt8).length ++ ([0, 1, 7] : List UInt8) ++ varint z.toNat = f := by rw [List.nil_append]; exact h07.symm
  rw [hw]
  repeat' (first | refine go ?_ | intro _ | (apply cG; first | refine cT ?_ | refine cF ?_ | refine cS (fun _ => ?_) fun _ => ?_) | (apply gW; refine sW ?_) | (apply gI; refine sI ?_) | (apply gE; refine sE ?_) | (apply gP; refine sP ?_) | (apply gC; refine sC ?_) | (apply gD; refine sD ?_) | fail)
  refine O_d (dy_litP (f := bv) (hf := fun _ => rfl) [3, 0, 1] (by rfl)) ?_; rintro _ _ ⟨_, rfl, rfl⟩; refine O_n ?_
  refine O_d (dy_appendK 4 (l := f) (l2 := [3, 0, 1]) (v' := _)) ?_; rintro _ _ ⟨A2, c2, rfl, rfl⟩; refine O_n ?_
  repeat' (first | refine go ?_ | intro _ | (apply cG; first | refine cT ?_ | refine cF ?_ | refine cS (fun _ => ?_) fun _ => ?_) | (apply gW; refine sW ?_) | (apply gI; refine sI ?_) | (apply gE; refine sE ?_) | (apply gP; refine sP ?_) | (apply gC; refine sC ?_) | (apply gD; refine sD ?_) | fail)
  have hlen : (f ++ [3, 0, 1]).length = f.length + 3 := by simp
  refine O_d (dy_call ArgsI.pf (by first | exact rfl | trivial | (intro a b; rfl)) (Scan_ct (b := f ++ [3, 0, 1]) (by rw [← hlen]; exact .head _) (by rw [hlen]; omega) hscan)) ?_; rintro _ _ ⟨_, ⟨A3, c3, rfl, rfl⟩, rfl⟩; refine O_n ?_
  repeat' (first | refine go ?_ | intro _ | (apply cG; first | refine cT ?_ | refine cF ?_ | refine cS (fun _ => ?_) fun _ => ?_) | (apply gW; refine sW ?_) | (apply gI; refine sI ?_) | (apply gE; refine sE ?_) | (apply gP; refine sP ?_) | (apply gC; refine sC ?_) | (apply gD; refine sD ?_) | fail)
  refine O_d (dy_call ArgsI.pf (by first | exact rfl | trivial | (intro a b; rfl)) (CT.pull (i := 4) (by rfl) (wDone_ct (bs := f) (by omega)))) ?_; rintro _ _ ⟨_, ⟨A4, c4, rfl, rfl⟩, rfl⟩; refine O_n ?_
  refine O_d (dy_call ArgsI.pf (by first | exact rfl | trivial | (intro a b; rfl)) (SameBytes_ct (la := f) (lb := f) Sc.pf Sc.pf (by omega) (by omega) (q := true) (decide_eq_true rfl))) ?_; rintro _ _ ⟨_, ⟨rfl, hLL⟩, rfl⟩; replace hLL := hLL.symm; subst hLL; refine O_n ?_
  repeat' (first | refine go ?_ | intro _ | (apply cG; first | refine cT ?_ | refine cF ?_ | refine cS (fun _ => ?_) fun _ => ?_) | (apply gW; refine sW ?_) | (apply gI; refine sI ?_) | (apply gE; refine sE ?_) | (apply gP; refine sP ?_) | (apply gC; refine sC ?_) | (apply gD; refine sD ?_) | fail)
  refine O_d (dy_lit1 (R := eB) (7 : UInt8) (hcs := by rfl) (hel := fun _ _ _ => by rfl)) ?_; rintro _ _ ⟨_, rfl, rfl⟩; refine O_n ?_
  refine O_frz 0 ?_
  rename_i b8 _ _ _ _ b7
  refine O_d (dy_litS (R := eSl eB) [[7]] [.slice (some ⟨b7, 0, none⟩) 1 1] (by rfl) (fun m h hs => ⟨⟨_, rfl, rd_mem hs (by repeat (first | exact .head _ | refine .tail _ ?_))⟩, trivial⟩)) ?_; rintro _ _ ⟨_, rfl, rfl⟩; refine O_n ?_
  refine O_frz 0 ?_
  refine O_frz 4 ?_
  have h7 : ∀ x ∈ ([[7]] : List (List UInt8)), x.length ≤ 10000000 := by decide
  refine O_d (dy_call ArgsI.pf (by first | exact rfl | trivial | (intro a b; rfl)) (SameLists_ct (la := [[7]]) (lb := [[7]]) (.tail _ (.tail _ (.tail _ (.tail _ (.head _))))) (.head _) (by decide) (by decide) h7 h7 (q := true) (decide_eq_true rfl))) ?_; rintro _ _ ⟨_, ⟨rfl, hLL⟩, rfl⟩; replace hLL := hLL.symm; subst hLL; refine O_n ?_
  repeat' (first | refine go ?_ | intro _ | (apply cG; first | refine cT ?_ | refine cF ?_ | refine cS (fun _ => ?_) fun _ => ?_) | (apply gW; refine sW ?_) | (apply gI; refine sI ?_) | (apply gE; refine sE ?_) | (apply gP; refine sP ?_) | (apply gC; refine sC ?_) | (apply gD; refine sD ?_) | fail)
  refine E_res1 (by rfl) (by rfl) ⟨rfl, rfl⟩ Sb
end
end Go.Proofs.Ytbjaecofccpahaa
