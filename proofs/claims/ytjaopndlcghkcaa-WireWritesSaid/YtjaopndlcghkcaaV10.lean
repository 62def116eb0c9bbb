/-
  The wire laws' values, written one after another: encode.
-/
import Derived.Test.YtjaopndlcghkcaaV9
namespace Go.Proofs.Ytjaopndlcghkcaa
open Go Go.RowKit
set_option linter.unusedVariables false
set_option linter.unusedSimpArgs false
set_option synthInstance.maxSize 100000
set_option synthInstance.maxHeartbeats 400000
def encL (l : List Val) : List UInt8 := (l.map encV).flatten
theorem encL_snoc (l : List Val) (x : Val) : encL (l ++ [x]) = encL l ++ encV x := by simp [encL]
theorem encV_len {v : Val} (h : v.ok) : (encV v).length ≤ 20000000 := by
  obtain ⟨k1, k2, hu, n1, n2, hb, hl, hli⟩ := h
  have h1 := vlen hu
  have h2 := vlen (zig_lt n1 n2)
  have h3 := vlen (m := v.b.length) (by omega)
  have h4 := vlen (m := v.l.length) (by omega)
  have h5 := encI_len hli
  have h6 : (varint (if v.n = 1 then 1 else 0)).length ≤ 10 := vlen (by split <;> decide)
  unfold encV
  split
  · omega
  · split
    · omega
    · split
      · omega
      · split
        · rw [List.length_append]; omega
        · rw [List.length_append]; omega
theorem encL_len : ∀ {l : List Val}, (∀ x ∈ l, x.ok) → (encL l).length ≤ 20000000 * l.length
  | [], _ => by simp [encL]
  | x :: l, h => by
    have h1 := encL_len (l := l) fun x hx => h x (.tail _ hx)
    have h2 := encV_len (h x (.head _))
    simp only [encL, List.map_cons, List.flatten_cons, List.length_append, List.length_cons] at h1 ⊢
    omega
theorem sub_peekS {L : List HP} {v : Value} {l : List VV} {j : Nat} {x : VV} (hm : Src L eV v l) (hx : l[j]? = some x) : Sub L (rd eB x.vb x.b :: rd eI x.vl x.l :: L) := fun m h s => by
  rcases hm with hm | ⟨E, hm⟩
  · obtain ⟨a, _, A, cap, css, _, _, ha, _⟩ := s.mem hm
    obtain ⟨cs, _, hc⟩ := ha.get' hx
    exact ⟨Hp.none, h, Hp.none_dj _, Hp.none_le _, Hp.le_refl _, hc.2.1, Hp.none, h, Hp.none_dj _, Hp.none_le _, Hp.le_refl _, hc.2.2, s⟩
  · exact sub_peek2 hm hx m h s
section
variable {W0 : World} {L : List HP}
theorem C_new {c : Code} {Q : Exit → Act → World → Prop} {a : Act} {p : Nat} (k : CL Try.prog W0 (wr p [] :: L) c Q a) : CL Try.prog W0 (cel p [.slice none 0 0] 26 :: L) c Q a :=
  ⟨fun w s => k.run w (wr_sub.st ((s.own_nil 5 eB).weak fun _ _ h => h.swap))⟩
set_option maxHeartbeats 1000000 in
theorem encode_ct {v : Value} {l : List VV} (hv : Src L eV v l) (hok : ∀ x ∈ l, x.toVal.ok) (hl : l.length ≤ 1000) :
    CT Try.prog 35 #[v] W0 L fun r L' => ∃ A c, r = .slice A (encL (l.map VV.toVal)).length c ∧ L' = own 5 eB (.slice A (encL (l.map VV.toVal)).length c) (encL (l.map VV.toVal)) :: L := by
  refine CT_fact (fun w s => (hv.sl s).form) ?_
  rintro ⟨A, cap, rfl, hcap⟩
  replace hv : ScA A L l.length cap eV l := ⟨hv⟩
  obtain ⟨out, hout⟩ : ∃ out, encL (l.map VV.toVal) = out := ⟨_, rfl⟩
  have hol : out.length ≤ 20000000 * l.length := by
    rw [← hout]
    have := encL_len (l := l.map VV.toVal) (by simpa using hok)
    simpa using this
  rw [hout]
  refine CT_enter Try.func35 rfl ?_; (simp only [Try.ntmps35, List.size_toArray, List.length_cons, List.length_nil, Nat.reduceAdd, Nat.reduceSub, Array.replicate_succ, Array.replicate_zero, List.push_toArray, List.append_toArray, List.nil_append, List.cons_append])
  repeat' (first | refine go ?_ | intro _ | (apply cG; first | refine cT ?_ | refine cF ?_ | refine cS (fun _ => ?_) fun _ => ?_) | (apply gW; refine sW ?_) | (apply gI; refine sI ?_) | (apply gE; refine sE ?_) | (apply gP; refine sP ?_) | (apply gC; refine sC ?_) | (apply gD; refine sD ?_) | fail)
  rename_i pw
  refine C_new ?_
  refine C_loop (κ := Nat) [false, false, false, false, true, true, true, true, true, true, true, true, true, true, true, true, false] (fun k => [(4, .int .i64 (k : Int))]) (fun k => wr pw (encL ((l.take k).map VV.toVal)) :: L) (fun k => k ≤ l.length) (fun k => l.length - k) 0 (Nat.zero_le _) ⟨rfl, trivial⟩ (Sub.refl _) ?_
  rintro k u hk
  ((try dsimp only); refine C_n ?_; (try simp only [Nat.reduceAdd, Nat.zero_add]))
  by_cases hlt : k < l.length
  · obtain ⟨x, hx⟩ : ∃ x, l[k]? = some x := ⟨_, List.getElem?_eq_getElem hlt⟩
    have hbx := hok x (List.mem_of_getElem? hx)
    have hel := encL_len (l := (l.take k).map VV.toVal) (fun y hy => by
      obtain ⟨z, hz, rfl⟩ := List.mem_map.1 hy
      exact hok z (List.mem_of_mem_take hz))
    have htl : ((l.take k).map VV.toVal).length ≤ k := by rw [List.length_map]; exact List.length_take_le _ _
    refine C_sub (sub_peekS hv.pf.c hx) ?_
    repeat' (first | refine go ?_ | intro _ | (apply cG; first | refine cT ?_ | refine cF ?_ | refine cS (fun _ => ?_) fun _ => ?_) | (apply gW; refine sW ?_) | (apply gI; refine sI ?_) | (apply gE; refine sE ?_) | (apply gP; refine sP ?_) | (apply gC; refine sC ?_) | (apply gD; refine sD ?_) | fail)
    refine O_s (sv_loadEA (R := eV) (el := x) (vs := x.cells) (hR := rfl) (hl := hx) (hv := fun w s cs h => h.1)) ?_
    repeat' (first | refine go ?_ | intro _ | (apply cG; first | refine cT ?_ | refine cF ?_ | refine cS (fun _ => ?_) fun _ => ?_) | (apply gW; refine sW ?_) | (apply gI; refine sI ?_) | (apply gE; refine sE ?_) | (apply gP; refine sP ?_) | (apply gC; refine sC ?_) | (apply gD; refine sD ?_) | fail)
    refine O_d (dy_call ArgsI.pf (by first | exact rfl | trivial | (intro a b; rfl)) (CT.pull (i := 2) (by rfl) (write_ct (x := x) hbx (.inl (.head _)) (.inl (.tail _ (.head _))) (by omega)))) ?_; rintro _ _ ⟨_, rfl, rfl⟩; refine O_n ?_
    repeat' (first | refine go ?_ | intro _ | (apply cG; first | refine cT ?_ | refine cF ?_ | refine cS (fun _ => ?_) fun _ => ?_) | (apply gW; refine sW ?_) | (apply gI; refine sI ?_) | (apply gE; refine sE ?_) | (apply gP; refine sP ?_) | (apply gC; refine sC ?_) | (apply gD; refine sD ?_) | fail)
    refine E_round (k + 1) (by omega) (by omega) ⟨rfl, trivial⟩ ?_
    rw [take_snoc' hx, List.map_append, List.map_cons, List.map_nil, encL_snoc]
    exact sub_skip (sub_drop (sub_drop (Sub.refl _)))
  · obtain rfl : k = l.length := by omega
    rw [List.take_length, hout]
    repeat' (first | refine go ?_ | intro _ | (apply cG; first | refine cT ?_ | refine cF ?_ | refine cS (fun _ => ?_) fun _ => ?_) | (apply gW; refine sW ?_) | (apply gI; refine sI ?_) | (apply gE; refine sE ?_) | (apply gP; refine sP ?_) | (apply gC; refine sC ?_) | (apply gD; refine sD ?_) | fail)
    refine O_d (dy_call ArgsI.pf (by first | exact rfl | trivial | (intro a b; rfl)) (wDone_ct (by omega))) ?_; rintro _ _ ⟨_, ⟨A1, c1, rfl, rfl⟩, rfl⟩; refine O_n ?_
    repeat' (first | refine go ?_ | intro _ | (apply cG; first | refine cT ?_ | refine cF ?_ | refine cS (fun _ => ?_) fun _ => ?_) | (apply gW; refine sW ?_) | (apply gI; refine sI ?_) | (apply gE; refine sE ?_) | (apply gP; refine sP ?_) | (apply gC; refine sC ?_) | (apply gD; refine sD ?_) | fail)
    refine E_sub (sub_skip (sub_drop (Sub.refl _))) ?_
    refine E_end1 (by rfl) (by rfl) Ev.pf ⟨_, _, rfl, rfl⟩
end
end Go.Proofs.Ytjaopndlcghkcaa
