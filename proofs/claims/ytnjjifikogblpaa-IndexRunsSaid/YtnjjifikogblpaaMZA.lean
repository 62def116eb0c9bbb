/-
  The law IndexRuns.
-/
import Derived.Test.YtnjjifikogblpaaMZ
import Derived.Test.YtnjjifikogblpaaMC
namespace Go.Proofs.Ytnjjifikogblpaa
open Go Go.RowKit
set_option linter.unusedVariables false
set_option linter.unusedSimpArgs false
set_option maxRecDepth 20000
set_option synthInstance.maxSize 100000
set_option synthInstance.maxHeartbeats 400000
def eBX : Enc BX :=
  ⟨4, fun m b cs => cs = [.int .i64 b.x0, .int .i64 b.y0, .int .i64 b.x1, .int .i64 b.y1], fun hm e => e, fun e => by subst e; rfl,
    fun {_ x _} e u hu => by
      subst e
      simp only [List.mem_cons, List.not_mem_nil, or_false] at hu
      rcases hu with rfl | rfl | rfl | rfl <;> rfl⟩
instance : Sz eBX 4 := ⟨rfl⟩
instance {b : BX} : EncC eBX b [.int .i64 b.x0, .int .i64 b.y0, .int .i64 b.x1, .int .i64 b.y1] := ⟨fun _ _ h => h⟩
theorem find_len {l : List Ent} {b : BX} {d : Int} : (findL l b d).length ≤ l.length := by
  unfold findL
  split
  · unfold hitsF
    rw [List.length_map]
    exact List.length_filter_le _ _
  · exact Nat.zero_le _
section
variable {P : Program} {W0 : World} {L : List HP}
set_option maxHeartbeats 4000000 in
theorem IndexRuns_ct {v : Value} {l : List Int} {n m day : Int} (hv : rd eI v l ∈ L) (hl : l.length ≤ 9223372036854775807) (hr : ∀ n ∈ l, I64 n) (hn : I64 n) (hm : I64 m) (hday : I64 day) :
    CT Try.prog 3 #[v, .int .i64 n, .int .i64 m, .int .i64 day] W0 L fun r L' => r = .bool true ∧ L' = L := by
  refine CT_fact (fun w s => ((Src.sl (.inl hv) s).form)) ?_
  rintro ⟨A0, c0, rfl, hc0⟩
  refine CT_enter Try.func3 rfl ?_; (simp only [Try.ntmps3, List.size_toArray, List.length_cons, List.length_nil, Nat.reduceAdd, Nat.reduceSub, Array.replicate_succ, Array.replicate_zero, List.push_toArray, List.append_toArray, List.nil_append, List.cons_append])
  repeat' (first | refine go ?_ | intro _ | (apply cG; first | refine cT ?_ | refine cF ?_ | refine cS (fun _ => ?_) fun _ => ?_) | (apply gW; refine sW ?_) | (apply gI; refine sI ?_) | (apply gE; refine sE ?_) | (apply gP; refine sP ?_) | (apply gC; refine sC ?_) | (apply gD; refine sD ?_) | fail)
  refine O_d (dy_call ArgsI.pf (by first | exact rfl | trivial | (intro a b; rfl)) (filled_ct (l := l) (most := 14) hv hr hl (by decide))) ?_; rintro _ _ ⟨_, ⟨T, R, hB, hk, hlk, hf, hlen, rfl, rfl⟩, rfl⟩; refine O_n ?_
  repeat' (first | refine go ?_ | intro _ | (apply cG; first | refine cT ?_ | refine cF ?_ | refine cS (fun _ => ?_) fun _ => ?_) | (apply gW; refine sW ?_) | (apply gI; refine sI ?_) | (apply gE; refine sE ?_) | (apply gP; refine sP ?_) | (apply gC; refine sC ?_) | (apply gD; refine sD ?_) | fail)
  refine O_d (dy_call ArgsI.pf (by first | exact rfl | trivial | (intro a b; rfl)) (Looks_ct (T := T))) ?_; rintro _ _ ⟨_, ⟨rfl, hLL⟩, rfl⟩; replace hLL := hLL.symm; subst hLL; refine O_n ?_
  rw [hk]
  repeat' (first | refine go ?_ | intro _ | (apply cG; first | refine cT ?_ | refine cF ?_ | refine cS (fun _ => ?_) fun _ => ?_) | (apply gW; refine sW ?_) | (apply gI; refine sI ?_) | (apply gE; refine sE ?_) | (apply gP; refine sP ?_) | (apply gC; refine sC ?_) | (apply gD; refine sD ?_) | fail)
  refine O_d (dy_call ArgsI.pf (by first | exact rfl | trivial | (intro a b; rfl)) (rBox_ct hn hm)) ?_; rintro _ _ ⟨_, ⟨b1, hb1, rfl, rfl⟩, rfl⟩; refine O_n ?_
  repeat' (first | refine go ?_ | intro _ | (apply cG; first | refine cT ?_ | refine cF ?_ | refine cS (fun _ => ?_) fun _ => ?_) | (apply gW; refine sW ?_) | (apply gI; refine sI ?_) | (apply gE; refine sE ?_) | (apply gP; refine sP ?_) | (apply gC; refine sC ?_) | (apply gD; refine sD ?_) | fail)
  refine O_d (dy_call ArgsI.pf (by first | exact rfl | trivial | (intro a b; rfl)) (rBox_ct hm hn)) ?_; rintro _ _ ⟨_, ⟨b2, hb2, rfl, rfl⟩, rfl⟩; refine O_n ?_
  repeat' (first | refine go ?_ | intro _ | (apply cG; first | refine cT ?_ | refine cF ?_ | refine cS (fun _ => ?_) fun _ => ?_) | (apply gW; refine sW ?_) | (apply gI; refine sI ?_) | (apply gE; refine sE ?_) | (apply gP; refine sP ?_) | (apply gC; refine sC ?_) | (apply gD; refine sD ?_) | fail)
  refine O_d (dy_litA (R := eBX) ([b1, b2, ⟨-1073741824, -1073741824, 1073741824, 1073741824⟩] : List BX) [[.int .i64 b1.x0, .int .i64 b1.y0, .int .i64 b1.x1, .int .i64 b1.y1], [.int .i64 b2.x0, .int .i64 b2.y0, .int .i64 b2.x1, .int .i64 b2.y1], [.int .i64 (-1073741824), .int .i64 (-1073741824), .int .i64 1073741824, .int .i64 1073741824]] (by rfl) (fun m h hs => ⟨rfl, rfl, rfl, trivial⟩)) ?_; rintro _ _ ⟨_, rfl, rfl⟩; refine O_n ?_
  rename_i g0
  obtain ⟨bs0, hbs0⟩ : ∃ bs, ([b1, b2, ⟨-1073741824, -1073741824, 1073741824, 1073741824⟩] : List BX) = bs := ⟨_, rfl⟩
  have hbl0 : bs0.length = 3 := by rw [← hbs0]; rfl
  rw [hbs0]
  clear hbs0
  refine O_sub (S := cel R.p [.slice R.A R.l.length R.c, .int .i64 R.lk] 36 :: rd eTh (.slice R.A R.l.length R.c) R.l :: own 31 eBX (.slice (some ⟨g0, 0, none⟩) bs0.length 3) bs0 :: trA T :: L) (Sub.trans (B := rtA R :: own 31 eBX (.slice (some ⟨g0, 0, none⟩) bs0.length 3) bs0 :: trA T :: L) (by rw [hbl0]; exact Sb) rtA_open) ?_
  repeat' (first | ((fail_if_success apply AtE); refine go ?_) | intro _ | (apply cG; first | refine cT ?_ | refine cF ?_ | refine cS (fun _ => ?_) fun _ => ?_) | (apply gW; refine sW ?_) | (apply gI; refine sI ?_) | (apply gE; refine sE ?_) | (apply gP; refine sP ?_) | (apply gC; refine sC ?_) | (apply gD; refine sD ?_) | fail)
  refine go ?_; refine go ?_; refine C_join (κ := Option Addr × Nat × List BX) [false, false, false, false, false, false, false, false, false, false, false, false, true, true, false, false, false, false, false, false, false, false, false, false, false, false, false, false, false, false, false, false, false, false, false, false, false, false, false, false, false, false, false, false, true, true, true, true, true, true, true, true, true, true, true, true, true, true, true, true, true, true, true, true, true, true, true, true, false, false, false, false, false, false, false, false, false, false, false, false, false, false, false, false, false, false, false, false, false, false, false, false, false, false, false, false, false, false, false, false, false, false, false, false, false, false, false, false, false, false, false, false, false, false, false, false, false, false, false, false, false, false, false, false, false, false, false, false, false] (fun k => [(12, .slice k.1 k.2.2.length k.2.1)]) (fun k => [(2, own 31 eBX (.slice k.1 k.2.2.length k.2.1) k.2.2)]) (fun k => k.2.2.length ≤ 7) ?_ ?_
  · repeat' (first | refine go ?_ | intro _ | (apply cG; first | refine cT ?_ | refine cF ?_ | refine cS (fun _ => ?_) fun _ => ?_) | (apply gW; refine sW ?_) | (apply gI; refine sI ?_) | (apply gE; refine sE ?_) | (apply gP; refine sP ?_) | (apply gC; refine sC ?_) | (apply gD; refine sD ?_) | fail)
    refine C_loopS (κ := Nat × Option Addr × Nat × List BX) [false, false, false, false, false, false, false, false, false, false, false, false, true, true, false, false, false, false, false, false, false, false, false, false, false, false, false, false, false, false, false, false, false, false, false, false, false, false, false, false, false, false, false, false, true, true, true, true, true, true, true, true, true, true, true, true, true, true, true, true, true, true, true, true, true, true, true, true, false, false, false, false, false, false, false, false, false, false, false, false, false, false, false, false, false, false, false, false, false, false, false, false, false, false, false, false, false, false, false, false, false, false, false, false, false, false, false, false, false, false, false, false, false, false, false, false, false, false, false, false, false, false, false, false, false, false, false, false, false] (fun k => [(12, .slice k.2.1 k.2.2.2.length k.2.2.1), (13, .int .i64 (k.1 : Int))]) (fun k => [(2, own 31 eBX (.slice k.2.1 k.2.2.2.length k.2.2.1) k.2.2.2)]) (fun k => k.1 ≤ 4 ∧ k.1 ≤ R.l.length ∧ k.2.2.2.length = 3 + k.1) (fun k => 4 - k.1) (0, some ⟨g0, 0, none⟩, 3, bs0) ⟨Nat.zero_le _, Nat.zero_le _, hbl0⟩ ⟨by rw [hbl0]; rfl, rfl, trivial⟩ ?_
    rintro ⟨i, A1, c1, bs⟩ u1 ⟨hi4, hil, hbl⟩
    dsimp only at hi4 hil hbl
    dsimp only
    ((try dsimp only); refine C_n ?_; (try simp only [Nat.reduceAdd, Nat.zero_add]))
    by_cases h1 : i < R.l.length
    rotate_left
    · repeat' (first | refine go ?_ | intro _ | (apply cG; first | refine cT ?_ | refine cF ?_ | refine cS (fun _ => ?_) fun _ => ?_) | (apply gW; refine sW ?_) | (apply gI; refine sI ?_) | (apply gE; refine sE ?_) | (apply gP; refine sP ?_) | (apply gC; refine sC ?_) | (apply gD; refine sD ?_) | fail)
      exact E_join (A1, c1, bs) (by dsimp only; omega) ⟨rfl, trivial⟩
    by_cases h2 : i < 4
    rotate_left
    · repeat' (first | refine go ?_ | intro _ | (apply cG; first | refine cT ?_ | refine cF ?_ | refine cS (fun _ => ?_) fun _ => ?_) | (apply gW; refine sW ?_) | (apply gI; refine sI ?_) | (apply gE; refine sE ?_) | (apply gP; refine sP ?_) | (apply gC; refine sC ?_) | (apply gD; refine sD ?_) | fail)
      exact E_join (A1, c1, bs) (by dsimp only; omega) ⟨rfl, trivial⟩
    obtain ⟨x, hx⟩ : ∃ x, R.l[i]? = some x := ⟨_, List.getElem?_eq_getElem h1⟩
    have hax : At R.l i x := ⟨hx⟩
    repeat' (first | refine go ?_ | intro _ | (apply cG; first | refine cT ?_ | refine cF ?_ | refine cS (fun _ => ?_) fun _ => ?_) | (apply gW; refine sW ?_) | (apply gI; refine sI ?_) | (apply gE; refine sE ?_) | (apply gP; refine sP ?_) | (apply gC; refine sC ?_) | (apply gD; refine sD ?_) | fail)
    refine O_d (dy_lit1 (R := eBX) x.2.b (hcs := by rfl) (hel := fun _ _ _ => by rfl)) ?_; rintro _ _ ⟨_, rfl, rfl⟩; refine O_n ?_
    repeat' (first | refine go ?_ | intro _ | (apply cG; first | refine cT ?_ | refine cF ?_ | refine cS (fun _ => ?_) fun _ => ?_) | (apply gW; refine sW ?_) | (apply gI; refine sI ?_) | (apply gE; refine sE ?_) | (apply gP; refine sP ?_) | (apply gC; refine sC ?_) | (apply gD; refine sD ?_) | fail)
    rename_i A2 c2
    refine E_round (i + 1, A2, c2, bs ++ [x.2.b]) ⟨by dsimp only; omega, by dsimp only; omega, by dsimp only; rw [List.length_append, List.length_singleton]; omega⟩ (by dsimp only; omega) ⟨by dsimp only; rw [List.length_append]; rfl, rfl, trivial⟩ ?_
    dsimp only
    rw [List.length_append]
    exact Sb
  rintro ⟨A1, c1, bs⟩ u1 hbl
  dsimp only at hbl
  dsimp only
  ((try dsimp only); refine C_n ?_; (try simp only [Nat.reduceAdd, Nat.zero_add]))
  have hd := around_in (n := day) (most := 9) (by decide)
  repeat' (first | refine go ?_ | intro _ | (apply cG; first | refine cT ?_ | refine cF ?_ | refine cS (fun _ => ?_) fun _ => ?_) | (apply gW; refine sW ?_) | (apply gI; refine sI ?_) | (apply gE; refine sE ?_) | (apply gP; refine sP ?_) | (apply gC; refine sC ?_) | (apply gD; refine sD ?_) | fail)
  refine O_d (dy_call ArgsI.pf (by first | exact rfl | trivial | (intro a b; rfl)) (Around_ct (n := day) (most := 9) hday.1 hday.2 (by decide) (by decide))) ?_; rintro _ _ ⟨_, ⟨rfl, hLL⟩, rfl⟩; replace hLL := hLL.symm; subst hLL; refine O_n ?_
  obtain ⟨d9, hde⟩ : ∃ d, around day 9 = d := ⟨_, rfl⟩
  rw [hde]
  repeat' (first | refine go ?_ | intro _ | (apply cG; first | refine cT ?_ | refine cF ?_ | refine cS (fun _ => ?_) fun _ => ?_) | (apply gW; refine sW ?_) | (apply gI; refine sI ?_) | (apply gE; refine sE ?_) | (apply gP; refine sP ?_) | (apply gC; refine sC ?_) | (apply gD; refine sD ?_) | fail)
  refine O_d (dy_litP (f := iv) (hf := fun _ => rfl) [0, 2, d9, day, 73048, -1, 73049] (by rfl)) ?_; rintro _ LI' ⟨_, rfl, hLL⟩; replace hLL : LI' = own _ eI _ _ :: _ := hLL; subst hLL; refine O_n ?_
  rename_i g1
  obtain ⟨ds, hds⟩ : ∃ ds, [0, 2, d9, day, 73048, -1, 73049] = ds := ⟨_, rfl⟩
  have hdl : ds.length = 7 := by rw [← hds]; rfl
  rw [hds]
  clear hds
  refine O_sub (S := rtA R :: trA T :: own 31 eBX (.slice A1 bs.length c1) bs :: own 3 eI (.slice (some ⟨g1, 0, none⟩) 7 7) ds :: L) (Sub.trans (B := cel R.p [.slice R.A R.l.length R.c, .int .i64 R.lk] 36 :: rd eTh (.slice R.A R.l.length R.c) R.l :: trA T :: own 31 eBX (.slice A1 bs.length c1) bs :: own 3 eI (.slice (some ⟨g1, 0, none⟩) 7 7) ds :: L) Sb rtA_close) ?_
  repeat' (first | refine go ?_ | intro _ | (apply cG; first | refine cT ?_ | refine cF ?_ | refine cS (fun _ => ?_) fun _ => ?_) | (apply gW; refine sW ?_) | (apply gI; refine sI ?_) | (apply gE; refine sE ?_) | (apply gP; refine sP ?_) | (apply gC; refine sC ?_) | (apply gD; refine sD ?_) | fail)
  obtain ⟨tp, htp⟩ : ∃ tp, T.p = tp := ⟨_, rfl⟩
  obtain ⟨rp, hrp⟩ : ∃ tp, R.p = tp := ⟨_, rfl⟩
  obtain ⟨l0, hl0⟩ : ∃ l0, R.l = l0 := ⟨_, rfl⟩
  have hw0 := hB.w
  have ht0 := hB.t
  rw [hl0] at hw0 ht0 hlen
  rw [htp, hrp]
  refine C_loopS (κ := Nat × TR × RM) [false, false, false, false, false, false, false, false, true, false, false, false, false, false, false, true, true, true, true, true, true, false, false, false, false, false, false, false, false, false, false, false, false, false, false, false, false, false, false, false, false, false, false, false, false, false, false, false, false, false, false, false, false, false, false, false, false, false, false, false, false, false, false, false, false, false, false, false, false, false, false, false, true, true, true, true, true, true, true, true, true, true, true, true, true, true, true, true, true, true, true, true, true, true, true, true, true, true, true, true, true, true, true, true, true, true, true, true, true, true, true, true, true, true, true, true, true, true, true, true, true, true, true, true, true, true, true, true, false] (fun k => [(15, .int .i64 (k.1 : Int))]) (fun k => [(0, rtA k.2.2), (1, trA k.2.1)]) (fun k => k.1 ≤ bs.length ∧ k.2.1.p = tp ∧ k.2.2.p = rp ∧ TROk k.2.1 l0 ∧ k.2.2.l = l0 ∧ k.2.1.lk = k.2.2.lk) (fun k => bs.length - k.1) (0, T, R) ⟨Nat.zero_le _, htp, hrp, ht0, hl0, by rw [hk, hlk]⟩ ⟨rfl, trivial⟩ ?_
  clear ht0 hl0 htp hrp hB hk hlk hf
  rintro ⟨i, T, R⟩ u2 ⟨hi, hp, hq, hT, hRl, hlk⟩
  dsimp only at hi hp hq hT hRl hlk
  dsimp only
  ((try dsimp only); refine C_n ?_; (try simp only [Nat.reduceAdd, Nat.zero_add]))
  by_cases hib : i < bs.length
  rotate_left
  · repeat' (first | refine go ?_ | intro _ | (apply cG; first | refine cT ?_ | refine cF ?_ | refine cS (fun _ => ?_) fun _ => ?_) | (apply gW; refine sW ?_) | (apply gI; refine sI ?_) | (apply gE; refine sE ?_) | (apply gP; refine sP ?_) | (apply gC; refine sC ?_) | (apply gD; refine sD ?_) | fail)
    refine O_d (dy_call ArgsI.pf (by first | exact rfl | trivial | (intro a b; rfl)) (lives_ct)) ?_; rintro _ _ ⟨_, ⟨rfl, hLL⟩, rfl⟩; replace hLL := hLL.symm; subst hLL; refine O_n ?_
    repeat' (first | refine go ?_ | intro _ | (apply cG; first | refine cT ?_ | refine cF ?_ | refine cS (fun _ => ?_) fun _ => ?_) | (apply gW; refine sW ?_) | (apply gI; refine sI ?_) | (apply gE; refine sE ?_) | (apply gP; refine sP ?_) | (apply gC; refine sC ?_) | (apply gD; refine sD ?_) | fail)
    refine E_res1 (by rfl) (by rfl) ⟨rfl, rfl⟩ Sb
  obtain ⟨b, hb⟩ : ∃ b, bs[i]? = some b := ⟨_, List.getElem?_eq_getElem hib⟩
  have hab : At bs i b := ⟨hb⟩
  repeat' (first | refine go ?_ | intro _ | (apply cG; first | refine cT ?_ | refine cF ?_ | refine cS (fun _ => ?_) fun _ => ?_) | (apply gW; refine sW ?_) | (apply gI; refine sI ?_) | (apply gE; refine sE ?_) | (apply gP; refine sP ?_) | (apply gC; refine sC ?_) | (apply gD; refine sD ?_) | fail)
  refine C_loopS (κ := Nat × TR × RM) [false, false, false, false, false, false, false, false, true, false, false, false, false, false, false, false, true, true, true, true, true, false, false, false, false, false, false, false, false, false, false, false, false, false, false, false, false, false, false, false, false, false, false, false, false, false, false, false, false, false, false, false, false, false, false, false, false, false, false, false, false, false, false, false, false, false, false, false, false, false, false, false, false, false, false, false, false, false, true, true, true, true, true, true, true, true, true, true, true, true, true, true, true, true, true, true, true, true, true, true, true, true, true, true, true, true, true, true, true, true, true, true, true, true, true, true, true, true, true, true, true, true, true, true, true, true, true, true, false] (fun k => [(16, .int .i64 (k.1 : Int))]) (fun k => [(0, rtA k.2.2), (1, trA k.2.1)]) (fun k => k.1 ≤ ds.length ∧ k.2.1.p = tp ∧ k.2.2.p = rp ∧ TROk k.2.1 l0 ∧ k.2.2.l = l0 ∧ k.2.1.lk = k.2.2.lk) (fun k => ds.length - k.1) (0, T, R) ⟨Nat.zero_le _, hp, hq, hT, hRl, hlk⟩ ⟨rfl, trivial⟩ ?_
  clear hp hq hT hRl hlk
  rintro ⟨j, T, R⟩ u3 ⟨hj, hp, hq, hT, hRl, hlk⟩
  dsimp only at hj hp hq hT hRl hlk
  dsimp only
  ((try dsimp only); refine C_n ?_; (try simp only [Nat.reduceAdd, Nat.zero_add]))
  by_cases hjd : j < ds.length
  rotate_left
  · repeat' (first | refine go ?_ | intro _ | (apply cG; first | refine cT ?_ | refine cF ?_ | refine cS (fun _ => ?_) fun _ => ?_) | (apply gW; refine sW ?_) | (apply gI; refine sI ?_) | (apply gE; refine sE ?_) | (apply gP; refine sP ?_) | (apply gC; refine sC ?_) | (apply gD; refine sD ?_) | fail)
    exact E_round (i + 1, T, R) ⟨hib, hp, hq, hT, hRl, hlk⟩ (by dsimp only; omega) ⟨rfl, trivial⟩ Sb
  obtain ⟨d, hd⟩ : ∃ d, ds[j]? = some d := ⟨_, List.getElem?_eq_getElem hjd⟩
  have had : At ds j d := ⟨hd⟩
  subst hp hq hRl
  repeat' (first | refine go ?_ | intro _ | (apply cG; first | refine cT ?_ | refine cF ?_ | refine cS (fun _ => ?_) fun _ => ?_) | (apply gW; refine sW ?_) | (apply gI; refine sI ?_) | (apply gE; refine sE ?_) | (apply gP; refine sP ?_) | (apply gC; refine sC ?_) | (apply gD; refine sD ?_) | fail)
  refine C_draw (n := 99) [own 31 eBX (.slice A1 bs.length c1) bs, own 3 eI (.slice (some ⟨g1, 0, none⟩) 7 7) ds] [(0, 1), (1, 1), (2, 1), (3, 1), (4, 1), (5, 1), (6, 1), (7, 1), (8, 1), (9, 0), (10, 1), (11, 1), (12, 1), (13, 1), (14, 1)] (by kernel_rfl) (by kernel_rfl) Sb ?_
  repeat' (first | refine go ?_ | intro _ | (apply cG; first | refine cT ?_ | refine cF ?_ | refine cS (fun _ => ?_) fun _ => ?_) | (apply gW; refine sW ?_) | (apply gI; refine sI ?_) | (apply gE; refine sE ?_) | (apply gP; refine sP ?_) | (apply gC; refine sC ?_) | (apply gD; refine sD ?_) | fail)
  refine D_op rfl ?_; refine X_d (dy_call ArgsI.pf (by first | exact rfl | trivial | (intro a b; rfl)) (CT.pull (i := 1) (by rfl) (Find2_ct (b := b) (d := d) hT hw0))) ?_; rintro _ _ ⟨_, ⟨A3, c3, T1, hp1, hT1, hlk1, rfl, rfl⟩, rfl⟩; refine ⟨(by first | exact .inl rfl | exact .inr Sb), D_n ?_⟩
  repeat' (first | refine go ?_ | intro _ | (apply cG; first | refine cT ?_ | refine cF ?_ | refine cS (fun _ => ?_) fun _ => ?_) | (apply gW; refine sW ?_) | (apply gI; refine sI ?_) | (apply gE; refine sE ?_) | (apply gP; refine sP ?_) | (apply gC; refine sC ?_) | (apply gD; refine sD ?_) | fail)
  refine C_draw (n := 99) [own 31 eBX (.slice A1 bs.length c1) bs, own 3 eI (.slice (some ⟨g1, 0, none⟩) 7 7) ds] [(0, 1), (1, 1), (2, 1), (3, 1), (4, 1), (5, 1), (6, 1), (7, 1), (8, 1), (9, 0), (10, 1), (11, 1), (12, 1), (13, 1), (14, 1)] (by kernel_rfl) (by kernel_rfl) Sb ?_
  repeat' (first | refine go ?_ | intro _ | (apply cG; first | refine cT ?_ | refine cF ?_ | refine cS (fun _ => ?_) fun _ => ?_) | (apply gW; refine sW ?_) | (apply gI; refine sI ?_) | (apply gE; refine sE ?_) | (apply gP; refine sP ?_) | (apply gC; refine sC ?_) | (apply gD; refine sD ?_) | fail)
  refine D_op rfl ?_; refine X_d (dy_call ArgsI.pf (by first | exact rfl | trivial | (intro a b; rfl)) (CT.pull (i := 2) (by rfl) (rFind2_ct (R := R) (b := b) (d := d) hw0))) ?_; rintro _ _ ⟨_, ⟨A4, c4, R1, hq1, hl1, hlk2, rfl, rfl⟩, rfl⟩; refine ⟨(by first | exact .inl rfl | exact .inr Sb), D_n ?_⟩
  repeat' (first | refine go ?_ | intro _ | (apply cG; first | refine cT ?_ | refine cF ?_ | refine cS (fun _ => ?_) fun _ => ?_) | (apply gW; refine sW ?_) | (apply gI; refine sI ?_) | (apply gE; refine sE ?_) | (apply gP; refine sP ?_) | (apply gC; refine sC ?_) | (apply gD; refine sD ?_) | fail)
  have hfl := find_len (l := R.l) (b := b) (d := d)
  obtain ⟨o1, ho1⟩ : ∃ o, findL R.l b d = o := ⟨_, rfl⟩
  obtain ⟨e1, he1⟩ : ∃ o, findE b d = o := ⟨_, rfl⟩
  have hlk3 : R1.lk = T1.lk := by rw [hlk1, hlk2, hlk]
  rw [ho1] at hfl
  rw [ho1, he1, ← hp1, ← hq1]
  refine C_sub (S := cel R1.p [.slice R1.A R1.l.length R1.c, .int .i64 R1.lk] 36 :: rd eTh (.slice R1.A R1.l.length R1.c) R1.l :: own 3 eI (.slice A4 o1.length c4) o1 :: own 3 eI (.slice A3 o1.length c3) o1 :: trA T1 :: own 31 eBX (.slice A1 bs.length c1) bs :: own 3 eI (.slice (some ⟨g1, 0, none⟩) 7 7) ds :: L) (Sub.trans (B := rtA R1 :: own 3 eI (.slice A4 o1.length c4) o1 :: own 3 eI (.slice A3 o1.length c3) o1 :: trA T1 :: own 31 eBX (.slice A1 bs.length c1) bs :: own 3 eI (.slice (some ⟨g1, 0, none⟩) 7 7) ds :: L) Sb rtA_open) ?_
  refine C_draw (n := 99) [cel R1.p [.slice R1.A R1.l.length R1.c, .int .i64 R1.lk] 36] [(0, 1), (1, 1), (2, 1), (3, 1), (4, 1), (5, 1), (6, 0), (7, 1), (8, 1), (9, 1), (10, 1), (12, 1), (13, 1), (14, 1), (15, 1), (11, 0), (16, 1), (17, 1)] (by kernel_rfl) (by kernel_rfl) Sb ?_
  repeat' (first | refine go ?_ | intro _ | (apply cG; first | refine cT ?_ | refine cF ?_ | refine cS (fun _ => ?_) fun _ => ?_) | (apply gW; refine sW ?_) | (apply gI; refine sI ?_) | (apply gE; refine sE ?_) | (apply gP; refine sP ?_) | (apply gC; refine sC ?_) | (apply gD; refine sD ?_) | fail)
  refine D_op rfl ?_; refine X_d (dy_call ArgsI.pf (by first | exact rfl | trivial | (intro a b; rfl)) (SameInts_ct (q := true) (la := o1) (lb := o1) (.inr ⟨_, .tail _ (.tail _ (.tail _ (.head _)))⟩) (.inr ⟨_, .tail _ (.tail _ (.head _))⟩) (by omega) (by omega) (decide_eq_true rfl))) ?_; rintro _ _ ⟨_, ⟨rfl, hLL⟩, rfl⟩; replace hLL := hLL.symm; subst hLL; refine ⟨(by first | exact .inl rfl | exact .inr Sb), D_n ?_⟩
  repeat' (first | refine go ?_ | intro _ | (apply cG; first | refine cT ?_ | refine cF ?_ | refine cS (fun _ => ?_) fun _ => ?_) | (apply gW; refine sW ?_) | (apply gI; refine sI ?_) | (apply gE; refine sE ?_) | (apply gP; refine sP ?_) | (apply gC; refine sC ?_) | (apply gD; refine sD ?_) | fail)
  refine D_op rfl ?_; refine X_d (dy_call ArgsI.pf (by first | exact rfl | trivial | (intro a b; rfl)) (CT.pull (i := 4) (by rfl) (Looks_ct (T := T1)))) ?_; rintro _ _ ⟨_, ⟨rfl, rfl⟩, rfl⟩; refine ⟨(by first | exact .inl rfl | exact .inr Sb), D_n ?_⟩
  repeat' (first | refine go ?_ | intro _ | (apply cG; first | refine cT ?_ | refine cF ?_ | refine cS (fun _ => ?_) fun _ => ?_) | (apply gW; refine sW ?_) | (apply gI; refine sI ?_) | (apply gE; refine sE ?_) | (apply gP; refine sP ?_) | (apply gC; refine sC ?_) | (apply gD; refine sD ?_) | fail)
  rw [hlk3]
  repeat' (first | refine go ?_ | intro _ | (apply cG; first | refine cT ?_ | refine cF ?_ | refine cS (fun _ => ?_) fun _ => ?_) | (apply gW; refine sW ?_) | (apply gI; refine sI ?_) | (apply gE; refine sE ?_) | (apply gP; refine sP ?_) | (apply gC; refine sC ?_) | (apply gD; refine sD ?_) | fail)
  rw [← hlk3]
  refine E_round (j + 1, T1, R1) ⟨hjd, rfl, rfl, hT1, hl1, hlk3.symm⟩ (by dsimp only; omega) ⟨rfl, trivial⟩ ?_
  exact Sub.trans (B := cel R1.p [.slice R1.A R1.l.length R1.c, .int .i64 R1.lk] 36 :: rd eTh (.slice R1.A R1.l.length R1.c) R1.l :: trA T1 :: own 31 eBX (.slice A1 bs.length c1) bs :: own 3 eI (.slice (some ⟨g1, 0, none⟩) 7 7) ds :: L) Sb (Sub.trans rtA_close Sb)
end
theorem IndexRuns_any {v : Value} {l : List Int} {n m day : Int} {w : World} (s : St w w [rd eI v l]) (hl : l.length ≤ 9223372036854775807) (hr : ∀ n ∈ l, I64 n) (hn : I64 n) (hm : I64 m) (hd : I64 day) :
    Calls Try.prog 3 #[v, .int .i64 n, .int .i64 m, .int .i64 day] w fun e w' => e = .returned (.bool true) ∧ Below w.heap.size w w' :=
  ((IndexRuns_ct (W0 := w) (.head _) hl hr hn hm hd).run w s).mono fun e w' h => by
    obtain ⟨v, L', rfl, ⟨rfl, rfl⟩, s⟩ := h
    exact ⟨rfl, s.below⟩
end Go.Proofs.Ytnjjifikogblpaa
namespace Go.Proofs.Ytnjjifikogblpaa
open Go Go.RowKit
set_option linter.unusedVariables false
set_option linter.unusedSimpArgs false
def toB (n : Int) : UInt8 := UInt8.ofNat n.toNat
theorem toB_wf {n : Int} (h : (Lit.int .u8 n).wf = true) : ((toB n).toNat : Int) = n := by
  simp [Lit.wf, IntKind.min, IntKind.max, IntKind.signed, IntKind.bits] at h
  unfold toB
  simp
  omega
/-- a row of numbers of one kind, said as the rows' proofs say it -/
theorem row_sl {α : Type} {f : α → Value} {hf : ∀ a, (f a).oneCell' = true} {k : IntKind} {w : World} {a : Option Addr} {len cap : Nat} {zs : List Int} {l : List α} (hl : l.map f = (zs.take len).map (Value.int k)) (hz : zs.length = cap) (hlc : len ≤ cap)
    {x : Addr} (ha : a = some x) (hcell : ∀ i, i < zs.length → w.cell? (x.add i) = some (.int k (zs.getD i 0))) : Sl (Hp.of w) (e1 f hf) (.slice a len cap) l := by
  have hlen : l.length = len := by
    have := congrArg List.length hl
    simp at this
    omega
  subst hlen
  refine ⟨a, cap, l.map fun b => [f b], rfl, hlc, all2_e1.2 rfl, ?_⟩
  by_cases h0 : l = []
  · exact .inl h0
  · right
    have hpos : 0 < l.length := List.length_pos_iff.2 h0
    obtain ⟨b, off, spot⟩ := x
    have h1 := hcell 0 (by omega)
    have hspot : spot = none := by simpa [Addr.add] using World.cell?_spot h1
    subst hspot
    rw [flat_one]
    have hb : ∃ cs t fr, w.heap[b]? = some (.cells cs t fr) := by
      unfold World.cell? at h1
      simp only [Addr.add] at h1
      split at h1
      · rename_i cs t fr he; exact ⟨cs, t, fr, he⟩
      · cases h1
    obtain ⟨cs, t, fr, hb⟩ := hb
    refine ⟨b, off, cs, t, fr, ha, hb, ?_⟩
    intro j u hj
    rw [hl] at hj
    have hjl : j < l.length := by
      have := (List.getElem?_eq_some_iff.1 hj).1
      simp at this
      omega
    have h2 := hcell j (by omega)
    have h3 : w.cell? ⟨b, off + j, none⟩ = some (.int k (zs.getD j 0)) := by
      have e : (Addr.add ⟨b, off, none⟩ j) = ⟨b, off + j, none⟩ := by
        by_cases hj0 : j = 0
        · subst hj0; rfl
        · simp [Addr.add, hj0]
      rw [e] at h2
      exact h2
    have h4 : cs[off + j]? = some (.int k (zs.getD j 0)) := by simpa [World.cell?, hb] using h3
    rw [h4]
    rw [List.getElem?_map, List.getElem?_take, if_pos hjl] at hj
    rw [List.getD_eq_getElem?_getD]
    cases hzz : zs[j]? with
    | none => rw [hzz] at hj; cases hj
    | some z => rw [hzz] at hj; simpa using hj
theorem row_i64 {w : World} {a : Option Addr} {len cap : Nat} {zs : List Int} (h : (a = none ∧ len = 0 ∧ cap = 0 ∧ zs = []) ∨
    ∃ x, a = some x ∧ len ≤ cap ∧ cap ≤ maxLen ∧ zs.length = cap ∧ (∀ i, i < zs.length → w.cell? (x.add i) = some (.int .i64 (zs.getD i 0))) ∧ ∀ n ∈ zs, (Lit.int .i64 n).wf = true) :
    ∃ l : List Int, Sl (Hp.of w) eI (.slice a len cap) l ∧ l.length = len ∧ len ≤ 9223372036854775807 ∧ ∀ n ∈ l, -9223372036854775808 ≤ n ∧ n ≤ 9223372036854775807 := by
  rcases h with ⟨rfl, rfl, rfl, rfl⟩ | ⟨x, ha, hl, hm, hz, hc, hw⟩
  · exact ⟨[], ⟨none, 0, [], rfl, Nat.le_refl _, trivial, .inl rfl⟩, rfl, by omega, by simp⟩
  · unfold maxLen at hm
    refine ⟨zs.take len, row_sl rfl hz hl ha hc, by simp; omega, by omega, fun n hn => ?_⟩
    have := hw n (List.mem_of_mem_take hn)
    simpa [Lit.wf, IntKind.min, IntKind.max, IntKind.signed, IntKind.bits] using this
theorem row_u8 {w : World} {a : Option Addr} {len cap : Nat} {zs : List Int} (h : (a = none ∧ len = 0 ∧ cap = 0 ∧ zs = []) ∨
    ∃ x, a = some x ∧ len ≤ cap ∧ cap ≤ maxLen ∧ zs.length = cap ∧ (∀ i, i < zs.length → w.cell? (x.add i) = some (.int .u8 (zs.getD i 0))) ∧ ∀ n ∈ zs, (Lit.int .u8 n).wf = true) :
    ∃ l : List UInt8, Sl (Hp.of w) eB (.slice a len cap) l ∧ l.length = len ∧ len ≤ 9223372036854775807 := by
  rcases h with ⟨rfl, rfl, rfl, rfl⟩ | ⟨x, ha, hl, hm, hz, hc, hw⟩
  · exact ⟨[], ⟨none, 0, [], rfl, Nat.le_refl _, trivial, .inl rfl⟩, rfl, by omega⟩
  · unfold maxLen at hm
    refine ⟨(zs.take len).map toB, row_sl ?_ hz hl ha hc, by simp; omega, by omega⟩
    rw [List.map_map]
    refine List.map_congr_left fun n hn => ?_
    show bv (toB n) = _
    rw [bv, toB_wf (hw n (List.mem_of_mem_take hn))]
theorem St.mem_ {W : World} {α : Type} {R : Enc α} {v : Value} {l : List α} {L : List HP} (h : Sl (Hp.of W) R v l) (hS : St W W L) : St W W (Go.Proofs.Ytnjjifikogblpaa.rd R v l :: L) := hS.old h
end Go.Proofs.Ytnjjifikogblpaa
