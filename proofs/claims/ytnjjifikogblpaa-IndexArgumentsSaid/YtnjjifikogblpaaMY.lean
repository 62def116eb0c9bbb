/-
  The reference of the index: boxes and scripts made from numbers.
-/
import Derived.Test.YtnjjifikogblpaaMX
namespace Go.Proofs.Ytnjjifikogblpaa
open Go Go.RowKit
set_option linter.unusedVariables false
set_option linter.unusedSimpArgs false
set_option maxRecDepth 20000
set_option synthInstance.maxSize 100000
set_option synthInstance.maxHeartbeats 400000
abbrev I64 (n : Int) : Prop := -9223372036854775808 ≤ n ∧ n ≤ 9223372036854775807
theorem tdiv_bd {n d : Int} (hd : 1 ≤ d) (h : I64 n) : I64 (n.tdiv d) := by
  obtain ⟨h1, h2⟩ := h
  rcases Int.lt_or_le n 0 with h | h
  rotate_left
  · have h3 := Int.tdiv_nonneg (b := d) h (by omega)
    have h4 : n.tdiv d ≤ n := by rw [Int.tdiv_eq_ediv_of_nonneg h]; exact Int.ediv_le_self d h
    exact ⟨by omega, by omega⟩
  · have e : n.tdiv d = -((-n).tdiv d) := by rw [Int.neg_tdiv, Int.neg_neg]
    have h3 := Int.tdiv_nonneg (a := -n) (b := d) (by omega) (by omega)
    have h4 : (-n).tdiv d ≤ -n := by rw [Int.tdiv_eq_ediv_of_nonneg (by omega)]; exact Int.ediv_le_self d (by omega)
    exact ⟨by omega, by omega⟩
section
variable {P : Program} {W0 : World} {L : List HP}
theorem coord_ct {n : Int} (hn : I64 n) : CT Try.prog 31 #[.int .i64 n] W0 L fun r L' => ∃ v : Int, inG v ∧ r = .int .i64 v ∧ L' = L := by
  have ha := around_in (n := n) (most := 1048576) (by decide)
  obtain ⟨k, hk⟩ : ∃ k, around n 1048576 = k := ⟨_, rfl⟩
  refine CT_enter Try.func31 rfl ?_; (simp only [Try.ntmps31, List.size_toArray, List.length_cons, List.length_nil, Nat.reduceAdd, Nat.reduceSub, Array.replicate_succ, Array.replicate_zero, List.push_toArray, List.append_toArray, List.nil_append, List.cons_append])
  repeat' (first | refine go ?_ | intro _ | (apply cG; first | refine cT ?_ | refine cF ?_ | refine cS (fun _ => ?_) fun _ => ?_) | (apply gW; refine sW ?_) | (apply gI; refine sI ?_) | (apply gE; refine sE ?_) | (apply gP; refine sP ?_) | (apply gC; refine sC ?_) | (apply gD; refine sD ?_) | fail)
  refine O_d (dy_call ArgsI.pf (by first | exact rfl | trivial | (intro a b; rfl)) (Around_ct (n := n) (most := 1048576) hn.1 hn.2 (by decide) (by decide))) ?_; rintro _ _ ⟨_, ⟨rfl, hLL⟩, rfl⟩; replace hLL := hLL.symm; subst hLL; refine O_n ?_
  rw [hk] at ha ⊢
  obtain ⟨e, he, he2⟩ : ∃ e : Nat, k / 8 % 30 = (e : Int) ∧ e < 30 := ⟨(k / 8 % 30).toNat, by omega, by omega⟩
  have hp : 2 ^ e ≤ 536870912 := Nat.pow_le_pow_right (by decide) (by omega : e ≤ 29)
  have hp0 : 0 < 2 ^ e := Nat.pow_pos (by decide)
  have h1 := shl_n (x := 1) (k := e) (by omega)
  rw [Nat.one_mul] at h1
  obtain ⟨s, hs⟩ : ∃ s, 2 ^ e = s := ⟨_, rfl⟩
  rw [hs] at hp hp0 h1
  repeat' (first | refine go ?_ | intro _ | (apply cG; first | refine cT ?_ | refine cF ?_ | refine cS (fun _ => ?_) fun _ => ?_) | (apply gW; refine sW ?_) | (apply gI; refine sI ?_) | (apply gE; refine sE ?_) | (apply gP; refine sP ?_) | (apply gC; refine sC ?_) | (apply gD; refine sD ?_) | fail)
  rw [he]
  refine O_s (sv_shl (hr := h1)) ?_
  repeat' (first | refine go ?_ | intro _ | (apply cG; first | refine cT ?_ | refine cF ?_ | refine cS (fun _ => ?_) fun _ => ?_) | (apply gW; refine sW ?_) | (apply gI; refine sI ?_) | (apply gE; refine sE ?_) | (apply gP; refine sP ?_) | (apply gC; refine sC ?_) | (apply gD; refine sD ?_) | fail)
  rw [he]
  refine O_s (sv_shl (hr := h1)) ?_
  repeat' (first | refine go ?_ | intro _ | (apply cG; first | refine cT ?_ | refine cF ?_ | refine cS (fun _ => ?_) fun _ => ?_) | (apply gW; refine sW ?_) | (apply gI; refine sI ?_) | (apply gE; refine sE ?_) | (apply gP; refine sP ?_) | (apply gC; refine sC ?_) | (apply gD; refine sD ?_) | fail)
  refine O_d (dy_litP (f := iv) (hf := fun _ => rfl) [k / 8 % 40 - 20, k / 8 % 40 - 20, k / 8 % 2000, (s : Int) - k / 256 % 3, -(s : Int), 1073741824 - k / 8 % 3, -1073741824 + k / 8 % 3, 0] (by rfl)) ?_; rintro _ LI' ⟨_, rfl, hLL⟩; replace hLL : LI' = own _ eI _ _ :: _ := hLL; subst hLL; refine O_n ?_
  obtain ⟨lz, hlz⟩ : ∃ lz, [k / 8 % 40 - 20, k / 8 % 40 - 20, k / 8 % 2000, (s : Int) - k / 256 % 3, -(s : Int), 1073741824 - k / 8 % 3, -1073741824 + k / 8 % 3, 0] = lz := ⟨_, rfl⟩
  have hall : ∀ z ∈ lz, inG z := by
    intro z hz
    rw [← hlz] at hz
    simp only [List.mem_cons, List.not_mem_nil, or_false] at hz
    rcases hz with rfl | rfl | rfl | rfl | rfl | rfl | rfl | rfl <;> constructor <;> omega
  have hlen : lz.length = 8 := by rw [← hlz]; rfl
  rw [hlz]
  clear hlz
  obtain ⟨j, hj, hj8⟩ : ∃ j : Nat, k % 8 = (j : Int) ∧ j < 8 := ⟨(k % 8).toNat, by omega, by omega⟩
  obtain ⟨v, hv⟩ : ∃ v, lz[j]? = some v := ⟨_, List.getElem?_eq_getElem (by omega)⟩
  have hav : At lz j v := ⟨hv⟩
  have hvg := hall v (List.mem_of_getElem? hv)
  repeat' (first | refine go ?_ | intro _ | (apply cG; first | refine cT ?_ | refine cF ?_ | refine cS (fun _ => ?_) fun _ => ?_) | fail)
  apply gW
  refine sW (r := (j : Int)) ?_ ⟨by decide, by rw [Int.tmod_eq_emod_of_nonneg ha.1]; exact hj⟩
  repeat' (first | refine go ?_ | intro _ | (apply cG; first | refine cT ?_ | refine cF ?_ | refine cS (fun _ => ?_) fun _ => ?_) | (apply gW; refine sW ?_) | (apply gI; refine sI ?_) | (apply gE; refine sE ?_) | (apply gP; refine sP ?_) | (apply gC; refine sC ?_) | (apply gD; refine sD ?_) | fail)
  refine E_res1 (by rfl) (by rfl) ⟨v, hvg, rfl, rfl⟩ Sb
set_option maxHeartbeats 2000000 in
theorem rBox_ct {n m : Int} (hn : I64 n) (hm : I64 m) : CT Try.prog 12 #[.int .i64 n, .int .i64 m] W0 L fun r L' => ∃ b : BX, b.good ∧ r = bxV b ∧ L' = L := by
  have hn3 := tdiv_bd (d := 3) (by decide) hn
  have hm3 := tdiv_bd (d := 3) (by decide) hm
  refine CT_enter Try.func12 rfl ?_; (simp only [Try.ntmps12, List.size_toArray, List.length_cons, List.length_nil, Nat.reduceAdd, Nat.reduceSub, Array.replicate_succ, Array.replicate_zero, List.push_toArray, List.append_toArray, List.nil_append, List.cons_append])
  repeat' (first | refine go ?_ | intro _ | (apply cG; first | refine cT ?_ | refine cF ?_ | refine cS (fun _ => ?_) fun _ => ?_) | (apply gW; refine sW ?_) | (apply gI; refine sI ?_) | (apply gE; refine sE ?_) | (apply gP; refine sP ?_) | (apply gC; refine sC ?_) | (apply gD; refine sD ?_) | fail)
  refine O_d (dy_call ArgsI.pf (by first | exact rfl | trivial | (intro a b; rfl)) (coord_ct hn)) ?_; rintro _ _ ⟨_, ⟨a0, ha0, rfl, rfl⟩, rfl⟩; refine O_n ?_
  repeat' (first | refine go ?_ | intro _ | (apply cG; first | refine cT ?_ | refine cF ?_ | refine cS (fun _ => ?_) fun _ => ?_) | (apply gW; refine sW ?_) | (apply gI; refine sI ?_) | (apply gE; refine sE ?_) | (apply gP; refine sP ?_) | (apply gC; refine sC ?_) | (apply gD; refine sD ?_) | fail)
  refine O_d (dy_call ArgsI.pf (by first | exact rfl | trivial | (intro a b; rfl)) (coord_ct hm)) ?_; rintro _ _ ⟨_, ⟨a1, ha1, rfl, rfl⟩, rfl⟩; refine O_n ?_
  repeat' (first | refine go ?_ | intro _ | (apply cG; first | refine cT ?_ | refine cF ?_ | refine cS (fun _ => ?_) fun _ => ?_) | (apply gW; refine sW ?_) | (apply gI; refine sI ?_) | (apply gE; refine sE ?_) | (apply gP; refine sP ?_) | (apply gC; refine sC ?_) | (apply gD; refine sD ?_) | fail)
  try rw [wr_i64 hm3.1 hm3.2]
  refine O_d (dy_call ArgsI.pf (by first | exact rfl | trivial | (intro a b; rfl)) (coord_ct hm3)) ?_; rintro _ _ ⟨_, ⟨b0, hb0, rfl, rfl⟩, rfl⟩; refine O_n ?_
  repeat' (first | refine go ?_ | intro _ | (apply cG; first | refine cT ?_ | refine cF ?_ | refine cS (fun _ => ?_) fun _ => ?_) | (apply gW; refine sW ?_) | (apply gI; refine sI ?_) | (apply gE; refine sE ?_) | (apply gP; refine sP ?_) | (apply gC; refine sC ?_) | (apply gD; refine sD ?_) | fail)
  try rw [wr_i64 hn3.1 hn3.2]
  refine O_d (dy_call ArgsI.pf (by first | exact rfl | trivial | (intro a b; rfl)) (coord_ct hn3)) ?_; rintro _ _ ⟨_, ⟨b1, hb1, rfl, rfl⟩, rfl⟩; refine O_n ?_
  repeat' (first | ((fail_if_success apply AtE); refine go ?_) | intro _ | (apply cG; first | refine cT ?_ | refine cF ?_ | refine cS (fun _ => ?_) fun _ => ?_) | (apply gW; refine sW ?_) | (apply gI; refine sI ?_) | (apply gE; refine sE ?_) | (apply gP; refine sP ?_) | (apply gC; refine sC ?_) | (apply gD; refine sD ?_) | fail)
  rename_i pr pa pb
  refine go ?_; refine go ?_; refine C_join (κ := Int × Int) [false, false, false, false, false, false, false, false, false, false, false, false, false, false, false, false, false, false, false, true, true, true, true, true, true, true, true, true, true, true, true, true, true, true, true, true, false, false, false, false, false, false, false, false, false, false, false, false, false, false, false, false, false, false, false, false, false, false, false] (fun k => []) (fun k => [(0, cel pb [.int .i64 k.1, .int .i64 k.2] 29)]) (fun k => inG k.1 ∧ inG k.2) ?_ ?_
  · repeat' (first | refine go ?_ | intro _ | (apply cG; first | refine cT ?_ | refine cF ?_ | refine cS (fun _ => ?_) fun _ => ?_) | (apply gI; refine sI ?_) | (apply gE; refine sE ?_) | (apply gP; refine sP ?_) | (apply gC; refine sC ?_) | (apply gD; refine sD ?_) | fail)
    apply gW; refine sW (r := n.tmod 3) ?_ ⟨by decide, rfl⟩
    by_cases h3 : n.tmod 3 = 0
    rotate_left
    · repeat' (first | refine go ?_ | intro _ | (apply cG; first | refine cT ?_ | refine cF ?_ | refine cS (fun _ => ?_) fun _ => ?_) | (apply gW; refine sW ?_) | (apply gI; refine sI ?_) | (apply gE; refine sE ?_) | (apply gP; refine sP ?_) | (apply gC; refine sC ?_) | (apply gD; refine sD ?_) | fail)
      exact E_join (b0, b1) ⟨hb0, hb1⟩ trivial
    repeat' (first | refine go ?_ | intro _ | (apply cG; first | refine cT ?_ | refine cF ?_ | refine cS (fun _ => ?_) fun _ => ?_) | (apply gW; refine sW ?_) | (apply gI; refine sI ?_) | (apply gE; refine sE ?_) | (apply gP; refine sP ?_) | (apply gC; refine sC ?_) | (apply gD; refine sD ?_) | fail)
    refine C_draw (n := 99) [cel pa [.int .i64 a0, .int .i64 a1] 29] [(0, 1), (1, 1), (2, 1), (6, 1), (7, 1), (8, 1), (9, 1), (3, 0), (4, 1), (5, 1), (10, 0), (11, 1), (12, 1), (13, 1), (14, 0)] (by kernel_rfl) (by kernel_rfl) Sb ?_
    repeat' (first | refine go ?_ | intro _ | (apply cG; first | refine cT ?_ | refine cF ?_ | refine cS (fun _ => ?_) fun _ => ?_) | (apply gW; refine sW ?_) | (apply gI; refine sI ?_) | (apply gE; refine sE ?_) | (apply gP; refine sP ?_) | (apply gC; refine sC ?_) | (apply gD; refine sD ?_) | fail)
    have hu := around_in (n := m) (most := 9) (by decide)
    have hv := around_in (n := n.tdiv 3) (most := 9) (by decide)
    try rw [wr_i64 hn3.1 hn3.2]
    refine D_op rfl ?_; refine X_d (dy_call ArgsI.pf (by first | exact rfl | trivial | (intro a b; rfl)) (Around_ct (n := m) (most := 9) hm.1 hm.2 (by decide) (by decide))) ?_; rintro _ _ ⟨_, ⟨rfl, hLL⟩, rfl⟩; replace hLL := hLL.symm; subst hLL; refine ⟨(by first | exact .inl rfl | exact .inr Sb), D_n ?_⟩
    obtain ⟨u, hue⟩ : ∃ u, around m 9 = u := ⟨_, rfl⟩
    rw [hue] at hu ⊢
    repeat' (first | refine go ?_ | intro _ | (apply cG; first | refine cT ?_ | refine cF ?_ | refine cS (fun _ => ?_) fun _ => ?_) | (apply gW; refine sW ?_) | (apply gI; refine sI ?_) | (apply gE; refine sE ?_) | (apply gP; refine sP ?_) | (apply gC; refine sC ?_) | (apply gD; refine sD ?_) | fail)
    refine D_op rfl ?_; refine X_d (dy_call ArgsI.pf (by first | exact rfl | trivial | (intro a b; rfl)) (Around_ct (n := n.tdiv 3) (most := 9) hn3.1 hn3.2 (by decide) (by decide))) ?_; rintro _ _ ⟨_, ⟨rfl, hLL⟩, rfl⟩; replace hLL := hLL.symm; subst hLL; refine ⟨(by first | exact .inl rfl | exact .inr Sb), D_n ?_⟩
    obtain ⟨v, hve⟩ : ∃ u, around (n.tdiv 3) 9 = u := ⟨_, rfl⟩
    rw [hve] at hv ⊢
    repeat' (first | refine go ?_ | intro _ | (apply cG; first | refine cT ?_ | refine cF ?_ | refine cS (fun _ => ?_) fun _ => ?_) | (apply gW; refine sW ?_) | (apply gI; refine sI ?_) | (apply gE; refine sE ?_) | (apply gP; refine sP ?_) | (apply gC; refine sC ?_) | (apply gD; refine sD ?_) | fail)
    exact E_join (if 1073741824 < a0 + u then 1073741824 else a0 + u, if 1073741824 < a1 + v then 1073741824 else a1 + v) ⟨by dsimp only; constructor <;> split <;> omega, by dsimp only; constructor <;> split <;> omega⟩ trivial
  rintro ⟨c0, c1⟩ u1 ⟨hc0, hc1⟩
  ((try dsimp only); refine C_n ?_; (try simp only [Nat.reduceAdd, Nat.zero_add]))
  dsimp only at hc0 hc1
  repeat' (first | refine go ?_ | intro _ | (apply cG; first | refine cT ?_ | refine cF ?_ | refine cS (fun _ => ?_) fun _ => ?_) | (apply gW; refine sW ?_) | (apply gI; refine sI ?_) | (apply gE; refine sE ?_) | (apply gP; refine sP ?_) | (apply gC; refine sC ?_) | (apply gD; refine sD ?_) | fail)
  refine E_res1 (by rfl) (by rfl) ⟨⟨if c0 < a0 then c0 else a0, if c1 < a1 then c1 else a1, if c0 > a0 then c0 else a0, if c1 > a1 then c1 else a1⟩, ?_, rfl, rfl⟩ Sb
  dsimp only [BX.good]
  refine ⟨⟨?_, ?_⟩, ⟨?_, ?_⟩, ⟨?_, ?_⟩, ⟨?_, ?_⟩, ?_, ?_⟩ <;> (repeat' split) <;> omega
/-- an operation: remove or add, and the thing -/
structure OP where
  r : Bool
  e : Ent
abbrev opV (o : OP) : Value := .agg #[.bool o.r, .int .i64 o.e.1, .int .i64 o.e.2.b.x0, .int .i64 o.e.2.b.y0, .int .i64 o.e.2.b.x1, .int .i64 o.e.2.b.y1, .int .i64 o.e.2.f, .int .i64 o.e.2.t]
def eOP : Enc OP :=
  ⟨8, fun m o cs => cs = [.bool o.r, .int .i64 o.e.1, .int .i64 o.e.2.b.x0, .int .i64 o.e.2.b.y0, .int .i64 o.e.2.b.x1, .int .i64 o.e.2.b.y1, .int .i64 o.e.2.f, .int .i64 o.e.2.t], fun hm e => e, fun e => by subst e; rfl,
    fun {_ x _} e u hu => by
      subst e
      simp only [List.mem_cons, List.not_mem_nil, or_false] at hu
      rcases hu with rfl | rfl | rfl | rfl | rfl | rfl | rfl | rfl <;> rfl⟩
instance : Sz eOP 8 := ⟨rfl⟩
instance {o : OP} : EncC eOP o [.bool o.r, .int .i64 o.e.1, .int .i64 o.e.2.b.x0, .int .i64 o.e.2.b.y0, .int .i64 o.e.2.b.x1, .int .i64 o.e.2.b.y1, .int .i64 o.e.2.f, .int .i64 o.e.2.t] := ⟨fun _ _ h => h⟩
/-- what a script's operations are -/
def OpOk (o : OP) : Prop := (0 ≤ o.e.1 ∧ o.e.1 ≤ 11) ∧ o.e.2.b.good ∧ 0 ≤ o.e.2.f ∧ o.e.2.f ≤ o.e.2.t ∧ o.e.2.t ≤ 7
set_option maxHeartbeats 4000000 in
theorem rScript_ct {A : Option Addr} {c : Nat} {l : List Int} {most : Nat} (hv : rd eI (.slice A l.length c) l ∈ L) (hr : ∀ n ∈ l, I64 n) (hl : l.length ≤ 9223372036854775807) (hm : most ≤ 1000) :
    CT Try.prog 27 #[.slice A l.length c, .int .i64 (most : Int)] W0 L fun r L' => ∃ A' c' os, (∀ o ∈ os, OpOk o) ∧ os.length ≤ most ∧ r = .slice A' os.length c' ∧ L' = own 58 eOP (.slice A' os.length c') os :: L := by
  refine CT.sub ?_ (sub_dup hv)
  refine CT_enter Try.func27 rfl ?_; (simp only [Try.ntmps27, List.size_toArray, List.length_cons, List.length_nil, Nat.reduceAdd, Nat.reduceSub, Array.replicate_succ, Array.replicate_zero, List.push_toArray, List.append_toArray, List.nil_append, List.cons_append])
  repeat' (first | refine go ?_ | intro _ | (apply cG; first | refine cT ?_ | refine cF ?_ | refine cS (fun _ => ?_) fun _ => ?_) | (apply gW; refine sW ?_) | (apply gI; refine sI ?_) | (apply gE; refine sE ?_) | (apply gP; refine sP ?_) | (apply gC; refine sC ?_) | (apply gD; refine sD ?_) | fail)
  refine C_ownnil 58 eOP ?_
  refine C_loopS (κ := Nat × Option Addr × Nat × List OP) [false, false, false, false, false, true, true, true, true, true, true, true, true, true, true, true, true, true, true, true, true, true, true, true, true, true, true, true, true, true, true, true, true, true, true, true, true, true, true, true, true, true, true, true, true, true, true, true, true, true, true, true, true, true, true, true, true, true, true, true, true, true, false] (fun k => [(5, .slice k.2.1 k.2.2.2.length k.2.2.1), (6, .int .i64 (k.1 : Int))]) (fun k => [(0, own 58 eOP (.slice k.2.1 k.2.2.2.length k.2.2.1) k.2.2.2)]) (fun k => k.1 = 3 * k.2.2.2.length ∧ k.2.2.2.length ≤ most ∧ ∀ o ∈ k.2.2.2, OpOk o) (fun k => most - k.2.2.2.length) (0, none, 0, []) ⟨rfl, Nat.zero_le _, fun o h => (by cases h)⟩ ⟨rfl, rfl, trivial⟩ ?_
  rintro ⟨i, A1, c1, os⟩ u1 ⟨hi, hos, hok⟩
  dsimp only at hi hos hok
  dsimp only
  ((try dsimp only); refine C_n ?_; (try simp only [Nat.reduceAdd, Nat.zero_add]))
  by_cases h1 : i + 2 < l.length
  rotate_left
  · repeat' (first | refine go ?_ | intro _ | (apply cG; first | refine cT ?_ | refine cF ?_ | refine cS (fun _ => ?_) fun _ => ?_) | (apply gW; refine sW ?_) | (apply gI; refine sI ?_) | (apply gE; refine sE ?_) | (apply gP; refine sP ?_) | (apply gC; refine sC ?_) | (apply gD; refine sD ?_) | fail)
    refine E_res1 (by rfl) (by rfl) ⟨A1, c1, os, hok, hos, rfl, rfl⟩ Sb
  by_cases h2 : os.length < most
  rotate_left
  · repeat' (first | refine go ?_ | intro _ | (apply cG; first | refine cT ?_ | refine cF ?_ | refine cS (fun _ => ?_) fun _ => ?_) | (apply gW; refine sW ?_) | (apply gI; refine sI ?_) | (apply gE; refine sE ?_) | (apply gP; refine sP ?_) | (apply gC; refine sC ?_) | (apply gD; refine sD ?_) | fail)
    refine E_res1 (by rfl) (by rfl) ⟨A1, c1, os, hok, hos, rfl, rfl⟩ Sb
  obtain ⟨n2, hn2⟩ : ∃ z, l[i + 2]? = some z := ⟨_, List.getElem?_eq_getElem (by omega)⟩
  obtain ⟨n0, hn0⟩ : ∃ z, l[i]? = some z := ⟨_, List.getElem?_eq_getElem (by omega)⟩
  obtain ⟨n1, hn1⟩ : ∃ z, l[i + 1]? = some z := ⟨_, List.getElem?_eq_getElem (by omega)⟩
  have hi2 := hr n2 (List.mem_of_getElem? hn2)
  have hi0 := hr n0 (List.mem_of_getElem? hn0)
  have hi1 := hr n1 (List.mem_of_getElem? hn1)
  have ha0 : At l i n0 := ⟨hn0⟩
  have ha1 : At l (i + 1) n1 := ⟨hn1⟩
  have ha2 : At l (i + 2) n2 := ⟨hn2⟩
  repeat' (first | refine go ?_ | intro _ | (apply cG; first | refine cT ?_ | refine cF ?_ | refine cS (fun _ => ?_) fun _ => ?_) | (apply gW; refine sW ?_) | (apply gI; refine sI ?_) | (apply gE; refine sE ?_) | (apply gP; refine sP ?_) | (apply gC; refine sC ?_) | (apply gD; refine sD ?_) | fail)
  have hk := around_in (n := n2) (most := 1048576) (by decide)
  refine O_d (dy_call ArgsI.pf (by first | exact rfl | trivial | (intro a b; rfl)) (Around_ct (n := n2) (most := 1048576) hi2.1 hi2.2 (by decide) (by decide))) ?_; rintro _ _ ⟨_, ⟨rfl, hLL⟩, rfl⟩; replace hLL := hLL.symm; subst hLL; refine O_n ?_
  obtain ⟨k, hke⟩ : ∃ u, around n2 1048576 = u := ⟨_, rfl⟩
  rw [hke] at hk ⊢
  repeat' (first | refine go ?_ | intro _ | (apply cG; first | refine cT ?_ | refine cF ?_ | refine cS (fun _ => ?_) fun _ => ?_) | (apply gW; refine sW ?_) | (apply gI; refine sI ?_) | (apply gE; refine sE ?_) | (apply gP; refine sP ?_) | (apply gC; refine sC ?_) | (apply gD; refine sD ?_) | fail)
  have hop : ∀ (q : Bool) (b : BX), b.good → OpOk ⟨q, (k / 4 % 12, ⟨b, k / 48 % 5, k / 48 % 5 + k / 240 % 4⟩)⟩ := fun q b hb => ⟨⟨by dsimp only; omega, by dsimp only; omega⟩, hb, by dsimp only; omega, by dsimp only; omega, by dsimp only; omega⟩
  have hnx : ∀ o : OP, OpOk o → ∀ o' ∈ os ++ [o], OpOk o' := fun o ho o' h => by
    rcases List.mem_append.1 h with h | h
    · exact hok o' h
    · rw [List.mem_singleton.1 h]; exact ho
  by_cases hk4 : k % 4 = 3
  · refine C_drawU (n := 99) [rd eI (.slice A l.length c) l] (.two [(0, 1), (1, 1), (2, 1), (3, 1), (4, 1), (5, 1), (6, 1), (7, 1), (8, 1), (9, 1), (10, 1), (11, 1), (12, 1), (13, 1), (14, 1), (16, 1), (17, 1), (18, 1)] 15 (.leaf [(19, 1), (20, 1), (21, 0), (22, 0)]) 21 (.leaf [(15, 0), (19, 1), (20, 1), (22, 0)])) (by kernel_rfl) (by kernel_rfl) Sb ?_
    refine DT_two ?_
    repeat' (first | refine go ?_ | intro _ | (apply cG; first | refine cT ?_ | refine cF ?_ | refine cS (fun _ => ?_) fun _ => ?_) | (apply gW; refine sW ?_) | (apply gI; refine sI ?_) | (apply gE; refine sE ?_) | (apply gP; refine sP ?_) | (apply gC; refine sC ?_) | (apply gD; refine sD ?_) | fail)
    refine E_two ?_ ?_
    · refine D_op rfl ?_; refine X_d (dy_call ArgsI.pf (by first | exact rfl | trivial | (intro a b; rfl)) (rBox_ct hi0 hi1)) ?_; rintro _ _ ⟨_, ⟨b, hb, rfl, rfl⟩, rfl⟩; refine ⟨(by first | exact .inl rfl | exact .inr Sb), D_n ?_⟩
      repeat' (first | refine go ?_ | intro _ | (apply cG; first | refine cT ?_ | refine cF ?_ | refine cS (fun _ => ?_) fun _ => ?_) | (apply gW; refine sW ?_) | (apply gI; refine sI ?_) | (apply gE; refine sE ?_) | (apply gP; refine sP ?_) | (apply gC; refine sC ?_) | (apply gD; refine sD ?_) | fail)
      refine E_way (DT_leaf ?_)
      repeat' (first | refine go ?_ | intro _ | (apply cG; first | refine cT ?_ | refine cF ?_ | refine cS (fun _ => ?_) fun _ => ?_) | (apply gW; refine sW ?_) | (apply gI; refine sI ?_) | (apply gE; refine sE ?_) | (apply gP; refine sP ?_) | (apply gC; refine sC ?_) | (apply gD; refine sD ?_) | fail)
      repeat' (first | refine go ?_ | intro _ | (apply cG; first | refine cT ?_ | refine cF ?_ | refine cS (fun _ => ?_) fun _ => ?_) | (apply gW; refine sW ?_) | (apply gI; refine sI ?_) | (apply gE; refine sE ?_) | (apply gP; refine sP ?_) | (apply gC; refine sC ?_) | (apply gD; refine sD ?_) | fail)
      refine O_d (dy_lit1 (R := eOP) (⟨true, (k / 4 % 12, ⟨b, k / 48 % 5, k / 48 % 5 + k / 240 % 4⟩)⟩ : OP) (hcs := by rfl) (hel := fun _ _ _ => by rfl)) ?_; rintro _ _ ⟨_, rfl, rfl⟩; refine O_n ?_
      repeat' (first | refine go ?_ | intro _ | (apply cG; first | refine cT ?_ | refine cF ?_ | refine cS (fun _ => ?_) fun _ => ?_) | (apply gW; refine sW ?_) | (apply gI; refine sI ?_) | (apply gE; refine sE ?_) | (apply gP; refine sP ?_) | (apply gC; refine sC ?_) | (apply gD; refine sD ?_) | fail)
      rename_i A2 c2
      refine E_round (i + 3, A2, c2, os ++ [(⟨true, (k / 4 % 12, ⟨b, k / 48 % 5, k / 48 % 5 + k / 240 % 4⟩)⟩ : OP)]) ⟨by dsimp only; rw [List.length_append, List.length_singleton]; omega, by dsimp only; rw [List.length_append, List.length_singleton]; omega, hnx _ (hop true b hb)⟩ (by dsimp only; rw [List.length_append, List.length_singleton]; omega) ⟨by dsimp only; rw [List.length_append]; rfl, rfl, trivial⟩ ?_
      dsimp only
      rw [List.length_append]
      exact Sb
    · repeat' (first | refine go ?_ | intro _ | (apply cG; first | refine cT ?_ | refine cF ?_ | refine cS (fun _ => ?_) fun _ => ?_) | (apply gW; refine sW ?_) | (apply gI; refine sI ?_) | (apply gE; refine sE ?_) | (apply gP; refine sP ?_) | (apply gC; refine sC ?_) | (apply gD; refine sD ?_) | fail)
      refine E_way (DT_leaf ?_)
      refine D_op rfl ?_; refine X_d (dy_call ArgsI.pf (by first | exact rfl | trivial | (intro a b; rfl)) (rBox_ct hi0 hi1)) ?_; rintro _ _ ⟨_, ⟨b, hb, rfl, rfl⟩, rfl⟩; refine ⟨(by first | exact .inl rfl | exact .inr Sb), D_n ?_⟩
      repeat' (first | refine go ?_ | intro _ | (apply cG; first | refine cT ?_ | refine cF ?_ | refine cS (fun _ => ?_) fun _ => ?_) | (apply gW; refine sW ?_) | (apply gI; refine sI ?_) | (apply gE; refine sE ?_) | (apply gP; refine sP ?_) | (apply gC; refine sC ?_) | (apply gD; refine sD ?_) | fail)
      repeat' (first | refine go ?_ | intro _ | (apply cG; first | refine cT ?_ | refine cF ?_ | refine cS (fun _ => ?_) fun _ => ?_) | (apply gW; refine sW ?_) | (apply gI; refine sI ?_) | (apply gE; refine sE ?_) | (apply gP; refine sP ?_) | (apply gC; refine sC ?_) | (apply gD; refine sD ?_) | fail)
      refine O_d (dy_lit1 (R := eOP) (⟨true, (k / 4 % 12, ⟨b, k / 48 % 5, k / 48 % 5 + k / 240 % 4⟩)⟩ : OP) (hcs := by rfl) (hel := fun _ _ _ => by rfl)) ?_; rintro _ _ ⟨_, rfl, rfl⟩; refine O_n ?_
      repeat' (first | refine go ?_ | intro _ | (apply cG; first | refine cT ?_ | refine cF ?_ | refine cS (fun _ => ?_) fun _ => ?_) | (apply gW; refine sW ?_) | (apply gI; refine sI ?_) | (apply gE; refine sE ?_) | (apply gP; refine sP ?_) | (apply gC; refine sC ?_) | (apply gD; refine sD ?_) | fail)
      rename_i A2 c2
      refine E_round (i + 3, A2, c2, os ++ [(⟨true, (k / 4 % 12, ⟨b, k / 48 % 5, k / 48 % 5 + k / 240 % 4⟩)⟩ : OP)]) ⟨by dsimp only; rw [List.length_append, List.length_singleton]; omega, by dsimp only; rw [List.length_append, List.length_singleton]; omega, hnx _ (hop true b hb)⟩ (by dsimp only; rw [List.length_append, List.length_singleton]; omega) ⟨by dsimp only; rw [List.length_append]; rfl, rfl, trivial⟩ ?_
      dsimp only
      rw [List.length_append]
      exact Sb
  · refine C_drawU (n := 99) [rd eI (.slice A l.length c) l] (.two [(0, 1), (1, 1), (2, 1), (3, 1), (4, 1), (5, 1), (6, 1), (7, 1), (8, 1), (9, 1), (10, 1), (11, 1), (12, 1), (13, 1), (14, 1), (16, 1), (17, 1), (18, 1)] 15 (.leaf [(19, 1), (20, 1), (21, 0), (22, 0)]) 21 (.leaf [(15, 0), (19, 1), (20, 1), (22, 0)])) (by kernel_rfl) (by kernel_rfl) Sb ?_
    refine DT_two ?_
    repeat' (first | refine go ?_ | intro _ | (apply cG; first | refine cT ?_ | refine cF ?_ | refine cS (fun _ => ?_) fun _ => ?_) | (apply gW; refine sW ?_) | (apply gI; refine sI ?_) | (apply gE; refine sE ?_) | (apply gP; refine sP ?_) | (apply gC; refine sC ?_) | (apply gD; refine sD ?_) | fail)
    refine E_two ?_ ?_
    · refine D_op rfl ?_; refine X_d (dy_call ArgsI.pf (by first | exact rfl | trivial | (intro a b; rfl)) (rBox_ct hi0 hi1)) ?_; rintro _ _ ⟨_, ⟨b, hb, rfl, rfl⟩, rfl⟩; refine ⟨(by first | exact .inl rfl | exact .inr Sb), D_n ?_⟩
      repeat' (first | refine go ?_ | intro _ | (apply cG; first | refine cT ?_ | refine cF ?_ | refine cS (fun _ => ?_) fun _ => ?_) | (apply gW; refine sW ?_) | (apply gI; refine sI ?_) | (apply gE; refine sE ?_) | (apply gP; refine sP ?_) | (apply gC; refine sC ?_) | (apply gD; refine sD ?_) | fail)
      refine E_way (DT_leaf ?_)
      repeat' (first | refine go ?_ | intro _ | (apply cG; first | refine cT ?_ | refine cF ?_ | refine cS (fun _ => ?_) fun _ => ?_) | (apply gW; refine sW ?_) | (apply gI; refine sI ?_) | (apply gE; refine sE ?_) | (apply gP; refine sP ?_) | (apply gC; refine sC ?_) | (apply gD; refine sD ?_) | fail)
      repeat' (first | refine go ?_ | intro _ | (apply cG; first | refine cT ?_ | refine cF ?_ | refine cS (fun _ => ?_) fun _ => ?_) | (apply gW; refine sW ?_) | (apply gI; refine sI ?_) | (apply gE; refine sE ?_) | (apply gP; refine sP ?_) | (apply gC; refine sC ?_) | (apply gD; refine sD ?_) | fail)
      refine O_d (dy_lit1 (R := eOP) (⟨false, (k / 4 % 12, ⟨b, k / 48 % 5, k / 48 % 5 + k / 240 % 4⟩)⟩ : OP) (hcs := by rfl) (hel := fun _ _ _ => by rfl)) ?_; rintro _ _ ⟨_, rfl, rfl⟩; refine O_n ?_
      repeat' (first | refine go ?_ | intro _ | (apply cG; first | refine cT ?_ | refine cF ?_ | refine cS (fun _ => ?_) fun _ => ?_) | (apply gW; refine sW ?_) | (apply gI; refine sI ?_) | (apply gE; refine sE ?_) | (apply gP; refine sP ?_) | (apply gC; refine sC ?_) | (apply gD; refine sD ?_) | fail)
      rename_i A2 c2
      refine E_round (i + 3, A2, c2, os ++ [(⟨false, (k / 4 % 12, ⟨b, k / 48 % 5, k / 48 % 5 + k / 240 % 4⟩)⟩ : OP)]) ⟨by dsimp only; rw [List.length_append, List.length_singleton]; omega, by dsimp only; rw [List.length_append, List.length_singleton]; omega, hnx _ (hop false b hb)⟩ (by dsimp only; rw [List.length_append, List.length_singleton]; omega) ⟨by dsimp only; rw [List.length_append]; rfl, rfl, trivial⟩ ?_
      dsimp only
      rw [List.length_append]
      exact Sb
    · repeat' (first | refine go ?_ | intro _ | (apply cG; first | refine cT ?_ | refine cF ?_ | refine cS (fun _ => ?_) fun _ => ?_) | (apply gW; refine sW ?_) | (apply gI; refine sI ?_) | (apply gE; refine sE ?_) | (apply gP; refine sP ?_) | (apply gC; refine sC ?_) | (apply gD; refine sD ?_) | fail)
      refine E_way (DT_leaf ?_)
      refine D_op rfl ?_; refine X_d (dy_call ArgsI.pf (by first | exact rfl | trivial | (intro a b; rfl)) (rBox_ct hi0 hi1)) ?_; rintro _ _ ⟨_, ⟨b, hb, rfl, rfl⟩, rfl⟩; refine ⟨(by first | exact .inl rfl | exact .inr Sb), D_n ?_⟩
      repeat' (first | refine go ?_ | intro _ | (apply cG; first | refine cT ?_ | refine cF ?_ | refine cS (fun _ => ?_) fun _ => ?_) | (apply gW; refine sW ?_) | (apply gI; refine sI ?_) | (apply gE; refine sE ?_) | (apply gP; refine sP ?_) | (apply gC; refine sC ?_) | (apply gD; refine sD ?_) | fail)
      repeat' (first | refine go ?_ | intro _ | (apply cG; first | refine cT ?_ | refine cF ?_ | refine cS (fun _ => ?_) fun _ => ?_) | (apply gW; refine sW ?_) | (apply gI; refine sI ?_) | (apply gE; refine sE ?_) | (apply gP; refine sP ?_) | (apply gC; refine sC ?_) | (apply gD; refine sD ?_) | fail)
      refine O_d (dy_lit1 (R := eOP) (⟨false, (k / 4 % 12, ⟨b, k / 48 % 5, k / 48 % 5 + k / 240 % 4⟩)⟩ : OP) (hcs := by rfl) (hel := fun _ _ _ => by rfl)) ?_; rintro _ _ ⟨_, rfl, rfl⟩; refine O_n ?_
      repeat' (first | refine go ?_ | intro _ | (apply cG; first | refine cT ?_ | refine cF ?_ | refine cS (fun _ => ?_) fun _ => ?_) | (apply gW; refine sW ?_) | (apply gI; refine sI ?_) | (apply gE; refine sE ?_) | (apply gP; refine sP ?_) | (apply gC; refine sC ?_) | (apply gD; refine sD ?_) | fail)
      rename_i A2 c2
      refine E_round (i + 3, A2, c2, os ++ [(⟨false, (k / 4 % 12, ⟨b, k / 48 % 5, k / 48 % 5 + k / 240 % 4⟩)⟩ : OP)]) ⟨by dsimp only; rw [List.length_append, List.length_singleton]; omega, by dsimp only; rw [List.length_append, List.length_singleton]; omega, hnx _ (hop false b hb)⟩ (by dsimp only; rw [List.length_append, List.length_singleton]; omega) ⟨by dsimp only; rw [List.length_append]; rfl, rfl, trivial⟩ ?_
      dsimp only
      rw [List.length_append]
      exact Sb
theorem rSpoilt_ct {b : BX} {how by_ : Int} (hh : I64 how) : CT Try.prog 18 #[bxV b, .int .i64 how, .int .i64 by_] W0 L fun r L' => ∃ b' : BX, (b' = ⟨by_, b.y0, b.x1, b.y1⟩ ∨ b' = ⟨b.x0, by_, b.x1, b.y1⟩ ∨ b' = ⟨b.x0, b.y0, by_, b.y1⟩ ∨ b' = ⟨b.x0, b.y0, b.x1, by_⟩) ∧ r = bxV b' ∧ L' = L := by
  have hk := around_in (n := how) (most := 4) (by decide)
  refine CT_enter Try.func18 rfl ?_; (simp only [Try.ntmps18, List.size_toArray, List.length_cons, List.length_nil, Nat.reduceAdd, Nat.reduceSub, Array.replicate_succ, Array.replicate_zero, List.push_toArray, List.append_toArray, List.nil_append, List.cons_append])
  repeat' (first | refine go ?_ | intro _ | (apply cG; first | refine cT ?_ | refine cF ?_ | refine cS (fun _ => ?_) fun _ => ?_) | (apply gW; refine sW ?_) | (apply gI; refine sI ?_) | (apply gE; refine sE ?_) | (apply gP; refine sP ?_) | (apply gC; refine sC ?_) | (apply gD; refine sD ?_) | fail)
  refine O_d (dy_call ArgsI.pf (by first | exact rfl | trivial | (intro a b; rfl)) (Around_ct (n := how) (most := 4) hh.1 hh.2 (by decide) (by decide))) ?_; rintro _ _ ⟨_, ⟨rfl, hLL⟩, rfl⟩; replace hLL := hLL.symm; subst hLL; refine O_n ?_
  obtain ⟨k, hke⟩ : ∃ u, around how 4 = u := ⟨_, rfl⟩
  rw [hke] at hk ⊢
  have hk4 : k = 0 ∨ k = 1 ∨ k = 2 ∨ k = 3 := by omega
  rcases hk4 with rfl | rfl | rfl | rfl
  · repeat' (first | refine go ?_ | intro _ | (apply cG; first | refine cT ?_ | refine cF ?_ | refine cS (fun _ => ?_) fun _ => ?_) | (apply gW; refine sW ?_) | (apply gI; refine sI ?_) | (apply gE; refine sE ?_) | (apply gP; refine sP ?_) | (apply gC; refine sC ?_) | (apply gD; refine sD ?_) | fail)
    refine E_res1 (by rfl) (by rfl) ⟨⟨by_, b.y0, b.x1, b.y1⟩, .inl rfl, rfl, rfl⟩ Sb
  · repeat' (first | refine go ?_ | intro _ | (apply cG; first | refine cT ?_ | refine cF ?_ | refine cS (fun _ => ?_) fun _ => ?_) | (apply gW; refine sW ?_) | (apply gI; refine sI ?_) | (apply gE; refine sE ?_) | (apply gP; refine sP ?_) | (apply gC; refine sC ?_) | (apply gD; refine sD ?_) | fail)
    refine E_res1 (by rfl) (by rfl) ⟨⟨b.x0, by_, b.x1, b.y1⟩, (.inr (.inl rfl)), rfl, rfl⟩ Sb
  · repeat' (first | refine go ?_ | intro _ | (apply cG; first | refine cT ?_ | refine cF ?_ | refine cS (fun _ => ?_) fun _ => ?_) | (apply gW; refine sW ?_) | (apply gI; refine sI ?_) | (apply gE; refine sE ?_) | (apply gP; refine sP ?_) | (apply gC; refine sC ?_) | (apply gD; refine sD ?_) | fail)
    refine E_res1 (by rfl) (by rfl) ⟨⟨b.x0, b.y0, by_, b.y1⟩, (.inr (.inr (.inl rfl))), rfl, rfl⟩ Sb
  · repeat' (first | refine go ?_ | intro _ | (apply cG; first | refine cT ?_ | refine cF ?_ | refine cS (fun _ => ?_) fun _ => ?_) | (apply gW; refine sW ?_) | (apply gI; refine sI ?_) | (apply gE; refine sE ?_) | (apply gP; refine sP ?_) | (apply gC; refine sC ?_) | (apply gD; refine sD ?_) | fail)
    refine E_res1 (by rfl) (by rfl) ⟨⟨b.x0, b.y0, b.x1, by_⟩, (.inr (.inr (.inr rfl))), rfl, rfl⟩ Sb
end
end Go.Proofs.Ytnjjifikogblpaa
