/-
  The law IndexArguments.
-/
import Derived.Test.YtnjjifikogblpaaMZ
import Derived.Test.YtnjjifikogblpaaML
import Derived.Test.YtnjjifikogblpaaMC
namespace Go.Proofs.Ytnjjifikogblpaa
open Go Go.RowKit
set_option linter.unusedVariables false
set_option linter.unusedSimpArgs false
set_option maxRecDepth 20000
set_option synthInstance.maxSize 100000
set_option synthInstance.maxHeartbeats 400000
def eBY : Enc BX :=
  ⟨4, fun m b cs => cs = [.int .i64 b.x0, .int .i64 b.y0, .int .i64 b.x1, .int .i64 b.y1], fun hm e => e, fun e => by subst e; rfl,
    fun {_ x _} e u hu => by
      subst e
      simp only [List.mem_cons, List.not_mem_nil, or_false] at hu
      rcases hu with rfl | rfl | rfl | rfl <;> rfl⟩
instance : Sz eBY 4 := ⟨rfl⟩
instance {b : BX} : EncC eBY b [.int .i64 b.x0, .int .i64 b.y0, .int .i64 b.x1, .int .i64 b.y1] := ⟨fun _ _ h => h⟩
instance svc_pair {P : Program} {W0 : World} {S : List HP} {a : Act} {d : Option Tmp} {ty t et : TypeId} {pos : String} {aft : Array Edge} {gd : Option (Nat × Bool)} {by_ by2 : Nat} {x y : Operand} {i j : Int} [hk : UL P t (.array 2 et)] [hu : UL P et (.int .i64)] [ti : TI P et (.int .i64 0) 1 by_] [tk : TI P t (.agg #[.int .i64 0, .int .i64 0]) 2 by2] [h1 : Ev a x (.int .i64 i)] [h2 : Ev a y (.int .i64 j)] : SVc P W0 S ⟨d, .build t #[(0, x), (1, y)], ty, pos, aft, gd⟩ a (.agg #[.int .i64 i, .int .i64 j]) :=
  ⟨sv_buildA hk.pf (fun w => sizeOf_run w) (fun w => zero_run w) (by simp [h1.pf, h2.pf]; rfl)⟩
def ePr : Enc (Int × Int) :=
  ⟨2, fun m b cs => cs = [.int .i64 b.1, .int .i64 b.2], fun hm e => e, fun e => by subst e; rfl,
    fun {_ x _} e u hu => by
      subst e
      simp only [List.mem_cons, List.not_mem_nil, or_false] at hu
      rcases hu with rfl | rfl <;> rfl⟩
instance : Sz ePr 2 := ⟨rfl⟩
instance {b : Int × Int} : EncC ePr b [.int .i64 b.1, .int .i64 b.2] := ⟨fun _ _ h => h⟩
section
variable {P : Program} {W0 : World} {S : List HP} {a : Act} {d : Option Tmp} {ty t et : TypeId} {pos : String} {aft : Array Edge} {gd : Option (Nat × Bool)} {by_ : Nat} {x y : Operand} {k : IntKind}
theorem sv_idxE2 {s j n c i : Nat} {A : Option Addr} {α : Type} {R : Enc α} {l : List α} {el : α} (hi : i < 2) [hk : UL P t (.array 2 et)] [ti : TI P et (.int .i64 0) 1 by_] [h : Ev a x (elp A j s 0)] [h2 : ScA A S n c R l] [h3 : At l j el] (hy : a.eval y = .int k (i : Int)) : SV P W0 S ⟨d, .indexAddr t x y, ty, pos, aft, gd⟩ a (elp A j s i) := ⟨fun w hS => by
  obtain ⟨b, o1, cs, T, fr, cc, hA, hb, hc, hcell⟩ := ((h2.pf).all w hS).at_ h3.pf
  subst hA
  have hx : a.eval x = .pointer (some ⟨b, o1 + j * s, none⟩) := by rw [h.pf]; simp [elp, add0]
  have := (sv_idxA (P := P) (W0 := W0) (S := S) (d := d) (ty := ty) (pos := pos) (aft := aft) (gd := gd) (b := b) (off := o1 + j * s) (o2 := o1 + j * s + i) hk.pf (fun w => sizeOf_run w) hx hy (by omega) (by omega) (by rw [Int.toNat_natCast, Nat.mul_one])).run w hS
  rw [this]
  simp [elp, add0]⟩
instance svc_idxE0 {s j n c : Nat} {A : Option Addr} {α : Type} {R : Enc α} {l : List α} {el : α} [hk : UL P t (.array 2 et)] [ti : TI P et (.int .i64 0) 1 by_] [h : Ev a x (elp A j s 0)] [h2 : ScA A S n c R l] [h3 : At l j el] [hi : Ev a y (.int k 0)] : SVc P W0 S ⟨d, .indexAddr t x y, ty, pos, aft, gd⟩ a (elp A j s 0) :=
  ⟨sv_idxE2 (i := 0) (by decide) (et := et) (by_ := by_) (l := l) (n := n) (c := c) (R := R) (el := el) hi.pf⟩
instance svc_idxE1 {s j n c : Nat} {A : Option Addr} {α : Type} {R : Enc α} {l : List α} {el : α} [hk : UL P t (.array 2 et)] [ti : TI P et (.int .i64 0) 1 by_] [h : Ev a x (elp A j s 0)] [h2 : ScA A S n c R l] [h3 : At l j el] [hi : Ev a y (.int k 1)] : SVc P W0 S ⟨d, .indexAddr t x y, ty, pos, aft, gd⟩ a (elp A j s 1) :=
  ⟨sv_idxE2 (i := 1) (by decide) (et := et) (by_ := by_) (l := l) (n := n) (c := c) (R := R) (el := el) hi.pf⟩
end
theorem wrap_I64 (n : Int) : I64 (IntKind.i64.wrap n) := by
  unfold I64
  simp [IntKind.wrap, IntKind.bits, IntKind.signed]
  omega
theorem finds_len {l : List Ent} {b : BX} {d : Int} : (findL l b d).length ≤ l.length := by
  unfold findL
  split
  · unfold hitsF
    rw [List.length_map]
    exact List.length_filter_le _ _
  · exact Nat.zero_le _
section
variable {P : Program} {W0 : World} {L : List HP}
set_option maxHeartbeats 4000000 in
theorem IndexArguments_ct {v : Value} {l : List Int} {id n m how by_ from_ to_ : Int} (hv : rd eI v l ∈ L) (hl : l.length ≤ 9223372036854775807) (hr : ∀ n ∈ l, I64 n) (hid : I64 id) (hn : I64 n) (hm : I64 m) (hhow : I64 how) (hby : I64 by_) (hfrom : I64 from_) (hto : I64 to_) :
    CT Try.prog 4 #[v, .int .i64 id, .int .i64 n, .int .i64 m, .int .i64 how, .int .i64 by_, .int .i64 from_, .int .i64 to_] W0 L fun r L' => r = .bool true ∧ L' = L := by
  refine CT_fact (fun w s => ((Src.sl (.inl hv) s).form)) ?_
  rintro ⟨A0, c0, rfl, hc0⟩
  have hw2 := wrap_I64 (how + 2)
  obtain ⟨how2, hho⟩ : ∃ h, IntKind.i64.wrap (how + 2) = h := ⟨_, rfl⟩
  rw [hho] at hw2
  refine CT_enter Try.func4 rfl ?_; (simp only [Try.ntmps4, List.size_toArray, List.length_cons, List.length_nil, Nat.reduceAdd, Nat.reduceSub, Array.replicate_succ, Array.replicate_zero, List.push_toArray, List.append_toArray, List.nil_append, List.cons_append])
  repeat' (first | refine go ?_ | intro _ | (apply cG; first | refine cT ?_ | refine cF ?_ | refine cS (fun _ => ?_) fun _ => ?_) | (apply gW; refine sW ?_) | (apply gI; refine sI ?_) | (apply gE; refine sE ?_) | (apply gP; refine sP ?_) | (apply gC; refine sC ?_) | (apply gD; refine sD ?_) | fail)
  refine O_d (dy_call ArgsI.pf (by first | exact rfl | trivial | (intro a b; rfl)) (filled_ct (l := l) (most := 8) hv hr hl (by decide))) ?_; rintro _ _ ⟨_, ⟨T, R, hB, hk, hlk, hf, hlen, rfl, rfl⟩, rfl⟩; refine O_n ?_
  repeat' (first | refine go ?_ | intro _ | (apply cG; first | refine cT ?_ | refine cF ?_ | refine cS (fun _ => ?_) fun _ => ?_) | (apply gW; refine sW ?_) | (apply gI; refine sI ?_) | (apply gE; refine sE ?_) | (apply gP; refine sP ?_) | (apply gC; refine sC ?_) | (apply gD; refine sD ?_) | fail)
  refine O_d (dy_call ArgsI.pf (by first | exact rfl | trivial | (intro a b; rfl)) (rBox_ct hn hm)) ?_; rintro _ _ ⟨_, ⟨b, hb, rfl, rfl⟩, rfl⟩; refine O_n ?_
  repeat' (first | refine go ?_ | intro _ | (apply cG; first | refine cT ?_ | refine cF ?_ | refine cS (fun _ => ?_) fun _ => ?_) | (apply gW; refine sW ?_) | (apply gI; refine sI ?_) | (apply gE; refine sE ?_) | (apply gP; refine sP ?_) | (apply gC; refine sC ?_) | (apply gD; refine sD ?_) | fail)
  rename_i pb
  refine C_draw (n := 99) [cel pb [.int .i64 b.x0, .int .i64 b.y0, .int .i64 b.x1, .int .i64 b.y1] 31] [(0, 1), (1, 1), (2, 1), (3, 1), (5, 1), (6, 1), (7, 1), (9, 1), (10, 1), (11, 1), (4, 0), (8, 0), (12, 0), (13, 0), (14, 1)] (by kernel_rfl) (by kernel_rfl) Sb ?_
  repeat' (first | refine go ?_ | intro _ | (apply cG; first | refine cT ?_ | refine cF ?_ | refine cS (fun _ => ?_) fun _ => ?_) | (apply gW; refine sW ?_) | (apply gI; refine sI ?_) | (apply gE; refine sE ?_) | (apply gP; refine sP ?_) | (apply gC; refine sC ?_) | (apply gD; refine sD ?_) | fail)
  rw [hho]
  refine D_op rfl ?_; refine X_d (dy_call ArgsI.pf (by first | exact rfl | trivial | (intro a b; rfl)) (rSpoilt_ct (b := b) (how := how) (by_ := by_) hhow)) ?_; rintro _ _ ⟨_, ⟨b1, hb1, rfl, rfl⟩, rfl⟩; refine ⟨(by first | exact .inl rfl | exact .inr Sb), D_n ?_⟩
  repeat' (first | refine go ?_ | intro _ | (apply cG; first | refine cT ?_ | refine cF ?_ | refine cS (fun _ => ?_) fun _ => ?_) | (apply gW; refine sW ?_) | (apply gI; refine sI ?_) | (apply gE; refine sE ?_) | (apply gP; refine sP ?_) | (apply gC; refine sC ?_) | (apply gD; refine sD ?_) | fail)
  refine D_op rfl ?_; refine X_d (dy_call ArgsI.pf (by first | exact rfl | trivial | (intro a b; rfl)) (rSpoilt_ct (b := b) (how := how) (by_ := by_) hhow)) ?_; rintro _ _ ⟨_, ⟨b2, hb2, rfl, rfl⟩, rfl⟩; refine ⟨(by first | exact .inl rfl | exact .inr Sb), D_n ?_⟩
  repeat' (first | refine go ?_ | intro _ | (apply cG; first | refine cT ?_ | refine cF ?_ | refine cS (fun _ => ?_) fun _ => ?_) | (apply gW; refine sW ?_) | (apply gI; refine sI ?_) | (apply gE; refine sE ?_) | (apply gP; refine sP ?_) | (apply gC; refine sC ?_) | (apply gD; refine sD ?_) | fail)
  refine D_op rfl ?_; refine X_d (dy_call ArgsI.pf (by first | exact rfl | trivial | (intro a b; rfl)) (rSpoilt_ct (b := b2) (how := how2) (by_ := by_) hw2)) ?_; rintro _ _ ⟨_, ⟨b3, hb3, rfl, rfl⟩, rfl⟩; refine ⟨(by first | exact .inl rfl | exact .inr Sb), D_n ?_⟩
  repeat' (first | refine go ?_ | intro _ | (apply cG; first | refine cT ?_ | refine cF ?_ | refine cS (fun _ => ?_) fun _ => ?_) | (apply gW; refine sW ?_) | (apply gI; refine sI ?_) | (apply gE; refine sE ?_) | (apply gP; refine sP ?_) | (apply gC; refine sC ?_) | (apply gD; refine sD ?_) | fail)
  refine D_op rfl ?_; refine X_d (dy_litA (R := eBY) ([b, b1, b3] : List BX) [[.int .i64 b.x0, .int .i64 b.y0, .int .i64 b.x1, .int .i64 b.y1], [.int .i64 b1.x0, .int .i64 b1.y0, .int .i64 b1.x1, .int .i64 b1.y1], [.int .i64 b3.x0, .int .i64 b3.y0, .int .i64 b3.x1, .int .i64 b3.y1]] (by rfl) (fun m h hs => ⟨rfl, rfl, rfl, trivial⟩)) ?_; rintro _ _ ⟨g0, rfl, rfl⟩; refine ⟨(by first | exact .inl rfl | exact .inr Sb), D_n ?_⟩
  obtain ⟨bs, hbs⟩ : ∃ bs, ([b, b1, b3] : List BX) = bs := ⟨_, rfl⟩
  have hbl : bs.length = 3 := by rw [← hbs]; rfl
  rw [hbs]
  clear hbs
  repeat' (first | refine go ?_ | intro _ | (apply cG; first | refine cT ?_ | refine cF ?_ | refine cS (fun _ => ?_) fun _ => ?_) | (apply gW; refine sW ?_) | (apply gI; refine sI ?_) | (apply gE; refine sE ?_) | (apply gP; refine sP ?_) | (apply gC; refine sC ?_) | (apply gD; refine sD ?_) | fail)
  have hd1 := around_in (n := id) (most := 14) (by decide)
  have hd2 := around_in (n := from_) (most := 9) (by decide)
  have hd3 := around_in (n := to_) (most := 9) (by decide)
  repeat' (first | refine go ?_ | intro _ | (apply cG; first | refine cT ?_ | refine cF ?_ | refine cS (fun _ => ?_) fun _ => ?_) | (apply gW; refine sW ?_) | (apply gI; refine sI ?_) | (apply gE; refine sE ?_) | (apply gP; refine sP ?_) | (apply gC; refine sC ?_) | (apply gD; refine sD ?_) | fail)
  refine O_d (dy_call ArgsI.pf (by first | exact rfl | trivial | (intro a b; rfl)) (Around_ct (n := id) (most := 14) hid.1 hid.2 (by decide) (by decide))) ?_; rintro _ _ ⟨_, ⟨rfl, hLL⟩, rfl⟩; replace hLL := hLL.symm; subst hLL; refine O_n ?_
  repeat' (first | refine go ?_ | intro _ | (apply cG; first | refine cT ?_ | refine cF ?_ | refine cS (fun _ => ?_) fun _ => ?_) | (apply gW; refine sW ?_) | (apply gI; refine sI ?_) | (apply gE; refine sE ?_) | (apply gP; refine sP ?_) | (apply gC; refine sC ?_) | (apply gD; refine sD ?_) | fail)
  refine O_d (dy_litP (f := iv) (hf := fun _ => rfl) [id, around id 14, 1073741824, 1073741825] (by rfl)) ?_; rintro _ LI' ⟨_, rfl, hLL⟩; replace hLL : LI' = own _ eI _ _ :: _ := hLL; subst hLL; refine O_n ?_
  rename_i g1
  obtain ⟨ids, hids⟩ : ∃ ids, [id, around id 14, 1073741824, 1073741825] = ids := ⟨_, rfl⟩
  have hil : ids.length = 4 := by rw [← hids]; rfl
  rw [hids]
  clear hids
  repeat' (first | refine go ?_ | intro _ | (apply cG; first | refine cT ?_ | refine cF ?_ | refine cS (fun _ => ?_) fun _ => ?_) | (apply gW; refine sW ?_) | (apply gI; refine sI ?_) | (apply gE; refine sE ?_) | (apply gP; refine sP ?_) | (apply gC; refine sC ?_) | (apply gD; refine sD ?_) | fail)
  refine O_d (dy_call ArgsI.pf (by first | exact rfl | trivial | (intro a b; rfl)) (Around_ct (n := from_) (most := 9) hfrom.1 hfrom.2 (by decide) (by decide))) ?_; rintro _ _ ⟨_, ⟨rfl, hLL⟩, rfl⟩; replace hLL := hLL.symm; subst hLL; refine O_n ?_
  repeat' (first | refine go ?_ | intro _ | (apply cG; first | refine cT ?_ | refine cF ?_ | refine cS (fun _ => ?_) fun _ => ?_) | (apply gW; refine sW ?_) | (apply gI; refine sI ?_) | (apply gE; refine sE ?_) | (apply gP; refine sP ?_) | (apply gC; refine sC ?_) | (apply gD; refine sD ?_) | fail)
  refine O_d (dy_call ArgsI.pf (by first | exact rfl | trivial | (intro a b; rfl)) (Around_ct (n := to_) (most := 9) hto.1 hto.2 (by decide) (by decide))) ?_; rintro _ _ ⟨_, ⟨rfl, hLL⟩, rfl⟩; replace hLL := hLL.symm; subst hLL; refine O_n ?_
  repeat' (first | refine go ?_ | intro _ | (apply cG; first | refine cT ?_ | refine cF ?_ | refine cS (fun _ => ?_) fun _ => ?_) | (apply gW; refine sW ?_) | (apply gI; refine sI ?_) | (apply gE; refine sE ?_) | (apply gP; refine sP ?_) | (apply gC; refine sC ?_) | (apply gD; refine sD ?_) | fail)
  refine O_d (dy_litA (R := ePr) ([(from_, to_), (around from_ 9, around to_ 9), (0, 73048), (0, 73049)] : List (Int × Int)) [[.int .i64 from_, .int .i64 to_], [.int .i64 (around from_ 9), .int .i64 (around to_ 9)], [.int .i64 0, .int .i64 73048], [.int .i64 0, .int .i64 73049]] (by rfl) (fun m h hs => ⟨rfl, rfl, rfl, rfl, trivial⟩)) ?_; rintro _ _ ⟨_, rfl, rfl⟩; refine O_n ?_
  rename_i g2
  obtain ⟨ds, hds⟩ : ∃ ds, ([(from_, to_), (around from_ 9, around to_ 9), (0, 73048), (0, 73049)] : List (Int × Int)) = ds := ⟨_, rfl⟩
  have hdl : ds.length = 4 := by rw [← hds]; rfl
  rw [hds]
  clear hds
  repeat' (first | refine go ?_ | intro _ | (apply cG; first | refine cT ?_ | refine cF ?_ | refine cS (fun _ => ?_) fun _ => ?_) | (apply gW; refine sW ?_) | (apply gI; refine sI ?_) | (apply gE; refine sE ?_) | (apply gP; refine sP ?_) | (apply gC; refine sC ?_) | (apply gD; refine sD ?_) | fail)
  refine C_sub (S := rtA R :: trA T :: own 31 eBY (.slice (some ⟨g0, 0, none⟩) 3 3) bs :: own 3 eI (.slice (some ⟨g1, 0, none⟩) 4 4) ids :: own 47 ePr (.slice (some ⟨g2, 0, none⟩) 4 4) ds :: L) Sb ?_
  obtain ⟨tp, htp⟩ : ∃ tp, T.p = tp := ⟨_, rfl⟩
  obtain ⟨rp, hrp⟩ : ∃ tp, R.p = tp := ⟨_, rfl⟩
  rw [htp, hrp]
  refine C_loopS (κ := Nat × TR × RM) [false, false, false, false, false, false, false, false, false, false, false, false, false, false, false, false, true, false, false, false, false, false, false, false, true, true, true, true, true, true, false, false, false, false, false, false, false, false, false, false, false, false, false, false, false, false, false, false, false, false, false, false, false, false, false, false, false, false, false, false, false, false, false, false, false, false, false, false, false, false, true, true, true, true, true, true, true, true, true, true, true, true, true, true, true, true, true, true, true, true, true, true, true, true, true, true, true, true, true, true, true, true, true, true, true, true, true, true, true, true, true, true, true, true, true, true, true, true, true, true, true, true, true, true, true, true, true, true, true, true, true, true, true, true, true, true, true, true, true, true, true, true, true, true, true, true, true, true, true, true, true, true, true, true, true, true, true, true, true, true, true, true, true, true, true, true, true, true, true, true, true, true, true, true, true, true, true, true, true, true, true, true, true, true, true, true, true, true, true, true, true, true, true, true, true, true, true, true, true, true, true, true, true, true, true, false] (fun k => [(24, .int .i64 (k.1 : Int))]) (fun k => [(0, rtA k.2.2), (1, trA k.2.1)]) (fun k => k.1 ≤ 3 ∧ k.2.1.p = tp ∧ k.2.2.p = rp ∧ Both k.2.1 k.2.2 ∧ k.2.1.lk = k.2.2.lk) (fun k => 3 - k.1) (0, T, R) ⟨Nat.zero_le _, htp, hrp, hB, by rw [hk, hlk]⟩ ⟨rfl, trivial⟩ ?_
  clear htp hrp hB hk hlk hf hlen hd1 hd2 hd3 hb hb1 hb2 hb3
  rintro ⟨i, T, R⟩ u2 ⟨hi, hp, hq, hB, hlk⟩
  dsimp only at hi hp hq hB hlk
  dsimp only
  ((try dsimp only); refine C_n ?_; (try simp only [Nat.reduceAdd, Nat.zero_add]))
  by_cases hib : i < 3
  rotate_left
  · repeat' (first | refine go ?_ | intro _ | (apply cG; first | refine cT ?_ | refine cF ?_ | refine cS (fun _ => ?_) fun _ => ?_) | (apply gW; refine sW ?_) | (apply gI; refine sI ?_) | (apply gE; refine sE ?_) | (apply gP; refine sP ?_) | (apply gC; refine sC ?_) | (apply gD; refine sD ?_) | fail)
    refine O_d (dy_call ArgsI.pf (by first | exact rfl | trivial | (intro a b; rfl)) (lives_ct)) ?_; rintro _ _ ⟨_, ⟨rfl, hLL⟩, rfl⟩; replace hLL := hLL.symm; subst hLL; refine O_n ?_
    repeat' (first | refine go ?_ | intro _ | (apply cG; first | refine cT ?_ | refine cF ?_ | refine cS (fun _ => ?_) fun _ => ?_) | (apply gW; refine sW ?_) | (apply gI; refine sI ?_) | (apply gE; refine sE ?_) | (apply gP; refine sP ?_) | (apply gC; refine sC ?_) | (apply gD; refine sD ?_) | fail)
    refine E_res1 (by rfl) (by rfl) ⟨rfl, rfl⟩ Sb
  obtain ⟨b, hb⟩ : ∃ b, bs[i]? = some b := ⟨_, List.getElem?_eq_getElem (by omega)⟩
  have hab : At bs i b := ⟨hb⟩
  repeat' (first | refine go ?_ | intro _ | (apply cG; first | refine cT ?_ | refine cF ?_ | refine cS (fun _ => ?_) fun _ => ?_) | (apply gW; refine sW ?_) | (apply gI; refine sI ?_) | (apply gE; refine sE ?_) | (apply gP; refine sP ?_) | (apply gC; refine sC ?_) | (apply gD; refine sD ?_) | fail)
  refine C_loopS (κ := Nat × TR × RM) [false, false, false, false, false, false, false, false, false, false, false, false, false, false, false, false, true, false, false, false, false, false, false, false, false, true, true, true, true, true, false, false, false, false, false, false, false, false, false, false, false, false, false, false, false, false, false, false, false, false, false, false, false, false, false, false, false, false, false, false, false, false, false, false, false, false, false, false, false, false, false, false, false, false, true, true, true, true, true, true, true, true, true, true, true, true, true, true, true, true, true, true, true, true, true, true, true, true, true, true, true, true, true, true, true, true, true, true, true, true, true, true, true, true, true, true, true, true, true, true, true, true, true, true, true, true, true, true, true, true, true, true, true, true, true, true, true, true, true, true, true, true, true, true, true, true, true, true, true, true, true, true, true, true, true, true, true, true, true, true, true, true, true, true, true, true, true, true, true, true, true, true, true, true, true, true, true, true, true, true, true, true, true, true, true, true, true, true, true, true, true, true, true, true, true, true, true, true, true, true, true, true, true, true, true, false] (fun k => [(25, .int .i64 (k.1 : Int))]) (fun k => [(0, rtA k.2.2), (1, trA k.2.1)]) (fun k => k.1 ≤ 4 ∧ k.2.1.p = tp ∧ k.2.2.p = rp ∧ Both k.2.1 k.2.2 ∧ k.2.1.lk = k.2.2.lk) (fun k => 4 - k.1) (0, T, R) ⟨Nat.zero_le _, hp, hq, hB, hlk⟩ ⟨rfl, trivial⟩ ?_
  clear hp hq hB hlk
  rintro ⟨j, T, R⟩ u3 ⟨hj, hp, hq, hB, hlk⟩
  dsimp only at hj hp hq hB hlk
  dsimp only
  ((try dsimp only); refine C_n ?_; (try simp only [Nat.reduceAdd, Nat.zero_add]))
  by_cases hjd : j < 4
  rotate_left
  · repeat' (first | refine go ?_ | intro _ | (apply cG; first | refine cT ?_ | refine cF ?_ | refine cS (fun _ => ?_) fun _ => ?_) | (apply gW; refine sW ?_) | (apply gI; refine sI ?_) | (apply gE; refine sE ?_) | (apply gP; refine sP ?_) | (apply gC; refine sC ?_) | (apply gD; refine sD ?_) | fail)
    exact E_round (i + 1, T, R) ⟨by dsimp only; omega, hp, hq, hB, hlk⟩ (by dsimp only; omega) ⟨rfl, trivial⟩ Sb
  obtain ⟨id', hid'⟩ : ∃ b, ids[j]? = some b := ⟨_, List.getElem?_eq_getElem (by omega)⟩
  have hai : At ids j id' := ⟨hid'⟩
  obtain ⟨d1, hd1⟩ : ∃ b, ds[(i + j) % 4]? = some b := ⟨_, List.getElem?_eq_getElem (by omega)⟩
  have had1 : At ds ((i + j) % Int.natAbs 4) d1 := ⟨hd1⟩
  obtain ⟨d2, hd2⟩ : ∃ b, ds[j]? = some b := ⟨_, List.getElem?_eq_getElem (by omega)⟩
  have had2 : At ds j d2 := ⟨hd2⟩
  subst hp hq
  repeat' (first | refine go ?_ | intro _ | (apply cG; first | refine cT ?_ | refine cF ?_ | refine cS (fun _ => ?_) fun _ => ?_) | (apply gW; refine sW ?_) | (apply gI; refine sI ?_) | (apply gE; refine sE ?_) | (apply gP; refine sP ?_) | (apply gC; refine sC ?_) | (apply gD; refine sD ?_) | fail)
  have hw := hB.w
  refine C_draw (n := 99) [own 31 eBY (.slice (some ⟨g0, 0, none⟩) 3 3) bs, own 3 eI (.slice (some ⟨g1, 0, none⟩) 4 4) ids, own 47 ePr (.slice (some ⟨g2, 0, none⟩) 4 4) ds] [(0, 1), (1, 1), (2, 1), (3, 1), (4, 1), (5, 1), (6, 1), (7, 1), (8, 1), (9, 1), (10, 1), (11, 1), (12, 1), (13, 1), (14, 1), (15, 1), (16, 1), (17, 1), (18, 1), (19, 1), (20, 1), (21, 1), (22, 1), (23, 1), (24, 1), (26, 1), (27, 1), (28, 1), (29, 1), (30, 1), (31, 1), (32, 1), (33, 1), (34, 1), (35, 1), (36, 1), (37, 1), (38, 1), (39, 1), (40, 1), (41, 1), (42, 1), (43, 1), (44, 1), (45, 1), (46, 1), (47, 1), (48, 1), (49, 1), (50, 1), (25, 0), (51, 0), (52, 1)] (by kernel_rfl) (by kernel_rfl) Sb ?_
  repeat' (first | refine go ?_ | intro _ | (apply cG; first | refine cT ?_ | refine cF ?_ | refine cS (fun _ => ?_) fun _ => ?_) | (apply gW; refine sW ?_) | (apply gI; refine sI ?_) | (apply gE; refine sE ?_) | (apply gP; refine sP ?_) | (apply gC; refine sC ?_) | (apply gD; refine sD ?_) | fail)
  refine D_op rfl ?_; refine X_d (dy_call ArgsI.pf (by first | exact rfl | trivial | (intro a b; rfl)) (CT.pull (i := 1) (by rfl) (Add_ct (id := id') (x := ⟨b, d1.1, d1.2⟩) hB.t hw))) ?_; rintro _ _ ⟨_, ⟨T1, h1, h2, h3, rfl, rfl⟩, rfl⟩; refine ⟨(by first | exact .inl rfl | exact .inr Sb), D_n ?_⟩
  repeat' (first | refine go ?_ | intro _ | (apply cG; first | refine cT ?_ | refine cF ?_ | refine cS (fun _ => ?_) fun _ => ?_) | (apply gW; refine sW ?_) | (apply gI; refine sI ?_) | (apply gE; refine sE ?_) | (apply gP; refine sP ?_) | (apply gC; refine sC ?_) | (apply gD; refine sD ?_) | fail)
  refine D_op rfl ?_; refine X_d (dy_call ArgsI.pf (by first | exact rfl | trivial | (intro a b; rfl)) (CT.pull (i := 1) (by rfl) (rAdd_ct (R := R) (id := id') (x := ⟨b, d1.1, d1.2⟩) hw))) ?_; rintro _ _ ⟨_, ⟨R1, k1, k2, k3, rfl, rfl⟩, rfl⟩; refine ⟨(by first | exact .inl rfl | exact .inr Sb), D_n ?_⟩
  repeat' (first | refine go ?_ | intro _ | (apply cG; first | refine cT ?_ | refine cF ?_ | refine cS (fun _ => ?_) fun _ => ?_) | (apply gW; refine sW ?_) | (apply gI; refine sI ?_) | (apply gE; refine sE ?_) | (apply gP; refine sP ?_) | (apply gC; refine sC ?_) | (apply gD; refine sD ?_) | fail)
  repeat' (first | refine go ?_ | intro _ | (apply cG; first | refine cT ?_ | refine cF ?_ | refine cS (fun _ => ?_) fun _ => ?_) | (apply gW; refine sW ?_) | (apply gI; refine sI ?_) | (apply gE; refine sE ?_) | (apply gP; refine sP ?_) | (apply gC; refine sC ?_) | (apply gD; refine sD ?_) | fail)
  have hB1 : Both T1 R1 := ⟨by rw [k3]; exact h3, by rw [k3]; exact hw.add _ _⟩
  have hlk1 : T1.lk = R1.lk := by rw [h2, k2, hlk]
  rw [← h1, ← k1]
  clear h2 h3 k2 k3 hlk hw hB
  have hw := hB1.w
  refine C_draw (n := 99) [own 31 eBY (.slice (some ⟨g0, 0, none⟩) 3 3) bs, own 47 ePr (.slice (some ⟨g2, 0, none⟩) 4 4) ds] [(0, 1), (1, 1), (2, 1), (3, 1), (4, 1), (5, 1), (6, 1), (7, 1), (8, 1), (9, 1), (10, 0), (11, 1), (12, 1), (13, 1), (14, 1), (15, 1)] (by kernel_rfl) (by kernel_rfl) Sb ?_
  repeat' (first | refine go ?_ | intro _ | (apply cG; first | refine cT ?_ | refine cF ?_ | refine cS (fun _ => ?_) fun _ => ?_) | (apply gW; refine sW ?_) | (apply gI; refine sI ?_) | (apply gE; refine sE ?_) | (apply gP; refine sP ?_) | (apply gC; refine sC ?_) | (apply gD; refine sD ?_) | fail)
  refine D_op rfl ?_; refine X_d (dy_call ArgsI.pf (by first | exact rfl | trivial | (intro a b; rfl)) (CT.pull (i := 1) (by rfl) (Find2_ct (T := T1) (b := b) (d := d2.1) hB1.t hw))) ?_; rintro _ _ ⟨_, ⟨A3, c3, T2, hp1, hT2, hlk2, rfl, rfl⟩, rfl⟩; refine ⟨(by first | exact .inl rfl | exact .inr Sb), D_n ?_⟩
  repeat' (first | refine go ?_ | intro _ | (apply cG; first | refine cT ?_ | refine cF ?_ | refine cS (fun _ => ?_) fun _ => ?_) | (apply gW; refine sW ?_) | (apply gI; refine sI ?_) | (apply gE; refine sE ?_) | (apply gP; refine sP ?_) | (apply gC; refine sC ?_) | (apply gD; refine sD ?_) | fail)
  refine C_draw (n := 99) [own 31 eBY (.slice (some ⟨g0, 0, none⟩) 3 3) bs, own 47 ePr (.slice (some ⟨g2, 0, none⟩) 4 4) ds] [(0, 1), (1, 1), (2, 1), (3, 1), (4, 1), (5, 1), (6, 1), (7, 1), (8, 1), (9, 1), (10, 0), (11, 1), (12, 1), (13, 1), (14, 1), (15, 1)] (by kernel_rfl) (by kernel_rfl) Sb ?_
  repeat' (first | refine go ?_ | intro _ | (apply cG; first | refine cT ?_ | refine cF ?_ | refine cS (fun _ => ?_) fun _ => ?_) | (apply gW; refine sW ?_) | (apply gI; refine sI ?_) | (apply gE; refine sE ?_) | (apply gP; refine sP ?_) | (apply gC; refine sC ?_) | (apply gD; refine sD ?_) | fail)
  refine D_op rfl ?_; refine X_d (dy_call ArgsI.pf (by first | exact rfl | trivial | (intro a b; rfl)) (CT.pull (i := 2) (by rfl) (rFind2_ct (R := R1) (b := b) (d := d2.1) hw))) ?_; rintro _ _ ⟨_, ⟨A4, c4, R2, hq1, hl1, hlk3, rfl, rfl⟩, rfl⟩; refine ⟨(by first | exact .inl rfl | exact .inr Sb), D_n ?_⟩
  repeat' (first | refine go ?_ | intro _ | (apply cG; first | refine cT ?_ | refine cF ?_ | refine cS (fun _ => ?_) fun _ => ?_) | (apply gW; refine sW ?_) | (apply gI; refine sI ?_) | (apply gE; refine sE ?_) | (apply gP; refine sP ?_) | (apply gC; refine sC ?_) | (apply gD; refine sD ?_) | fail)
  have hfl := finds_len (l := R1.l) (b := b) (d := d2.1)
  have hln := hw.n
  obtain ⟨o1, ho1⟩ : ∃ o, findL R1.l b d2.1 = o := ⟨_, rfl⟩
  obtain ⟨e1, he1⟩ : ∃ o, findE b d2.1 = o := ⟨_, rfl⟩
  have hlk4 : T2.lk = R2.lk := by rw [hlk2, hlk3, hlk1]
  rw [ho1] at hfl
  rw [ho1, he1, ← hp1, ← hq1]
  have hB2 : Both T2 R2 := ⟨by rw [hl1]; exact hT2, by rw [hl1]; exact hw⟩
  refine C_sub (S := cel R2.p [.slice R2.A R2.l.length R2.c, .int .i64 R2.lk] 36 :: rd eTh (.slice R2.A R2.l.length R2.c) R2.l :: own 3 eI (.slice A4 o1.length c4) o1 :: own 3 eI (.slice A3 o1.length c3) o1 :: trA T2 :: own 31 eBY (.slice (some ⟨g0, 0, none⟩) 3 3) bs :: own 3 eI (.slice (some ⟨g1, 0, none⟩) 4 4) ids :: own 47 ePr (.slice (some ⟨g2, 0, none⟩) 4 4) ds :: L) (Sub.trans (B := rtA R2 :: own 3 eI (.slice A4 o1.length c4) o1 :: own 3 eI (.slice A3 o1.length c3) o1 :: trA T2 :: own 31 eBY (.slice (some ⟨g0, 0, none⟩) 3 3) bs :: own 3 eI (.slice (some ⟨g1, 0, none⟩) 4 4) ids :: own 47 ePr (.slice (some ⟨g2, 0, none⟩) 4 4) ds :: L) Sb rtA_open) ?_
  refine C_draw (n := 99) [cel R2.p [.slice R2.A R2.l.length R2.c, .int .i64 R2.lk] 36] [(0, 1), (1, 1), (2, 1), (3, 1), (4, 1), (5, 1), (6, 0), (7, 1), (8, 1), (9, 1), (10, 1), (12, 1), (13, 1), (14, 1), (15, 1), (11, 0), (16, 1), (17, 1), (18, 1), (19, 1), (21, 1), (22, 1), (23, 1), (24, 1), (25, 1), (20, 0), (26, 1), (27, 1)] (by kernel_rfl) (by kernel_rfl) Sb ?_
  repeat' (first | refine go ?_ | intro _ | (apply cG; first | refine cT ?_ | refine cF ?_ | refine cS (fun _ => ?_) fun _ => ?_) | (apply gW; refine sW ?_) | (apply gI; refine sI ?_) | (apply gE; refine sE ?_) | (apply gP; refine sP ?_) | (apply gC; refine sC ?_) | (apply gD; refine sD ?_) | fail)
  refine D_op rfl ?_; refine X_d (dy_call ArgsI.pf (by first | exact rfl | trivial | (intro a b; rfl)) (SameInts_ct (q := true) (la := o1) (lb := o1) (.inr ⟨_, .tail _ (.tail _ (.tail _ (.head _)))⟩) (.inr ⟨_, .tail _ (.tail _ (.head _))⟩) (by omega) (by omega) (decide_eq_true rfl))) ?_; rintro _ _ ⟨_, ⟨rfl, hLL⟩, rfl⟩; replace hLL := hLL.symm; subst hLL; refine ⟨(by first | exact .inl rfl | exact .inr Sb), D_n ?_⟩
  repeat' (first | refine go ?_ | intro _ | (apply cG; first | refine cT ?_ | refine cF ?_ | refine cS (fun _ => ?_) fun _ => ?_) | (apply gW; refine sW ?_) | (apply gI; refine sI ?_) | (apply gE; refine sE ?_) | (apply gP; refine sP ?_) | (apply gC; refine sC ?_) | (apply gD; refine sD ?_) | fail)
  refine D_op rfl ?_; refine X_d (dy_call ArgsI.pf (by first | exact rfl | trivial | (intro a b; rfl)) (CT.pull (i := 4) (by rfl) (Looks_ct (T := T2)))) ?_; rintro _ _ ⟨_, ⟨rfl, rfl⟩, rfl⟩; refine ⟨(by first | exact .inl rfl | exact .inr Sb), D_n ?_⟩
  rw [hlk4]
  repeat' (first | refine go ?_ | intro _ | (apply cG; first | refine cT ?_ | refine cF ?_ | refine cS (fun _ => ?_) fun _ => ?_) | (apply gW; refine sW ?_) | (apply gI; refine sI ?_) | (apply gE; refine sE ?_) | (apply gP; refine sP ?_) | (apply gC; refine sC ?_) | (apply gD; refine sD ?_) | fail)
  refine D_op rfl ?_; refine X_d (dy_call ArgsI.pf (by first | exact rfl | trivial | (intro a b; rfl)) (Len_ct (T := T2) hB2.t)) ?_; rintro _ _ ⟨_, ⟨rfl, rfl⟩, rfl⟩; refine ⟨(by first | exact .inl rfl | exact .inr Sb), D_n ?_⟩
  repeat' (first | refine go ?_ | intro _ | (apply cG; first | refine cT ?_ | refine cF ?_ | refine cS (fun _ => ?_) fun _ => ?_) | (apply gW; refine sW ?_) | (apply gI; refine sI ?_) | (apply gE; refine sE ?_) | (apply gP; refine sP ?_) | (apply gC; refine sC ?_) | (apply gD; refine sD ?_) | fail)
  repeat' (first | refine go ?_ | intro _ | (apply cG; first | refine cT ?_ | refine cF ?_ | refine cS (fun _ => ?_) fun _ => ?_) | (apply gW; refine sW ?_) | (apply gI; refine sI ?_) | (apply gE; refine sE ?_) | (apply gP; refine sP ?_) | (apply gC; refine sC ?_) | (apply gD; refine sD ?_) | fail)
  refine C_sub (S := rtA R2 :: trA T2 :: own 31 eBY (.slice (some ⟨g0, 0, none⟩) 3 3) bs :: own 3 eI (.slice (some ⟨g1, 0, none⟩) 4 4) ids :: own 47 ePr (.slice (some ⟨g2, 0, none⟩) 4 4) ds :: L) (Sub.trans (B := cel R2.p [.slice R2.A R2.l.length R2.c, .int .i64 R2.lk] 36 :: rd eTh (.slice R2.A R2.l.length R2.c) R2.l :: trA T2 :: own 31 eBY (.slice (some ⟨g0, 0, none⟩) 3 3) bs :: own 3 eI (.slice (some ⟨g1, 0, none⟩) 4 4) ids :: own 47 ePr (.slice (some ⟨g2, 0, none⟩) 4 4) ds :: L) Sb (Sub.trans rtA_close Sb)) ?_
  by_cases hj2 : j % 2 = 1
  · refine C_draw (n := 99) [own 3 eI (.slice (some ⟨g1, 0, none⟩) 4 4) ids] [(0, 1), (1, 1), (2, 1), (3, 1), (4, 1), (5, 1), (6, 1), (7, 1), (8, 1), (10, 1), (11, 1), (12, 1), (13, 1), (14, 1), (9, 0), (15, 0), (16, 1), (17, 1)] (by kernel_rfl) (by kernel_rfl) Sb ?_
    repeat' (first | refine go ?_ | intro _ | (apply cG; first | refine cT ?_ | refine cF ?_ | refine cS (fun _ => ?_) fun _ => ?_) | (apply gW; refine sW ?_) | (apply gI; refine sI ?_) | (apply gE; refine sE ?_) | (apply gP; refine sP ?_) | (apply gC; refine sC ?_) | (apply gD; refine sD ?_) | fail)
    refine D_op rfl ?_; refine X_d (dy_call ArgsI.pf (by first | exact rfl | trivial | (intro a b; rfl)) (CT.pull (i := 1) (by rfl) (Remove_ct (T := T2) (id := id') hB2.t hB2.w))) ?_; rintro _ _ ⟨_, ⟨T3, h1', h2', h3', rfl, rfl⟩, rfl⟩; refine ⟨(by first | exact .inl rfl | exact .inr Sb), D_n ?_⟩
    repeat' (first | refine go ?_ | intro _ | (apply cG; first | refine cT ?_ | refine cF ?_ | refine cS (fun _ => ?_) fun _ => ?_) | (apply gW; refine sW ?_) | (apply gI; refine sI ?_) | (apply gE; refine sE ?_) | (apply gP; refine sP ?_) | (apply gC; refine sC ?_) | (apply gD; refine sD ?_) | fail)
    refine D_op rfl ?_; refine X_d (dy_call ArgsI.pf (by first | exact rfl | trivial | (intro a b; rfl)) (CT.pull (i := 1) (by rfl) (rRemove_ct (R := R2) (id := id') hB2.w))) ?_; rintro _ _ ⟨_, ⟨R3, k1', k2', k3', rfl, rfl⟩, rfl⟩; refine ⟨(by first | exact .inl rfl | exact .inr Sb), D_n ?_⟩
    repeat' (first | refine go ?_ | intro _ | (apply cG; first | refine cT ?_ | refine cF ?_ | refine cS (fun _ => ?_) fun _ => ?_) | (apply gW; refine sW ?_) | (apply gI; refine sI ?_) | (apply gE; refine sE ?_) | (apply gP; refine sP ?_) | (apply gC; refine sC ?_) | (apply gD; refine sD ?_) | fail)
    repeat' (first | refine go ?_ | intro _ | (apply cG; first | refine cT ?_ | refine cF ?_ | refine cS (fun _ => ?_) fun _ => ?_) | (apply gW; refine sW ?_) | (apply gI; refine sI ?_) | (apply gE; refine sE ?_) | (apply gP; refine sP ?_) | (apply gC; refine sC ?_) | (apply gD; refine sD ?_) | fail)
    exact E_round (j + 1, T3, R3) ⟨by dsimp only; omega, h1', k1', ⟨by dsimp only; rw [k3']; exact h3', by dsimp only; rw [k3']; exact hB2.w.del _⟩, by dsimp only; rw [h2', k2', hlk4]⟩ (by dsimp only; omega) ⟨rfl, trivial⟩ Sb
  · refine C_draw (n := 99) [own 3 eI (.slice (some ⟨g1, 0, none⟩) 4 4) ids] [(0, 1), (1, 1), (2, 1), (3, 1), (4, 1), (5, 1), (6, 1), (7, 1), (8, 1), (10, 1), (11, 1), (12, 1), (13, 1), (14, 1), (9, 0), (15, 0), (16, 1), (17, 1)] (by kernel_rfl) (by kernel_rfl) Sb ?_
    repeat' (first | refine go ?_ | intro _ | (apply cG; first | refine cT ?_ | refine cF ?_ | refine cS (fun _ => ?_) fun _ => ?_) | (apply gW; refine sW ?_) | (apply gI; refine sI ?_) | (apply gE; refine sE ?_) | (apply gP; refine sP ?_) | (apply gC; refine sC ?_) | (apply gD; refine sD ?_) | fail)
    refine D_op rfl ?_; refine X_o0 Sb ?_
    repeat' (first | refine go ?_ | intro _ | (apply cG; first | refine cT ?_ | refine cF ?_ | refine cS (fun _ => ?_) fun _ => ?_) | (apply gW; refine sW ?_) | (apply gI; refine sI ?_) | (apply gE; refine sE ?_) | (apply gP; refine sP ?_) | (apply gC; refine sC ?_) | (apply gD; refine sD ?_) | fail)
    refine D_op rfl ?_; refine X_o0 Sb ?_
    repeat' (first | refine go ?_ | intro _ | (apply cG; first | refine cT ?_ | refine cF ?_ | refine cS (fun _ => ?_) fun _ => ?_) | (apply gW; refine sW ?_) | (apply gI; refine sI ?_) | (apply gE; refine sE ?_) | (apply gP; refine sP ?_) | (apply gC; refine sC ?_) | (apply gD; refine sD ?_) | fail)
    repeat' (first | refine go ?_ | intro _ | (apply cG; first | refine cT ?_ | refine cF ?_ | refine cS (fun _ => ?_) fun _ => ?_) | (apply gW; refine sW ?_) | (apply gI; refine sI ?_) | (apply gE; refine sE ?_) | (apply gP; refine sP ?_) | (apply gC; refine sC ?_) | (apply gD; refine sD ?_) | fail)
    exact E_round (j + 1, T2, R2) ⟨by dsimp only; omega, rfl, rfl, hB2, hlk4⟩ (by dsimp only; omega) ⟨rfl, trivial⟩ Sb
end
theorem IndexArguments_any {v : Value} {l : List Int} {id n m how by_ from_ to_ : Int} {w : World} (s : St w w [rd eI v l]) (hl : l.length ≤ 9223372036854775807) (hr : ∀ n ∈ l, I64 n) (hid : I64 id) (hn : I64 n) (hm : I64 m) (hhow : I64 how) (hby : I64 by_) (hfrom : I64 from_) (hto : I64 to_) :
    Calls Try.prog 4 #[v, .int .i64 id, .int .i64 n, .int .i64 m, .int .i64 how, .int .i64 by_, .int .i64 from_, .int .i64 to_] w fun e w' => e = .returned (.bool true) ∧ Below w.heap.size w w' :=
  ((IndexArguments_ct (W0 := w) (.head _) hl hr hid hn hm hhow hby hfrom hto).run w s).mono fun e w' h => by
    obtain ⟨v, L', rfl, ⟨rfl, rfl⟩, s⟩ := h
    exact ⟨rfl, s.below⟩
end Go.Proofs.Ytnjjifikogblpaa
namespace Go.Proofs.Ytnjjifikogblpaa
open Go Go.RowKit
set_option linter.unusedVariables false
set_option linter.unusedSimpArgs false
def toB (n : Int) : UInt8 := UInt8.ofNat n.toNat
theorem toB_wf {n : Int} (h : (Lit.int .u8 n).wf = true) : ((toB n).toNat : Int) = n := by
  simp [Lit.wf, IntKind.min, IntKind.max, IntKind.signed, IntKind.bits] at h
  unfold toB
  simp
  omega
/-- a row of numbers of one kind, said as the rows' proofs say it -/
theorem row_sl {α : Type} {f : α → Value} {hf : ∀ a, (f a).oneCell' = true} {k : IntKind} {w : World} {a : Option Addr} {len cap : Nat} {zs : List Int} {l : List α} (hl : l.map f = (zs.take len).map (Value.int k)) (hz : zs.length = cap) (hlc : len ≤ cap)
    {x : Addr} (ha : a = some x) (hcell : ∀ i, i < zs.length → w.cell? (x.add i) = some (.int k (zs.getD i 0))) : Sl (Hp.of w) (e1 f hf) (.slice a len cap) l := by
  have hlen : l.length = len := by
    have := congrArg List.length hl
    simp at this
    omega
  subst hlen
  refine ⟨a, cap, l.map fun b => [f b], rfl, hlc, all2_e1.2 rfl, ?_⟩
  by_cases h0 : l = []
  · exact .inl h0
  · right
    have hpos : 0 < l.length := List.length_pos_iff.2 h0
    obtain ⟨b, off, spot⟩ := x
    have h1 := hcell 0 (by omega)
    have hspot : spot = none := by simpa [Addr.add] using World.cell?_spot h1
    subst hspot
    rw [flat_one]
    have hb : ∃ cs t fr, w.heap[b]? = some (.cells cs t fr) := by
      unfold World.cell? at h1
      simp only [Addr.add] at h1
      split at h1
      · rename_i cs t fr he; exact ⟨cs, t, fr, he⟩
      · cases h1
    obtain ⟨cs, t, fr, hb⟩ := hb
    refine ⟨b, off, cs, t, fr, ha, hb, ?_⟩
    intro j u hj
    rw [hl] at hj
    have hjl : j < l.length := by
      have := (List.getElem?_eq_some_iff.1 hj).1
      simp at this
      omega
    have h2 := hcell j (by omega)
    have h3 : w.cell? ⟨b, off + j, none⟩ = some (.int k (zs.getD j 0)) := by
      have e : (Addr.add ⟨b, off, none⟩ j) = ⟨b, off + j, none⟩ := by
        by_cases hj0 : j = 0
        · subst hj0; rfl
        · simp [Addr.add, hj0]
      rw [e] at h2
      exact h2
    have h4 : cs[off + j]? = some (.int k (zs.getD j 0)) := by simpa [World.cell?, hb] using h3
    rw [h4]
    rw [List.getElem?_map, List.getElem?_take, if_pos hjl] at hj
    rw [List.getD_eq_getElem?_getD]
    cases hzz : zs[j]? with
    | none => rw [hzz] at hj; cases hj
    | some z => rw [hzz] at hj; simpa using hj
theorem row_i64 {w : World} {a : Option Addr} {len cap : Nat} {zs : List Int} (h : (a = none ∧ len = 0 ∧ cap = 0 ∧ zs = []) ∨
    ∃ x, a = some x ∧ len ≤ cap ∧ cap ≤ maxLen ∧ zs.length = cap ∧ (∀ i, i < zs.length → w.cell? (x.add i) = some (.int .i64 (zs.getD i 0))) ∧ ∀ n ∈ zs, (Lit.int .i64 n).wf = true) :
    ∃ l : List Int, Sl (Hp.of w) eI (.slice a len cap) l ∧ l.length = len ∧ len ≤ 9223372036854775807 ∧ ∀ n ∈ l, -9223372036854775808 ≤ n ∧ n ≤ 9223372036854775807 := by
  rcases h with ⟨rfl, rfl, rfl, rfl⟩ | ⟨x, ha, hl, hm, hz, hc, hw⟩
  · exact ⟨[], ⟨none, 0, [], rfl, Nat.le_refl _, trivial, .inl rfl⟩, rfl, by omega, by simp⟩
  · unfold maxLen at hm
    refine ⟨zs.take len, row_sl rfl hz hl ha hc, by simp; omega, by omega, fun n hn => ?_⟩
    have := hw n (List.mem_of_mem_take hn)
    simpa [Lit.wf, IntKind.min, IntKind.max, IntKind.signed, IntKind.bits] using this
theorem row_u8 {w : World} {a : Option Addr} {len cap : Nat} {zs : List Int} (h : (a = none ∧ len = 0 ∧ cap = 0 ∧ zs = []) ∨
    ∃ x, a = some x ∧ len ≤ cap ∧ cap ≤ maxLen ∧ zs.length = cap ∧ (∀ i, i < zs.length → w.cell? (x.add i) = some (.int .u8 (zs.getD i 0))) ∧ ∀ n ∈ zs, (Lit.int .u8 n).wf = true) :
    ∃ l : List UInt8, Sl (Hp.of w) eB (.slice a len cap) l ∧ l.length = len ∧ len ≤ 9223372036854775807 := by
  rcases h with ⟨rfl, rfl, rfl, rfl⟩ | ⟨x, ha, hl, hm, hz, hc, hw⟩
  · exact ⟨[], ⟨none, 0, [], rfl, Nat.le_refl _, trivial, .inl rfl⟩, rfl, by omega⟩
  · unfold maxLen at hm
    refine ⟨(zs.take len).map toB, row_sl ?_ hz hl ha hc, by simp; omega, by omega⟩
    rw [List.map_map]
    refine List.map_congr_left fun n hn => ?_
    show bv (toB n) = _
    rw [bv, toB_wf (hw n (List.mem_of_mem_take hn))]
theorem St.mem_ {W : World} {α : Type} {R : Enc α} {v : Value} {l : List α} {L : List HP} (h : Sl (Hp.of W) R v l) (hS : St W W L) : St W W (Go.Proofs.Ytnjjifikogblpaa.rd R v l :: L) := hS.old h
end Go.Proofs.Ytnjjifikogblpaa
