/-
  The reference's disk: Copy, Rot; the program's Rot.
-/
import Derived.Test.YtikdelkcpapgdaaMW
namespace Go.Proofs.Ytikdelkcpapgdaa
open Go Go.RowKit
set_option linter.unusedVariables false
set_option linter.unusedSimpArgs false
set_option maxRecDepth 20000
set_option synthInstance.maxSize 100000
set_option synthInstance.maxHeartbeats 400000
def rotB (b : List UInt8) (k : Nat) : List UInt8 := b.set (k / 8) (fl8 (b.getD (k / 8) 0) (7 - k % 8))
theorem rotB_len (b : List UInt8) (k : Nat) : (rotB b k).length = b.length := List.length_set
def rotR (K : RK) (n : Int) (bit : Int) : RK × Int :=
  if (0 ≤ n ∧ n < 64) ∧ 0 ≤ bit ∧ bit / 8 < ((K.b n).length : Int) then ({ K with B := K.B.set n.toNat (rotB (K.b n) bit.toNat) }, 0) else (K, 1)
theorem set_rep {α : Type} {l : List α} {z y : α} {i n : Nat} (hl : l.length = i) (hi : i < n) : (l ++ List.replicate (n - i) z).set i y = (l ++ [y]) ++ List.replicate (n - (i + 1)) z := by
  rw [show n - i = (n - (i + 1)) + 1 by omega, List.replicate_succ, List.append_assoc, ← hl, List.set_append_right _ _ (Nat.le_refl _), Nat.sub_self]
  rfl
theorem at_rep {α : Type} {l : List α} {z : α} {i n : Nat} (hl : l.length = i) (hi : i < n) : (l ++ List.replicate (n - i) z)[i]? = some z := by
  rw [List.getElem?_append_right (by omega), hl, Nat.sub_self, List.getElem?_replicate, if_pos (by omega)]
section
variable {W0 : World} {L : List HP}
theorem sub_imRsnoc {Bs : List RBy} {x : RBy} (hm : imR Bs ∈ L) (hx : rd eB (.slice x.A x.b.length x.c) x.b ∈ L) : Sub L (imR (Bs ++ [x]) :: L) := fun m h s => by
  obtain ⟨y, hy, k⟩ := s.mem hm
  have hr := rd_mem s hx
  refine ⟨Hp.none, h, Hp.none_dj _, Hp.none_le _, Hp.le_refl _, fun z hz => ?_, s⟩
  rcases List.mem_append.1 hz with hz | hz
  · exact k z hz
  · rw [List.mem_singleton.1 hz]
    exact hr
set_option maxHeartbeats 1000000 in
theorem rNew_o {room : Int} : CT Try.prog 22 #[.int .i64 room] W0 L fun r L' => ∃ p ab af, r = .pointer (some ⟨p, 0, none⟩) ∧ L' = cel p [.int .i64 room, .slice (some ab) 64 64, .slice (some af) 64 64, .bool false, .int .i64 (-1)] 58 :: own 27 eRBy (.slice (some ab) 64 64) (List.replicate 64 ⟨none, 0, []⟩) :: own 3 eI (.slice (some af) 64 64) (List.replicate 64 0) :: L := by
  refine CT_enter Try.func22 rfl ?_; (simp only [Try.ntmps22, List.size_toArray, List.length_cons, List.length_nil, Nat.reduceAdd, Nat.reduceSub, Array.replicate_succ, Array.replicate_zero, List.push_toArray, List.append_toArray, List.nil_append, List.cons_append])
  repeat' (first | refine go ?_ | intro _ | (apply cG; first | refine cT ?_ | refine cF ?_ | refine cS (fun _ => ?_) fun _ => ?_) | (apply gW; refine sW ?_) | (apply gI; refine sI ?_) | (apply gE; refine sE ?_) | (apply gP; refine sP ?_) | (apply gC; refine sC ?_) | (apply gD; refine sD ?_) | fail)
  refine C_drawT (n := 99) [] (.two [(0, 1)] 1 (.leaf [(2, 0), (3, 1), (4, 0), (5, 1)]) 2 (.leaf [(1, 0), (3, 1), (4, 0), (5, 1)])) (by kernel_rfl) (by kernel_rfl) Sb ?_
  refine DT_two ?_
  repeat' (first | refine go ?_ | intro _ | (apply cG; first | refine cT ?_ | refine cF ?_ | refine cS (fun _ => ?_) fun _ => ?_) | (apply gW; refine sW ?_) | (apply gI; refine sI ?_) | (apply gE; refine sE ?_) | (apply gP; refine sP ?_) | (apply gC; refine sC ?_) | (apply gD; refine sD ?_) | fail)
  refine E_two ?_ ?_
  · refine D_op rfl ?_; refine X_d (dy_make (n := 64) (f := fun x : RBy => .slice x.A x.b.length x.c) (hf := fun _ => rfl) ⟨none, 0, []⟩ rfl Ev.pf Ev.pf (by decide) (by decide)) ?_; rintro _ _ ⟨g1, rfl, rfl⟩; refine ⟨(by first | exact .inl rfl | exact .inr Sb), D_n ?_⟩
    repeat' (first | refine go ?_ | intro _ | (apply cG; first | refine cT ?_ | refine cF ?_ | refine cS (fun _ => ?_) fun _ => ?_) | (apply gW; refine sW ?_) | (apply gI; refine sI ?_) | (apply gE; refine sE ?_) | (apply gP; refine sP ?_) | (apply gC; refine sC ?_) | (apply gD; refine sD ?_) | fail)
    refine E_way (DT_leaf ?_)
    refine D_op rfl ?_; refine X_d (dy_make (n := 64) (f := iv) (hf := fun _ => rfl) (0 : Int) rfl Ev.pf Ev.pf (by decide) (by decide)) ?_; rintro _ _ ⟨g2, rfl, rfl⟩; refine ⟨(by first | exact .inl rfl | exact .inr Sb), D_n ?_⟩
    repeat' (first | refine go ?_ | intro _ | (apply cG; first | refine cT ?_ | refine cF ?_ | refine cS (fun _ => ?_) fun _ => ?_) | (apply gW; refine sW ?_) | (apply gI; refine sI ?_) | (apply gE; refine sE ?_) | (apply gP; refine sP ?_) | (apply gC; refine sC ?_) | (apply gD; refine sD ?_) | fail)
    repeat' (first | refine go ?_ | intro _ | (apply cG; first | refine cT ?_ | refine cF ?_ | refine cS (fun _ => ?_) fun _ => ?_) | (apply gW; refine sW ?_) | (apply gI; refine sI ?_) | (apply gE; refine sE ?_) | (apply gP; refine sP ?_) | (apply gC; refine sC ?_) | (apply gD; refine sD ?_) | fail)
    rename_i p
    refine E_res1 (by rfl) (by rfl) ⟨p, ⟨g1, 0, none⟩, ⟨g2, 0, none⟩, rfl, rfl⟩ Sb
  · refine D_op rfl ?_; refine X_d (dy_make (n := 64) (f := iv) (hf := fun _ => rfl) (0 : Int) rfl Ev.pf Ev.pf (by decide) (by decide)) ?_; rintro _ _ ⟨g2, rfl, rfl⟩; refine ⟨(by first | exact .inl rfl | exact .inr Sb), D_n ?_⟩
    repeat' (first | refine go ?_ | intro _ | (apply cG; first | refine cT ?_ | refine cF ?_ | refine cS (fun _ => ?_) fun _ => ?_) | (apply gW; refine sW ?_) | (apply gI; refine sI ?_) | (apply gE; refine sE ?_) | (apply gP; refine sP ?_) | (apply gC; refine sC ?_) | (apply gD; refine sD ?_) | fail)
    refine E_way (DT_leaf ?_)
    refine D_op rfl ?_; refine X_d (dy_make (n := 64) (f := fun x : RBy => .slice x.A x.b.length x.c) (hf := fun _ => rfl) ⟨none, 0, []⟩ rfl Ev.pf Ev.pf (by decide) (by decide)) ?_; rintro _ _ ⟨g1, rfl, rfl⟩; refine ⟨(by first | exact .inl rfl | exact .inr Sb), D_n ?_⟩
    repeat' (first | refine go ?_ | intro _ | (apply cG; first | refine cT ?_ | refine cF ?_ | refine cS (fun _ => ?_) fun _ => ?_) | (apply gW; refine sW ?_) | (apply gI; refine sI ?_) | (apply gE; refine sE ?_) | (apply gP; refine sP ?_) | (apply gC; refine sC ?_) | (apply gD; refine sD ?_) | fail)
    repeat' (first | refine go ?_ | intro _ | (apply cG; first | refine cT ?_ | refine cF ?_ | refine cS (fun _ => ?_) fun _ => ?_) | (apply gW; refine sW ?_) | (apply gI; refine sI ?_) | (apply gE; refine sE ?_) | (apply gP; refine sP ?_) | (apply gC; refine sC ?_) | (apply gD; refine sD ?_) | fail)
    rename_i p
    refine E_res1 (by rfl) (by rfl) ⟨p, ⟨g1, 0, none⟩, ⟨g2, 0, none⟩, rfl, rfl⟩ Sb
set_option maxHeartbeats 2000000 in
theorem rCopy_ct {r : Nat} {K : RK} (hk : KOk K) : CT Try.prog 33 #[.pointer (some ⟨r, 0, none⟩)] W0 (rdk r K :: L) fun v L' => ∃ q, v = .pointer (some ⟨q, 0, none⟩) ∧ L' = rdk q K :: rdk r K :: L := by
  have hu := hk.u
  refine rdk_ctx fun ab af Bs h1 h2 h3 => ?_
  have hcl := (rdk_sub (L := L) (r := r) (ab := ab) (af := af) (K := K) h1 h2 h3)
  obtain ⟨room, B, F, off, plan⟩ := K
  dsimp only at h1 h3 hu hcl ⊢
  refine CT_enter Try.func33 rfl ?_; (simp only [Try.ntmps33, List.size_toArray, List.length_cons, List.length_nil, Nat.reduceAdd, Nat.reduceSub, Array.replicate_succ, Array.replicate_zero, List.push_toArray, List.append_toArray, List.nil_append, List.cons_append])
  repeat' (first | refine go ?_ | intro _ | (apply cG; first | refine cT ?_ | refine cF ?_ | refine cS (fun _ => ?_) fun _ => ?_) | (apply gW; refine sW ?_) | (apply gI; refine sI ?_) | (apply gE; refine sE ?_) | (apply gP; refine sP ?_) | (apply gC; refine sC ?_) | (apply gD; refine sD ?_) | fail)
  refine O_d (dy_call ArgsI.pf (by first | exact rfl | trivial | (intro a b; rfl)) (rNew_o (room := room))) ?_; rintro _ _ ⟨_, ⟨q, qb, qf, rfl, rfl⟩, rfl⟩; refine O_n ?_
  repeat' (first | refine go ?_ | intro _ | (apply cG; first | refine cT ?_ | refine cF ?_ | refine cS (fun _ => ?_) fun _ => ?_) | (apply gW; refine sW ?_) | (apply gI; refine sI ?_) | (apply gE; refine sE ?_) | (apply gP; refine sP ?_) | (apply gC; refine sC ?_) | (apply gD; refine sD ?_) | fail)
  refine C_sub (S := cel q [.int .i64 room, .slice (some qb) 64 64, .slice (some qf) 64 64, .bool false, .int .i64 (-1)] 58 :: own 27 eRBy (.slice (some qb) 64 64) (List.replicate 64 ⟨none, 0, []⟩) :: own 3 eI (.slice (some qf) 64 64) (List.replicate 64 0) :: imR [] :: cel r [.int .i64 room, .slice (some ab) 64 64, .slice (some af) 64 64, .bool off, .int .i64 plan] 58 :: own 27 eRBy (.slice (some ab) 64 64) Bs :: own 3 eI (.slice (some af) 64 64) F :: imR Bs :: L) (Sub.trans (sub_imR0 (n := 0)) Sb) ?_
  refine C_loopS (κ := Nat × List RBy) [false, false, false, false, true, false, false, false, false, false, true, true, true, true, true, true, true, true, true, true, true, true, true, true, true, true, true, true, true, true, true, true, true, true, true, true, true, true, true, true, true, true, true, true, true, true, true, true, false, false, false, false, false, false, false, false, false, false, false, false, false, false, false] (fun k => [(4, .int .i64 (k.1 : Int))]) (fun k => [(1, own 27 eRBy (.slice (some qb) 64 64) (k.2 ++ List.replicate (64 - k.1) ⟨none, 0, []⟩)), (2, own 3 eI (.slice (some qf) 64 64) (F.take k.1 ++ List.replicate (64 - k.1) 0)), (3, imR k.2)]) (fun k => k.1 ≤ 64 ∧ k.2.length = k.1 ∧ k.2.map (fun y => y.b) = B.take k.1) (fun k => 64 - k.1) (0, []) ⟨Nat.zero_le _, rfl, rfl⟩ ⟨rfl, trivial⟩ ?_ (Sub.refl _)
  rintro ⟨i, Cs⟩ u ⟨hi, hCl, hCb⟩
  dsimp only at hi hCl hCb
  dsimp only
  ((try dsimp only); refine C_n ?_; (try simp only [Nat.reduceAdd, Nat.zero_add]))
  by_cases hlt : i < 64
  · obtain ⟨x, hx⟩ : ∃ x, Bs[i]? = some x := ⟨_, List.getElem?_eq_getElem (by omega)⟩
    have hax : At Bs i x := ⟨hx⟩
    have hxl := usedB_at (map_at h1 hx)
    obtain ⟨fd, hfd⟩ : ∃ fd, F[i]? = some fd := ⟨_, List.getElem?_eq_getElem (by omega)⟩
    have haf : At F i fd := ⟨hfd⟩
    have hac : At (Cs ++ List.replicate (64 - i) (⟨none, 0, []⟩ : RBy)) i ⟨none, 0, []⟩ := ⟨at_rep hCl hlt⟩
    have hlC : (Cs ++ List.replicate (64 - i) (⟨none, 0, []⟩ : RBy)).length = 64 := by rw [List.length_append, List.length_replicate]; omega
    refine C_sub (S := cel q [.int .i64 room, .slice (some qb) 64 64, .slice (some qf) 64 64, .bool false, .int .i64 (-1)] 58 :: own 27 eRBy (.slice (some qb) 64 64) (Cs ++ List.replicate (64 - i) ⟨none, 0, []⟩) :: own 3 eI (.slice (some qf) 64 64) (F.take i ++ List.replicate (64 - i) 0) :: imR Cs :: cel r [.int .i64 room, .slice (some ab) 64 64, .slice (some af) 64 64, .bool off, .int .i64 plan] 58 :: own 27 eRBy (.slice (some ab) 64 64) Bs :: own 3 eI (.slice (some af) 64 64) F :: imR Bs :: rd eB (.slice x.A x.b.length x.c) x.b :: L) (Sub.trans (sub_imR (by repeat (first | exact .head _ | refine .tail _ ?_)) hx) Sb) ?_
    obtain ⟨C2, hC2⟩ : ∃ C2, Cs ++ List.replicate (64 - i) (⟨none, 0, []⟩ : RBy) = C2 := ⟨_, rfl⟩
    rw [hC2] at hac hlC ⊢
    repeat' (first | refine go ?_ | intro _ | (apply cG; first | refine cT ?_ | refine cF ?_ | refine cS (fun _ => ?_) fun _ => ?_) | (apply gW; refine sW ?_) | (apply gI; refine sI ?_) | (apply gE; refine sE ?_) | (apply gP; refine sP ?_) | (apply gC; refine sC ?_) | (apply gD; refine sD ?_) | fail)
    refine C_ownnil 5 eB ?_
    refine C_draw (n := 21) [cel q [.int .i64 room, .slice (some qb) 64 64, .slice (some qf) 64 64, .bool false, .int .i64 (-1)] 58, own 27 eRBy (.slice (some qb) 64 64) C2, cel r [.int .i64 room, .slice (some ab) 64 64, .slice (some af) 64 64, .bool off, .int .i64 plan] 58, own 27 eRBy (.slice (some ab) 64 64) Bs] [(0, 1), (1, 1), (2, 1), (3, 1), (4, 1), (5, 1), (6, 1), (7, 1), (8, 1), (9, 1), (10, 1), (11, 1), (12, 1), (13, 1), (14, 1), (15, 1), (16, 1), (17, 1), (18, 1), (19, 0), (20, 1), (21, 0)] (by kernel_rfl) (by kernel_rfl) Sb ?_
    repeat' (first | refine go ?_ | intro _ | (apply cG; first | refine cT ?_ | refine cF ?_ | refine cS (fun _ => ?_) fun _ => ?_) | (apply gW; refine sW ?_) | (apply gI; refine sI ?_) | (apply gE; refine sE ?_) | (apply gP; refine sP ?_) | (apply gC; refine sC ?_) | (apply gD; refine sD ?_) | fail)
    dsimp only [List.length_nil]
    repeat' (first | refine go ?_ | intro _ | (apply cG; first | refine cT ?_ | refine cF ?_ | refine cS (fun _ => ?_) fun _ => ?_) | (apply gW; refine sW ?_) | (apply gI; refine sI ?_) | (apply gE; refine sE ?_) | (apply gP; refine sP ?_) | (apply gC; refine sC ?_) | (apply gD; refine sD ?_) | fail)
    rename_i A7 c7
    rw [List.nil_append]
    refine D_op rfl ?_; refine X_d (dy_storeE (f := fun x : RBy => .slice x.A x.b.length x.c) (hf := fun _ => rfl) (j := i) (n := 64) (c := 64) ⟨A7, c7, x.b⟩ (hy := by rfl) (hj := by omega)) ?_; rintro _ _ ⟨rfl, hLL⟩; replace hLL := hLL.trans SAt.pf; subst hLL; refine ⟨(by first | exact .inl rfl | exact .inr Sb), D_n ?_⟩
    rw [← hC2, set_rep hCl hlt]
    repeat' (first | refine go ?_ | intro _ | (apply cG; first | refine cT ?_ | refine cF ?_ | refine cS (fun _ => ?_) fun _ => ?_) | (apply gW; refine sW ?_) | (apply gI; refine sI ?_) | (apply gE; refine sE ?_) | (apply gP; refine sP ?_) | (apply gC; refine sC ?_) | (apply gD; refine sD ?_) | fail)
    refine C_frz 0 ?_
    refine C_draw (n := 13) [cel q [.int .i64 room, .slice (some qb) 64 64, .slice (some qf) 64 64, .bool false, .int .i64 (-1)] 58, own 3 eI (.slice (some qf) 64 64) (F.take i ++ List.replicate (64 - i) 0), cel r [.int .i64 room, .slice (some ab) 64 64, .slice (some af) 64 64, .bool off, .int .i64 plan] 58, own 3 eI (.slice (some af) 64 64) F] [(0, 1), (1, 1), (2, 1), (3, 1), (4, 1), (5, 1), (6, 1), (7, 1), (8, 1), (9, 1), (10, 1), (11, 1), (12, 1), (13, 0)] (by kernel_rfl) (by kernel_rfl) Sb ?_
    repeat' (first | refine go ?_ | intro _ | (apply cG; first | refine cT ?_ | refine cF ?_ | refine cS (fun _ => ?_) fun _ => ?_) | (apply gW; refine sW ?_) | (apply gI; refine sI ?_) | (apply gE; refine sE ?_) | (apply gP; refine sP ?_) | (apply gC; refine sC ?_) | (apply gD; refine sD ?_) | fail)
    have hFl : (F.take i).length = i := by rw [List.length_take]; omega
    refine D_op rfl ?_; refine X_d (dy_storeE (f := iv) (hf := fun _ => rfl) (j := i) (n := 64) (c := 64) fd (hy := by rfl) (hj := by rw [List.length_append, List.length_replicate]; omega)) ?_; rintro _ _ ⟨rfl, hLL⟩; replace hLL := hLL.trans SAt.pf; subst hLL; refine ⟨(by first | exact .inl rfl | exact .inr Sb), D_n ?_⟩
    have hFt : F.take (i + 1) = F.take i ++ [fd] := by rw [List.take_add_one, hfd]; rfl
    rw [set_rep hFl hlt, ← hFt]
    repeat' (first | refine go ?_ | intro _ | (apply cG; first | refine cT ?_ | refine cF ?_ | refine cS (fun _ => ?_) fun _ => ?_) | (apply gW; refine sW ?_) | (apply gI; refine sI ?_) | (apply gE; refine sE ?_) | (apply gP; refine sP ?_) | (apply gC; refine sC ?_) | (apply gD; refine sD ?_) | fail)
    refine E_round (i + 1, Cs ++ [⟨A7, c7, x.b⟩]) ⟨hlt, by dsimp only; rw [List.length_append, hCl]; rfl, by dsimp only; rw [List.map_append, hCb, List.take_add_one, map_at h1 hx]; rfl⟩ (by dsimp only; omega) ⟨rfl, trivial⟩ ?_
    dsimp only
    exact Sub.trans (sub_imRsnoc (Bs := Cs) (x := ⟨A7, c7, x.b⟩) (by repeat (first | exact .head _ | refine .tail _ ?_)) (by repeat (first | exact .head _ | refine .tail _ ?_))) Sb
  obtain rfl : i = 64 := by omega
  have hCB : Cs.map (fun y => y.b) = B := by rw [hCb, List.take_of_length_le]; rw [← h1, List.length_map]; omega
  rw [show (64 - 64 : Nat) = 0 from rfl, List.replicate_zero, List.append_nil, List.replicate_zero, List.append_nil, List.take_of_length_le (by omega)]
  repeat' (first | refine go ?_ | intro _ | (apply cG; first | refine cT ?_ | refine cF ?_ | refine cS (fun _ => ?_) fun _ => ?_) | (apply gW; refine sW ?_) | (apply gI; refine sI ?_) | (apply gE; refine sE ?_) | (apply gP; refine sP ?_) | (apply gC; refine sC ?_) | (apply gD; refine sD ?_) | fail)
  refine E_sub (S := rdk q ⟨room, B, F, off, plan⟩ :: rdk r ⟨room, B, F, off, plan⟩ :: L) ?_ ?_
  · refine Sub.trans (B := cel q [.int .i64 room, .slice (some qb) 64 64, .slice (some qf) 64 64, .bool off, .int .i64 plan] 58 :: own 27 eRBy (.slice (some qb) 64 64) Cs :: own 3 eI (.slice (some qf) 64 64) F :: imR Cs :: cel r [.int .i64 room, .slice (some ab) 64 64, .slice (some af) 64 64, .bool off, .int .i64 plan] 58 :: own 27 eRBy (.slice (some ab) 64 64) Bs :: own 3 eI (.slice (some af) 64 64) F :: imR Bs :: L) Sb ?_
    refine Sub.trans (rdk_sub (K := ⟨room, B, F, off, plan⟩) hCB hCl h3) (sub_skip hcl)
  refine E_res1 (by rfl) (by rfl) ⟨q, rfl, rfl⟩ Sb
theorem rRot_ct {r : Nat} {K : RK} {n bit : Int} (hk : KOk K) (hb1 : -9223372036854775808 ≤ bit) (hb2 : bit ≤ 9223372036854775807) :
    CT Try.prog 35 #[.pointer (some ⟨r, 0, none⟩), .int .i64 n, .int .i64 bit] W0 (rdk r K :: L) fun q L' => q = .int .i64 (rotR K n bit).2 ∧ L' = rdk r (rotR K n bit).1 :: L := by
  have hu := hk.u
  refine rdk_ctx fun ab af Bs h1 h2 h3 => ?_
  have hcl := (rdk_sub (L := L) (r := r) (ab := ab) (af := af) (K := K) h1 h2 h3)
  by_cases hn : 0 ≤ n ∧ n < 64
  rotate_left
  · have e : rotR K n bit = (K, 1) := by unfold rotR; rw [if_neg (fun h => hn h.1)]
    rw [e]
    by_cases hlt : n < 0
    · refine CT_enter Try.func35 rfl ?_; (simp only [Try.ntmps35, List.size_toArray, List.length_cons, List.length_nil, Nat.reduceAdd, Nat.reduceSub, Array.replicate_succ, Array.replicate_zero, List.push_toArray, List.append_toArray, List.nil_append, List.cons_append])
      repeat' (first | refine go ?_ | intro _ | (apply cG; first | refine cT ?_ | refine cF ?_ | refine cS (fun _ => ?_) fun _ => ?_) | (apply gW; refine sW ?_) | (apply gI; refine sI ?_) | (apply gE; refine sE ?_) | (apply gP; refine sP ?_) | (apply gC; refine sC ?_) | (apply gD; refine sD ?_) | fail)
      refine E_res1 (by rfl) (by rfl) ⟨rfl, rfl⟩ (Sub.trans Sb hcl)
    · refine CT_enter Try.func35 rfl ?_; (simp only [Try.ntmps35, List.size_toArray, List.length_cons, List.length_nil, Nat.reduceAdd, Nat.reduceSub, Array.replicate_succ, Array.replicate_zero, List.push_toArray, List.append_toArray, List.nil_append, List.cons_append])
      repeat' (first | refine go ?_ | intro _ | (apply cG; first | refine cT ?_ | refine cF ?_ | refine cS (fun _ => ?_) fun _ => ?_) | (apply gW; refine sW ?_) | (apply gI; refine sI ?_) | (apply gE; refine sE ?_) | (apply gP; refine sP ?_) | (apply gC; refine sC ?_) | (apply gD; refine sD ?_) | fail)
      refine E_res1 (by rfl) (by rfl) ⟨rfl, rfl⟩ (Sub.trans Sb hcl)
  obtain ⟨j, rfl⟩ : ∃ j : Nat, n = j := ⟨n.toNat, by omega⟩
  have hj : j < 64 := by omega
  obtain ⟨x, hx⟩ : ∃ x, Bs[j]? = some x := ⟨_, List.getElem?_eq_getElem (by omega)⟩
  have hxb := rbn h1 hx
  have hxl := usedB_at (map_at h1 hx)
  have hax : At Bs j x := ⟨hx⟩
  by_cases hb0 : bit < 0
  · have e : rotR K (j : Int) bit = (K, 1) := by unfold rotR; rw [if_neg (fun h => absurd h.2.1 (by omega))]
    rw [e]
    refine CT_enter Try.func35 rfl ?_; (simp only [Try.ntmps35, List.size_toArray, List.length_cons, List.length_nil, Nat.reduceAdd, Nat.reduceSub, Array.replicate_succ, Array.replicate_zero, List.push_toArray, List.append_toArray, List.nil_append, List.cons_append])
    repeat' (first | refine go ?_ | intro _ | (apply cG; first | refine cT ?_ | refine cF ?_ | refine cS (fun _ => ?_) fun _ => ?_) | (apply gW; refine sW ?_) | (apply gI; refine sI ?_) | (apply gE; refine sE ?_) | (apply gP; refine sP ?_) | (apply gC; refine sC ?_) | (apply gD; refine sD ?_) | fail)
    refine E_res1 (by rfl) (by rfl) ⟨rfl, rfl⟩ (Sub.trans Sb hcl)
  obtain ⟨k, rfl⟩ : ∃ k : Nat, bit = k := ⟨bit.toNat, by omega⟩
  by_cases hkl : k / 8 < x.b.length
  rotate_left
  · have e : rotR K (j : Int) (k : Int) = (K, 1) := by unfold rotR; rw [if_neg (fun h => absurd h.2.2 (by rw [hxb]; omega))]
    rw [e]
    refine CT_enter Try.func35 rfl ?_; (simp only [Try.ntmps35, List.size_toArray, List.length_cons, List.length_nil, Nat.reduceAdd, Nat.reduceSub, Array.replicate_succ, Array.replicate_zero, List.push_toArray, List.append_toArray, List.nil_append, List.cons_append])
    repeat' (first | refine go ?_ | intro _ | (apply cG; first | refine cT ?_ | refine cF ?_ | refine cS (fun _ => ?_) fun _ => ?_) | (apply gI; refine sI ?_) | (apply gE; refine sE ?_) | (apply gP; refine sP ?_) | (apply gC; refine sC ?_) | (apply gD; refine sD ?_) | fail)
    apply gW; refine sW (r := ((k / 8 : Nat) : Int)) ?_ ⟨by decide, by show IntKind.i64.wrap ((k / 8 : Nat) : Int) = ((k / 8 : Nat) : Int); exact wr_i64 (by omega) (by omega)⟩
    repeat' (first | refine go ?_ | intro _ | (apply cG; first | refine cT ?_ | refine cF ?_ | refine cS (fun _ => ?_) fun _ => ?_) | (apply gW; refine sW ?_) | (apply gI; refine sI ?_) | (apply gE; refine sE ?_) | (apply gP; refine sP ?_) | (apply gC; refine sC ?_) | (apply gD; refine sD ?_) | fail)
    refine E_res1 (by rfl) (by rfl) ⟨rfl, rfl⟩ (Sub.trans Sb hcl)
  obtain ⟨room, B, F, off, plan⟩ := K
  dsimp only at h1 h3 hu hcl hxb hxl ⊢
  have e : rotR ⟨room, B, F, off, plan⟩ (j : Int) (k : Int) = (⟨room, B.set j (rotB x.b k), F, off, plan⟩, 0) := by
    unfold rotR
    rw [if_pos ⟨hn, by omega, by rw [hxb]; omega⟩, hxb]
    rfl
  rw [e]
  obtain ⟨yb, hyb⟩ : ∃ yb, x.b[k / 8]? = some yb := ⟨_, List.getElem?_eq_getElem hkl⟩
  have hgd : x.b.getD (k / 8) 0 = yb := by rw [List.getD_eq_getElem?_getD, hyb]; rfl
  have hrot : x.b.set (k / 8) (fl8 yb (7 - k % 8)) = rotB x.b k := by unfold rotB; rw [hgd]
  have hrl := rotB_len x.b k
  obtain ⟨hz8, _⟩ := fl8_eq (y := yb) (s := 7 - k % 8) (by omega)
  refine CT_sub3 (S := cel r [.int .i64 room, .slice (some ab) 64 64, .slice (some af) 64 64, .bool off, .int .i64 plan] 58 :: own 27 eRBy (.slice (some ab) 64 64) Bs :: own 3 eI (.slice (some af) 64 64) F :: imR Bs :: rd eB (.slice x.A x.b.length x.c) x.b :: L) (Sub.trans (B := rd eB (.slice x.A x.b.length x.c) x.b :: cel r [.int .i64 room, .slice (some ab) 64 64, .slice (some af) 64 64, .bool off, .int .i64 plan] 58 :: own 27 eRBy (.slice (some ab) 64 64) Bs :: own 3 eI (.slice (some af) 64 64) F :: imR Bs :: L) (sub_imR (.tail _ (.tail _ (.tail _ (.head _)))) hx) Sb) ?_
  refine CT_enter Try.func35 rfl ?_; (simp only [Try.ntmps35, List.size_toArray, List.length_cons, List.length_nil, Nat.reduceAdd, Nat.reduceSub, Array.replicate_succ, Array.replicate_zero, List.push_toArray, List.append_toArray, List.nil_append, List.cons_append])
  repeat' (first | refine go ?_ | intro _ | (apply cG; first | refine cT ?_ | refine cF ?_ | refine cS (fun _ => ?_) fun _ => ?_) | (apply gI; refine sI ?_) | (apply gE; refine sE ?_) | (apply gP; refine sP ?_) | (apply gC; refine sC ?_) | (apply gD; refine sD ?_) | fail)
  apply gW; refine sW (r := ((k / 8 : Nat) : Int)) ?_ ⟨by decide, by show IntKind.i64.wrap ((k / 8 : Nat) : Int) = ((k / 8 : Nat) : Int); exact wr_i64 (by omega) (by omega)⟩
  repeat' (first | refine go ?_ | intro _ | (apply cG; first | refine cT ?_ | refine cF ?_ | refine cS (fun _ => ?_) fun _ => ?_) | (apply gW; refine sW ?_) | (apply gI; refine sI ?_) | (apply gE; refine sE ?_) | (apply gP; refine sP ?_) | (apply gC; refine sC ?_) | (apply gD; refine sD ?_) | fail)
  refine O_ownnil 5 eB ?_
  repeat' (first | ((fail_if_success apply AtE); refine go ?_) | intro _ | (apply cG; first | refine cT ?_ | refine cF ?_ | refine cS (fun _ => ?_) fun _ => ?_) | (apply gW; refine sW ?_) | (apply gI; refine sI ?_) | (apply gE; refine sE ?_) | (apply gP; refine sP ?_) | (apply gC; refine sC ?_) | (apply gD; refine sD ?_) | fail)
  rename_i A7 c7
  rw [List.nil_append]
  have hayb : At x.b (k / 8) yb := ⟨hyb⟩
  refine go ?_
  repeat' (first | refine go ?_ | intro _ | (apply cG; first | refine cT ?_ | refine cF ?_ | refine cS (fun _ => ?_) fun _ => ?_) | (apply gI; refine sI ?_) | (apply gE; refine sE ?_) | (apply gP; refine sP ?_) | (apply gC; refine sC ?_) | (apply gD; refine sD ?_) | fail)
  apply gW; refine sW (r := ((k / 8 : Nat) : Int)) ?_ ⟨by decide, by show IntKind.i64.wrap ((k / 8 : Nat) : Int) = ((k / 8 : Nat) : Int); exact wr_i64 (by omega) (by omega)⟩
  repeat' (first | refine go ?_ | intro _ | (apply cG; first | refine cT ?_ | refine cF ?_ | refine cS (fun _ => ?_) fun _ => ?_) | (apply gI; refine sI ?_) | (apply gE; refine sE ?_) | (apply gP; refine sP ?_) | (apply gC; refine sC ?_) | (apply gD; refine sD ?_) | fail)
  apply gW; refine sW (r := ((k / 8 : Nat) : Int)) ?_ ⟨by decide, by show IntKind.i64.wrap ((k / 8 : Nat) : Int) = ((k / 8 : Nat) : Int); exact wr_i64 (by omega) (by omega)⟩
  repeat' (first | refine go ?_ | intro _ | (apply cG; first | refine cT ?_ | refine cF ?_ | refine cS (fun _ => ?_) fun _ => ?_) | (apply gI; refine sI ?_) | (apply gE; refine sE ?_) | (apply gP; refine sP ?_) | (apply gC; refine sC ?_) | (apply gD; refine sD ?_) | fail)
  apply gW; refine sW (r := ((k % 8 : Nat) : Int)) ?_ ⟨by decide, rfl⟩
  repeat' (first | refine go ?_ | intro _ | (apply cG; first | refine cT ?_ | refine cF ?_ | refine cS (fun _ => ?_) fun _ => ?_) | (apply gI; refine sI ?_) | (apply gE; refine sE ?_) | (apply gP; refine sP ?_) | (apply gC; refine sC ?_) | (apply gD; refine sD ?_) | fail)
  apply gW; refine sW (r := ((7 - k % 8 : Nat) : Int)) ?_ (by rw [wr_i64 (by omega) (by omega)]; omega)
  repeat' (first | refine go ?_ | intro _ | (apply cG; first | refine cT ?_ | refine cF ?_ | refine cS (fun _ => ?_) fun _ => ?_) | (apply gI; refine sI ?_) | (apply gE; refine sE ?_) | (apply gP; refine sP ?_) | (apply gC; refine sC ?_) | (apply gD; refine sD ?_) | fail)
  apply gW; refine sW (r := ((7 - k % 8 : Nat) : Int)) ?_ (wr_u64 (by omega) (by omega))
  repeat' (first | refine go ?_ | intro _ | (apply cG; first | refine cT ?_ | refine cF ?_ | refine cS (fun _ => ?_) fun _ => ?_) | (apply gI; refine sI ?_) | (apply gE; refine sE ?_) | (apply gP; refine sP ?_) | (apply gC; refine sC ?_) | (apply gD; refine sD ?_) | fail)
  refine O_s (sv_shl (hr := (show IntKind.u8.wrap (1 * 2 ^ (((7 - k % 8 : Nat) : Int)).toNat) = IntKind.u8.wrap (1 * 2 ^ (7 - k % 8)) from rfl))) ?_
  refine O_s (sv_xor (hr := hz8)) ?_
  repeat' (first | refine go ?_ | intro _ | (apply cG; first | refine cT ?_ | refine cF ?_ | refine cS (fun _ => ?_) fun _ => ?_) | (apply gI; refine sI ?_) | (apply gE; refine sE ?_) | (apply gP; refine sP ?_) | (apply gC; refine sC ?_) | (apply gD; refine sD ?_) | fail)
  refine O_d (dy_storeE (f := bv) (hf := fun _ => rfl) (j := k / 8) (n := x.b.length) (c := c7) (fl8 yb (7 - k % 8)) (hy := by rfl) (hj := by omega)) ?_; rintro _ _ ⟨rfl, rfl⟩; refine O_n ?_
  rw [hrot]
  repeat' (first | refine go ?_ | intro _ | (apply cG; first | refine cT ?_ | refine cF ?_ | refine cS (fun _ => ?_) fun _ => ?_) | (apply gW; refine sW ?_) | (apply gI; refine sI ?_) | (apply gE; refine sE ?_) | (apply gP; refine sP ?_) | (apply gC; refine sC ?_) | (apply gD; refine sD ?_) | fail)
  refine O_d (dy_storeE (f := fun x : RBy => .slice x.A x.b.length x.c) (hf := fun _ => rfl) (j := j) (n := 64) (c := 64) ⟨A7, c7, rotB x.b k⟩ (hy := by show _ = Value.slice A7 (rotB x.b k).length c7; rw [hrl]; rfl) (hj := by omega)) ?_; rintro _ _ ⟨rfl, rfl⟩; refine O_n ?_
  refine O_frz 0 ?_
  repeat' (first | refine go ?_ | intro _ | (apply cG; first | refine cT ?_ | refine cF ?_ | refine cS (fun _ => ?_) fun _ => ?_) | (apply gW; refine sW ?_) | (apply gI; refine sI ?_) | (apply gE; refine sE ?_) | (apply gP; refine sP ?_) | (apply gC; refine sC ?_) | (apply gD; refine sD ?_) | fail)
  refine E_sub (S := rdk r ⟨room, B.set j (rotB x.b k), F, off, plan⟩ :: L) (Sub.trans (B := rd eB (.slice A7 (rotB x.b k).length c7) (rotB x.b k) :: cel r [.int .i64 room, .slice (some ab) 64 64, .slice (some af) 64 64, .bool off, .int .i64 plan] 58 :: own 27 eRBy (.slice (some ab) 64 64) (Bs.set j ⟨A7, c7, rotB x.b k⟩) :: own 3 eI (.slice (some af) 64 64) F :: imR Bs :: L) (by rw [hrl]; exact Sb) (Sub.trans (sub_imRset (Bs := Bs) (j := j) (x := ⟨A7, c7, rotB x.b k⟩) (.tail _ (.tail _ (.tail _ (.tail _ (.head _))))) (.head _)) (Sub.trans (B := cel r [.int .i64 room, .slice (some ab) 64 64, .slice (some af) 64 64, .bool off, .int .i64 plan] 58 :: own 27 eRBy (.slice (some ab) 64 64) (Bs.set j ⟨A7, c7, rotB x.b k⟩) :: own 3 eI (.slice (some af) 64 64) F :: imR (Bs.set j ⟨A7, c7, rotB x.b k⟩) :: L) Sb (rdk_sub (K := ⟨room, B.set j (rotB x.b k), F, off, plan⟩) (by rw [List.map_set, h1]) (by rw [List.length_set]; exact h2) h3)))) ?_
  refine E_res1 (by rfl) (by rfl) ⟨rfl, rfl⟩ Sb
end
end Go.Proofs.Ytikdelkcpapgdaa
