/-
  The law JournalRuns.
-/
import Derived.Test.YtbjaecofccpahaaGreatMZD
namespace Go.Proofs.YtbjaecofccpahaaGreat
open Go Go.RowKit
set_option linter.unusedVariables false
set_option linter.unusedSimpArgs false
set_option maxRecDepth 20000
set_option synthInstance.maxSize 100000
set_option synthInstance.maxHeartbeats 400000
abbrev LGO := Option (Nat × Nat × Int × Bool)
def lgo (p r : Nat) : LGO → HP
  | none => sp []
  | some (q, s, n, dn) => sp [cel q [.pointer (some ⟨p, 0, none⟩), .int .i64 2, .int .i64 n, .bool dn] 59, cel s [.pointer (some ⟨r, 0, none⟩), .int .i64 2, .int .i64 n, .bool dn] 44]
def lvO : LGO → Value
  | none => .pointer none
  | some x => .pointer (some ⟨x.1, 0, none⟩)
def rvO : LGO → Value
  | none => .pointer none
  | some x => .pointer (some ⟨x.2.1, 0, none⟩)
structure JI (d : DK) (K : RK) (lg : LGO) (i : Nat) : Prop where
  h : Rel d K
  room : K.room ≤ 1000
  n : ∀ q s n dn, lg = some (q, s, n, dn) → 0 ≤ n ∧ n ≤ 10000 + (i : Int)
theorem tdiv8 (y : Int) (h1 : -9223372036854775808 ≤ y) (h2 : y ≤ 9223372036854775807) : -9223372036854775808 ≤ y.tdiv 8 ∧ y.tdiv 8 ≤ 9223372036854775807 := by
  rcases Int.eq_nat_or_neg y with ⟨a, rfl | rfl⟩
  · rw [show (a : Int).tdiv 8 = ((a / 8 : Nat) : Int) from rfl]
    omega
  · rw [Int.neg_tdiv, show (a : Int).tdiv 8 = ((a / 8 : Nat) : Int) from rfl]
    omega
theorem JI.b {d : DK} {K : RK} {lg : LGO} {i : Nat} (h : JI d K lg i) (n : Int) : (fileF n d.files).b.length ≤ 1000 := by
  have h1 := file_le_used (n := n) d.files
  have h2 := h.h.ok.u
  have h3 := h.h.room
  have h4 := h.room
  omega
theorem crashR_room (K : RK) (kp : List Int) (z : Int) : (crashR K kp z).room = K.room := rfl
section
variable {W0 : World} {L : List HP}
theorem lgo_out {p r q s : Nat} {n : Int} {dn : Bool} : Sub (lgo p r (some (q, s, n, dn)) :: L) (cel q [.pointer (some ⟨p, 0, none⟩), .int .i64 2, .int .i64 n, .bool dn] 59 :: cel s [.pointer (some ⟨r, 0, none⟩), .int .i64 2, .int .i64 n, .bool dn] 44 :: L) := sub_open (Ls := [cel q [.pointer (some ⟨p, 0, none⟩), .int .i64 2, .int .i64 n, .bool dn] 59, cel s [.pointer (some ⟨r, 0, none⟩), .int .i64 2, .int .i64 n, .bool dn] 44])
theorem lgo_in {p r q s : Nat} {n : Int} {dn : Bool} : Sub (cel q [.pointer (some ⟨p, 0, none⟩), .int .i64 2, .int .i64 n, .bool dn] 59 :: cel s [.pointer (some ⟨r, 0, none⟩), .int .i64 2, .int .i64 n, .bool dn] 44 :: L) (lgo p r (some (q, s, n, dn)) :: L) := sub_close (Ls := [cel q [.pointer (some ⟨p, 0, none⟩), .int .i64 2, .int .i64 n, .bool dn] 59, cel s [.pointer (some ⟨r, 0, none⟩), .int .i64 2, .int .i64 n, .bool dn] 44])
theorem lgo_nil {p r : Nat} : Sub L (lgo p r none :: L) := sub_spnil
theorem sub_rdnil {α : Type} {R : Enc α} : Sub L (rd R (.slice none 0 0) ([] : List α) :: L) := fun m h s =>
  ⟨Hp.none, h, Hp.none_dj _, Hp.none_le _, Hp.le_refl _, Sl.nil _ _ _ _, s⟩
theorem dArm_offJ {p : Nat} {files : List (Int × DF)} {room left : Int} {armed : Bool} {n : Int} : CT Tryz.prog 9 #[.pointer (some ⟨p, 0, none⟩), .int .i64 n] W0 (dsk p ⟨files, room, true, armed, left⟩ :: L) fun r L' => r = .tuple #[] ∧ L' = dsk p ⟨files, room, true, armed, left⟩ :: L := by
  refine dsk_ct fun mb => ?_
  dsimp only
  refine CT_enter Tryz.func9 rfl ?_; (simp only [Tryz.ntmps9, List.size_toArray, List.length_cons, List.length_nil, Nat.reduceAdd, Nat.reduceSub, Array.replicate_succ, Array.replicate_zero, List.push_toArray, List.append_toArray, List.nil_append, List.cons_append])
  repeat' (first | refine go ?_ | intro _ | (apply cG; first | refine cT ?_ | refine cF ?_ | refine cS (fun _ => ?_) fun _ => ?_) | (apply gW; refine sW ?_) | (apply gI; refine sI ?_) | (apply gE; refine sE ?_) | (apply gP; refine sP ?_) | (apply gC; refine sC ?_) | (apply gD; refine sD ?_) | fail)
  refine E_sub (S := dsk p ⟨files, room, true, armed, left⟩ :: L) (Sub.trans (B := cel p [.map (some mb), .int .i64 room, .bool true, .bool armed, .int .i64 left] 62 :: mapo mDF mb files :: L) Sb (dsk_sub (R := mDF) (d := ⟨files, room, true, armed, left⟩))) ?_
  refine E_end0 (by first | exact .inl rfl | exact .inr rfl) (by rfl) (by rfl) ⟨rfl, rfl⟩
theorem dy_of {P : Program} {W0 : World} {L : List HP} {o : Oper} {a : Act} {v : Value} (h : SV P W0 L o a v) : DY P W0 L o a fun a' L' => a.put o.dst v = a' ∧ L' = L := dy_val fun w s => ⟨v, w, L, h.run w s, ⟨rfl, rfl⟩, s⟩
theorem rlogF_f (g : LG) (K : RK) (b : List UInt8) : (rlogF g K b).1.file = g.file ∧ g.n ≤ (rlogF g K b).1.n ∧ (rlogF g K b).1.n ≤ g.n + 1 := by
  unfold rlogF
  split
  · exact ⟨rfl, by dsimp only; omega, by dsimp only; omega⟩
  obtain ⟨K1, f1, hK1⟩ : ∃ K1 f1, appR K g.file (frameF g.n b) = (K1, f1) := ⟨_, _, rfl⟩
  rw [hK1]
  dsimp only
  split
  · obtain ⟨K2, f2, hK2⟩ : ∃ K2 f2, syncR K1 = (K2, f2) := ⟨_, _, rfl⟩
    rw [hK2]
    dsimp only
    split
    · exact ⟨rfl, by omega, by omega⟩
    · exact ⟨rfl, by omega, by omega⟩
  · exact ⟨rfl, by dsimp only; omega, by dsimp only; omega⟩
theorem Rel.lenJ {d : DK} {K : RK} (h : Rel d K) : d.files.length ≤ 64 := by
  have hn : (filesB K.B 64).Nodup := (filesB_sorted K.B 64).imp fun h => by omega
  have hp := (List.perm_ext_iff_of_nodup h.ok.k hn).2 fun n => h.f.mem h.ok.k n
  have := hp.length_eq
  rw [List.length_map] at this
  rw [this]
  exact filesB_len _ _
def scK (K : RK) : List (List UInt8) × Nat := scanF (K.b 2).length 0 (K.b 2)
theorem pOpen_ct {p : Nat} {d : DK} {K : RK} (hR : Rel d K) (hB : (K.b 2).length ≤ 1000) (ho : d.off = false) :
    CT Tryz.prog 7 #[.pointer (some ⟨p, 0, none⟩), .int .i64 2] W0 (dsk p d :: L) fun z L' => ∃ d', Rel d' (openR K 2 (scK K).2).1 ∧ (((openR K 2 (scK K).2).2 ≠ 0 ∧ z = .tuple #[.pointer none, .slice none 0 0, .int .i64 (openR K 2 (scK K).2).2] ∧ L' = dsk p d' :: L) ∨
      ((openR K 2 (scK K).2).2 = 0 ∧ ∃ q A3 c3, z = .tuple #[.pointer (some ⟨q, 0, none⟩), .slice A3 (scK K).1.length c3, .int .i64 0] ∧ L' = cel q [.pointer (some ⟨p, 0, none⟩), .int .i64 2, .int .i64 ((scK K).1.length : Int), .bool false] 59 :: own 39 (eSl eB) (.slice A3 (scK K).1.length c3) (scK K).1 :: dsk p d' :: L)) := by
  have hn : (0 : Int) ≤ 2 ∧ (2 : Int) < 64 := by decide
  have hb := hR.b hn
  obtain ⟨_, h2, h3⟩ := scanF_take (K.b 2).length 0 (K.b 2)
  obtain ⟨xs, N, hsc⟩ : ∃ xs N, scK K = (xs, N) := ⟨_, _, rfl⟩
  have hsc2 : scanF (K.b 2).length 0 (K.b 2) = (xs, N) := hsc
  rw [hsc2] at h2 h3
  dsimp only at h2 h3
  rw [hsc]
  dsimp only
  have hl0 := hR.l0
  have hl1 := hR.l1
  rw [hb] at hB hsc2 h2 h3
  refine CT.into (Open_ct (d := d) (file := 2) (xs := xs) (N := N) hR.ok ho hn (by omega) hsc2 h2 (by omega) (by omega) (by omega)) ?_
  rintro z L' ⟨A, c, hcase⟩
  obtain ⟨hR2, he2⟩ := hR.opn (file := 2) (N := N) hn h2 (.slice A N c)
  rw [he2] at hcase
  rcases hcase with ⟨h4, rfl, rfl⟩ | ⟨h4, q, A3, c3, rfl, rfl⟩
  · exact ⟨_, ⟨_, hR2, .inl ⟨h4, rfl, rfl⟩⟩, Sub.refl _⟩
  · exact ⟨_, ⟨_, hR2, .inr ⟨h4, q, A3, c3, rfl, rfl⟩⟩, Sub.refl _⟩
theorem qOpen_ct {r : Nat} {d : DK} {K : RK} (hR : Rel d K) (hB : (K.b 2).length ≤ 1000) (ho : K.off = false) :
    CT Tryz.prog 8 #[.pointer (some ⟨r, 0, none⟩), .int .i64 2] W0 (rdk r K :: L) fun z L' => ((openR K 2 (scK K).2).2 ≠ 0 ∧ z = .tuple #[.pointer none, .slice none 0 0, .int .i64 (openR K 2 (scK K).2).2] ∧ L' = rdk r (openR K 2 (scK K).2).1 :: L) ∨
      ((openR K 2 (scK K).2).2 = 0 ∧ ∃ q A3 c3, z = .tuple #[.pointer (some ⟨q, 0, none⟩), .slice A3 (scK K).1.length c3, .int .i64 0] ∧ L' = cel q [.pointer (some ⟨r, 0, none⟩), .int .i64 2, .int .i64 ((scK K).1.length : Int), .bool false] 44 :: own 39 (eSl eB) (.slice A3 (scK K).1.length c3) (scK K).1 :: rdk r (openR K 2 (scK K).2).1 :: L) := by
  obtain ⟨_, h2, h3⟩ := scanF_take (K.b 2).length 0 (K.b 2)
  obtain ⟨xs, N, hsc⟩ : ∃ xs N, scK K = (xs, N) := ⟨_, _, rfl⟩
  have hsc2 : scanF (K.b 2).length 0 (K.b 2) = (xs, N) := hsc
  rw [hsc2] at h2 h3
  dsimp only at h2 h3
  rw [hsc]
  dsimp only
  exact rOpen_ct (j := 2) hR (by decide) ho (by show (K.b 2).length ≤ _; omega) hsc2 h2 (by omega)
theorem scK_len (K : RK) : (scK K).1.length ≤ (K.b 2).length := (scanF_take (K.b 2).length 0 (K.b 2)).2.2
theorem scK_mem (K : RK) : ∀ x ∈ (scK K).1, x.length ≤ (K.b 2).length := scanF_mem _ _ _
set_option maxHeartbeats 8000000 in
theorem JournalRuns_ct {room : Int} {v : Value} {li : List Int} (hr1 : -9223372036854775808 ≤ room) (hr2 : room ≤ 9223372036854775807) (hv : rd eI v li ∈ L) (hl : li.length ≤ 9223372036854775807) (hr : ∀ n ∈ li, -9223372036854775808 ≤ n ∧ n ≤ 9223372036854775807) :
    CT Tryz.prog 3 #[.int .i64 room, v] W0 L fun r L' => r = .bool true ∧ L' = L := by
  refine CT_fact (fun w s => ((Src.sl (.inl hv) s).form)) ?_
  rintro ⟨Av, cv, rfl, hc⟩
  have hkr := around_in (n := room) (most := 200) (by decide)
  refine CT_enter Tryz.func3 rfl ?_; (simp only [Tryz.ntmps3, List.size_toArray, List.length_cons, List.length_nil, Nat.reduceAdd, Nat.reduceSub, Array.replicate_succ, Array.replicate_zero, List.push_toArray, List.append_toArray, List.nil_append, List.cons_append])
  repeat' (first | refine go ?_ | intro _ | (apply cG; first | refine cT ?_ | refine cF ?_ | refine cS (fun _ => ?_) fun _ => ?_) | (apply gW; refine sW ?_) | (apply gI; refine sI ?_) | (apply gE; refine sE ?_) | (apply gP; refine sP ?_) | (apply gC; refine sC ?_) | (apply gD; refine sD ?_) | fail)
  refine O_d (dy_call ArgsI.pf (by first | exact rfl | trivial | (intro a b; rfl)) (Around_ct (most := 200) hr1 hr2 (by decide) (by decide))) ?_; rintro _ _ ⟨_, ⟨rfl, hLL⟩, rfl⟩; replace hLL := hLL.symm; subst hLL; refine O_n ?_
  obtain ⟨k, hk⟩ : ∃ k, around room 200 = k := ⟨_, rfl⟩
  rw [hk] at hkr ⊢
  repeat' (first | refine go ?_ | intro _ | (apply cG; first | refine cT ?_ | refine cF ?_ | refine cS (fun _ => ?_) fun _ => ?_) | (apply gW; refine sW ?_) | (apply gI; refine sI ?_) | (apply gE; refine sE ?_) | (apply gP; refine sP ?_) | (apply gC; refine sC ?_) | (apply gD; refine sD ?_) | fail)
  refine O_d (dy_call ArgsI.pf (by first | exact rfl | trivial | (intro a b; rfl)) (fresh_ct (room := 40 + k) (by omega) (by omega))) ?_; rintro _ _ ⟨_, ⟨p, rfl, rfl⟩, rfl⟩; refine O_n ?_
  have hrel := Rel.begun (k := 40 + k) (by omega) (by omega)
  repeat' (first | refine go ?_ | intro _ | (apply cG; first | refine cT ?_ | refine cF ?_ | refine cS (fun _ => ?_) fun _ => ?_) | (apply gW; refine sW ?_) | (apply gI; refine sI ?_) | (apply gE; refine sE ?_) | (apply gP; refine sP ?_) | (apply gC; refine sC ?_) | (apply gD; refine sD ?_) | fail)
  refine O_d (dy_call ArgsI.pf (by first | exact rfl | trivial | (intro a b; rfl)) (rNew_ct (room := 40 + k))) ?_; rintro _ _ ⟨_, ⟨r, rfl, rfl⟩, rfl⟩; refine O_n ?_
  repeat' (first | refine go ?_ | intro _ | (apply cG; first | refine cT ?_ | refine cF ?_ | refine cS (fun _ => ?_) fun _ => ?_) | (apply gW; refine sW ?_) | (apply gI; refine sI ?_) | (apply gE; refine sE ?_) | (apply gP; refine sP ?_) | (apply gC; refine sC ?_) | (apply gD; refine sD ?_) | fail)
  have h2 : (0 : Int) ≤ 2 ∧ (2 : Int) < 64 := by decide
  have hb0 := hrel.b h2
  have hf0 : (fileF 2 ([] : List (Int × DF))).b = [] := rfl
  have hK00 : (openR ⟨40 + k, List.replicate 64 [], List.replicate 64 0, false, -1⟩ 2 (scK ⟨40 + k, List.replicate 64 [], List.replicate 64 0, false, -1⟩).2).2 = 0 := by rfl
  obtain ⟨K0, hK0⟩ : ∃ K0 : RK, (⟨40 + k, List.replicate 64 [], List.replicate 64 0, false, -1⟩ : RK) = K0 := ⟨_, rfl⟩
  have hK0o : K0.off = false := by rw [← hK0]
  have hK0r : K0.room ≤ 1000 := by rw [← hK0]; show 40 + k ≤ 1000; omega
  have hK0b : (K0.b 2).length ≤ 1000 := by rw [← hK0]; exact Nat.zero_le _
  rw [hK0] at hrel hK00 ⊢
  have hK0s := scK_len K0
  refine O_d (dy_call ArgsI.pf (by first | exact rfl | trivial | (intro a b; rfl)) (CT.pull (i := 1) (by rfl) (pOpen_ct hrel hK0b rfl))) ?_; rintro _ _ ⟨_, ⟨d1, hR1, hcase⟩, rfl⟩; refine O_n ?_
  rcases hcase with ⟨hne, _⟩ | ⟨_, q, A3, c3, rfl, rfl⟩
  · exact absurd hK00 hne
  repeat' (first | refine go ?_ | intro _ | (apply cG; first | refine cT ?_ | refine cF ?_ | refine cS (fun _ => ?_) fun _ => ?_) | (apply gW; refine sW ?_) | (apply gI; refine sI ?_) | (apply gE; refine sE ?_) | (apply gP; refine sP ?_) | (apply gC; refine sC ?_) | (apply gD; refine sD ?_) | fail)
  refine O_d (dy_call ArgsI.pf (by first | exact rfl | trivial | (intro a b; rfl)) (CT.pull (i := 3) (by rfl) (qOpen_ct hrel hK0b hK0o))) ?_; rintro _ _ ⟨_, hcase, rfl⟩; refine O_n ?_
  rcases hcase with ⟨hne, _⟩ | ⟨_, s, A4, c4, rfl, rfl⟩
  · exact absurd hK00 hne
  have hnew : ∀ (K : RK), (K.b 2).length ≤ 1000 → ∀ (q s : Nat), ∀ {i : Nat}, ∀ q' s' n dn, some (q, s, ((scK K).1.length : Int), false) = some (q', s', n, dn) → 0 ≤ n ∧ n ≤ 10000 + (i : Int) := fun K hK q s i q' s' n dn h => by
    have h1 := scK_len K
    injection h with h
    injection h with _ h
    injection h with _ h
    injection h with h _
    omega
  repeat' (first | refine go ?_ | intro _ | (apply cG; first | refine cT ?_ | refine cF ?_ | refine cS (fun _ => ?_) fun _ => ?_) | (apply gW; refine sW ?_) | (apply gI; refine sI ?_) | (apply gE; refine sE ?_) | (apply gP; refine sP ?_) | (apply gC; refine sC ?_) | (apply gD; refine sD ?_) | fail)
  refine C_sub (S := dsk p d1 :: rdk r (openR K0 2 (scK K0).2).1 :: lgo p r (some (q, s, ((scK K0).1.length : Int), false)) :: rd eI (.slice Av li.length cv) li :: L) (Sub.trans (sub_dup (.tail _ (.tail _ (.tail _ (.tail _ (.tail _ (.tail _ hv))))))) (Sub.trans (B := cel q [.pointer (some ⟨p, 0, none⟩), .int .i64 2, .int .i64 ((scK K0).1.length : Int), .bool false] 59 :: cel s [.pointer (some ⟨r, 0, none⟩), .int .i64 2, .int .i64 ((scK K0).1.length : Int), .bool false] 44 :: dsk p d1 :: rdk r (openR K0 2 (scK K0).2).1 :: rd eI (.slice Av li.length cv) li :: L) Sb (Sub.trans lgo_in Sb))) ?_
  refine C_loopS (κ := Nat × DK × RK × Int × LGO) [false, false, false, false, true, false, false, false, true, false, true, true, false, true, true, true, true, true, true, true, true, true, false, false, false, false, false, false, false, false, false, false, false, false, false, false, false, false, false, false, false, false, false, true, true, true, true, true, true, true, true, true, true, true, true, true, true, true, true, true, true, true, true, true, true, true, true, true, true, true, true, true, true, true, true, true, true, true, true, true, true, true, true, true, true, true, true, true, true, true, true, true, true, true, true, true, true, true, true, true, true, true, true, true, true, true, true, true, true, true, true, true, true, true, true, true, true, true, true, true, true, true, true, true, true, true, true, true, true, true, true, true, true, true, true, true, true, true, true, true, true, true, true, true, true, true, true, true, true, true, true, true, true, true, true, true, true, true, true, true, true, true, true, true, true, true, true, true, true, true, true, true, true, true, true, true, true, true, true, true, true, true, true, true, true, true, true, true, true, true, true, true, true, true, true, true, true, false, false, false, false, false, false] (fun k => [(8, lvO k.2.2.2.2), (10, .int .i64 k.2.2.2.1), (11, rvO k.2.2.2.2), (13, .int .i64 k.2.2.2.1), (14, .int .i64 (k.1 : Int))]) (fun k => [(0, dsk p k.2.1), (1, rdk r k.2.2.1), (2, lgo p r k.2.2.2.2)]) (fun k => k.1 ≤ 14 ∧ JI k.2.1 k.2.2.1 k.2.2.2.2 k.1) (fun k => 14 - k.1) (0, d1, (openR K0 2 (scK K0).2).1, 0, some (q, s, ((scK K0).1.length : Int), false)) ⟨Nat.zero_le _, hR1, by rw [openR_room]; exact hK0r, hnew K0 hK0b q s⟩ ⟨rfl, rfl, rfl, rfl, rfl, trivial⟩ ?_
  rintro ⟨i, d, K, e, lg⟩ u ⟨hi, hJ⟩
  dsimp only at hi hJ
  dsimp only
  ((try dsimp only); refine C_n ?_; (try simp only [Nat.reduceAdd, Nat.zero_add]))
  by_cases hlt : i < li.length
  rotate_left
  · repeat' (first | refine go ?_ | intro _ | (apply cG; first | refine cT ?_ | refine cF ?_ | refine cS (fun _ => ?_) fun _ => ?_) | (apply gW; refine sW ?_) | (apply gI; refine sI ?_) | (apply gE; refine sE ?_) | (apply gP; refine sP ?_) | (apply gC; refine sC ?_) | (apply gD; refine sD ?_) | fail)
    refine O_d (dy_call ArgsI.pf (by first | exact rfl | trivial | (intro a b; rfl)) (lives_ct)) ?_; rintro _ _ ⟨_, ⟨rfl, hLL⟩, rfl⟩; replace hLL := hLL.symm; subst hLL; refine O_n ?_
    repeat' (first | refine go ?_ | intro _ | (apply cG; first | refine cT ?_ | refine cF ?_ | refine cS (fun _ => ?_) fun _ => ?_) | (apply gW; refine sW ?_) | (apply gI; refine sI ?_) | (apply gE; refine sE ?_) | (apply gP; refine sP ?_) | (apply gC; refine sC ?_) | (apply gD; refine sD ?_) | fail)
    refine E_res1 (by rfl) (by rfl) ⟨rfl, rfl⟩ Sb
  by_cases hlt14 : i < 14
  rotate_left
  · repeat' (first | refine go ?_ | intro _ | (apply cG; first | refine cT ?_ | refine cF ?_ | refine cS (fun _ => ?_) fun _ => ?_) | (apply gW; refine sW ?_) | (apply gI; refine sI ?_) | (apply gE; refine sE ?_) | (apply gP; refine sP ?_) | (apply gC; refine sC ?_) | (apply gD; refine sD ?_) | fail)
    refine O_d (dy_call ArgsI.pf (by first | exact rfl | trivial | (intro a b; rfl)) (lives_ct)) ?_; rintro _ _ ⟨_, ⟨rfl, hLL⟩, rfl⟩; replace hLL := hLL.symm; subst hLL; refine O_n ?_
    repeat' (first | refine go ?_ | intro _ | (apply cG; first | refine cT ?_ | refine cF ?_ | refine cS (fun _ => ?_) fun _ => ?_) | (apply gW; refine sW ?_) | (apply gI; refine sI ?_) | (apply gE; refine sE ?_) | (apply gP; refine sP ?_) | (apply gC; refine sC ?_) | (apply gD; refine sD ?_) | fail)
    refine E_res1 (by rfl) (by rfl) ⟨rfl, rfl⟩ Sb
  obtain ⟨y, hy⟩ : ∃ y, li[i]? = some y := ⟨_, List.getElem?_eq_getElem hlt⟩
  have hay : At li i y := ⟨hy⟩
  have hyr := hr y (List.mem_of_getElem? hy)
  have hBd : ∀ {d : DK} {K : RK}, Rel d K → K.room ≤ 1000 → (K.b 2).length ≤ 1000 := fun {d K} h hr => by
    have h1 := file_le_used (n := 2) d.files
    have h2' := h.ok.u
    have h3 := h.room
    rw [h.b h2]
    omega
  have hR := hJ.h
  have hJr := hJ.room
  have hJn := hJ.n
  have hk := hR.kok
  have hBJ := hBd hR hJr
  have hsr := around_in (n := y) (most := 8) (by decide)
  obtain ⟨files, room0, off, armed, left⟩ := d
  repeat' (first | refine go ?_ | intro _ | (apply cG; first | refine cT ?_ | refine cF ?_ | refine cS (fun _ => ?_) fun _ => ?_) | (apply gI; refine sI ?_) | (apply gE; refine sE ?_) | (apply gP; refine sP ?_) | (apply gC; refine sC ?_) | (apply gD; refine sD ?_) | fail)
  apply gW; refine sW (r := y.tdiv 8) ?_ ⟨by decide, wr_i64 (tdiv8 y hyr.1 hyr.2).1 (tdiv8 y hyr.1 hyr.2).2⟩
  repeat' (first | refine go ?_ | intro _ | (apply cG; first | refine cT ?_ | refine cF ?_ | refine cS (fun _ => ?_) fun _ => ?_) | (apply gW; refine sW ?_) | (apply gI; refine sI ?_) | (apply gE; refine sE ?_) | (apply gP; refine sP ?_) | (apply gC; refine sC ?_) | (apply gD; refine sD ?_) | fail)
  refine O_d (dy_call ArgsI.pf (by first | exact rfl | trivial | (intro a b; rfl)) (Around_ct (most := 1048576) (tdiv8 y hyr.1 hyr.2).1 (tdiv8 y hyr.1 hyr.2).2 (by decide) (by decide))) ?_; rintro _ _ ⟨_, ⟨rfl, hLL⟩, rfl⟩; replace hLL := hLL.symm; subst hLL; refine O_n ?_
  have hXr := around_in (n := y.tdiv 8) (most := 1048576) (by decide)
  obtain ⟨X, hX⟩ : ∃ X : Nat, around (y.tdiv 8) 1048576 = X := ⟨(around (y.tdiv 8) 1048576).toNat, by omega⟩
  rw [hX] at hXr ⊢
  have hkr1 : ∀ x ∈ [((X % 30 : Nat) : Int)], -9223372036854775808 ≤ x ∧ x ≤ 9223372036854775807 := fun x hx => by rw [List.mem_singleton.1 hx]; omega
  have hkr2 : ∀ x ∈ [(X : Int)], -9223372036854775808 ≤ x ∧ x ≤ 9223372036854775807 := fun x hx => by rw [List.mem_singleton.1 hx]; omega
  repeat' (first | ((fail_if_success apply AtE); refine go ?_) | intro _ | (apply cG; first | refine cT ?_ | refine cF ?_ | refine cS (fun _ => ?_) fun _ => ?_) | (apply gW; refine sW ?_) | (apply gI; refine sI ?_) | (apply gE; refine sE ?_) | (apply gP; refine sP ?_) | (apply gC; refine sC ?_) | (apply gD; refine sD ?_) | fail)
  refine go ?_; refine go ?_; refine C_join (κ := Unit) [false, false, false, false, false, false, false, false, false, false, false, false, false, false, false, false, false, false, false, false, false, false, false, false, false, false, false, false, false, false, false, false, false, false, false, false, false, false, false, false, false, false, false, false, false, false, false, false, false, false, false, false, false, false, false, false, false, false, false, true, true, true, true, true, true, true, true, true, true, false, false, false, false, false, false, false, false, false, false, false, false, false, false, false, false, false, false, false, false, false, false, false, false, false, false, false, false, false, false, false, false, false, false, false, false, false, false, false, false, false, false, false, false, false, false, false, false, false, false, false, false, false, false, false, false, false, false, false, false, false, false, false, false, false, false, false, false, false, false, false, false, false, false, false, false, false, false, false, false, false, false, false, false, false, false, false, false, false, false, false, false, false, false, false, false, false, false, false, false, false, false, false, false, false, false, false, false, false, false, false, false, false, false, false, false, false, false, false, false, false, false, false, false, false, false, false, false, false, false, false, false, false, false] (fun k => []) (fun k => []) (fun k => True) ?_ ?_
  · rcases lg with _ | ⟨q, s, n, dn⟩
    all_goals
      dsimp only [lvO, rvO]
      repeat' (first | refine go ?_ | intro _ | (apply cG; first | refine cT ?_ | refine cF ?_ | refine cS (fun _ => ?_) fun _ => ?_) | (apply gW; refine sW ?_) | (apply gI; refine sI ?_) | (apply gE; refine sE ?_) | (apply gP; refine sP ?_) | (apply gC; refine sC ?_) | (apply gD; refine sD ?_) | fail)
      exact E_join () trivial trivial Sb
  rintro ⟨⟩ u9 _
  ((try dsimp only); refine C_n ?_; (try simp only [Nat.reduceAdd, Nat.zero_add]))
  refine go ?_; refine C_join (κ := DK × RK × Int × LGO) [false, false, false, false, false, false, false, false, true, false, true, true, false, true, false, false, true, true, true, true, false, false, false, false, false, false, false, false, false, false, false, false, false, false, false, false, false, false, false, false, false, false, false, false, false, false, false, false, false, false, false, false, false, false, false, false, false, false, false, false, false, false, false, false, false, false, false, false, false, true, true, true, true, true, true, true, true, true, true, true, true, true, true, true, true, true, true, true, true, true, true, true, true, true, true, true, true, true, true, true, true, true, true, true, true, true, true, true, true, true, true, true, true, true, true, true, true, true, true, true, true, true, true, true, true, true, true, true, true, true, true, true, true, true, true, true, true, true, true, true, true, true, true, true, true, true, true, true, true, true, true, true, true, true, true, true, true, true, true, true, true, true, true, true, true, true, true, true, true, true, false, false, false, false, false, false, false, false, false, false, false, false, false, false, false, false, false, false, false, false, false, false, false, false, false, false, false, false, false, false, false, false, false] (fun k => [(8, lvO k.2.2.2), (10, .int .i64 k.2.2.1), (11, rvO k.2.2.2), (13, .int .i64 k.2.2.1)]) (fun k => [(0, dsk p k.1), (1, rdk r k.2.1), (2, lgo p r k.2.2.2)]) (fun k => JI k.1 k.2.1 k.2.2.2 (i + 1)) ?_ ?_
  · repeat' (first | refine go ?_ | intro _ | (apply cG; first | refine cT ?_ | refine cF ?_ | refine cS (fun _ => ?_) fun _ => ?_) | (apply gW; refine sW ?_) | (apply gI; refine sI ?_) | (apply gE; refine sE ?_) | (apply gP; refine sP ?_) | (apply gC; refine sC ?_) | (apply gD; refine sD ?_) | fail)
    refine O_d (dy_call ArgsI.pf (by first | exact rfl | trivial | (intro a b; rfl)) (Around_ct (most := 8) hyr.1 hyr.2 (by decide) (by decide))) ?_; rintro _ _ ⟨_, ⟨rfl, hLL⟩, rfl⟩; replace hLL := hLL.symm; subst hLL; refine O_n ?_
    obtain ⟨s8, hs8⟩ : ∃ s8, around y 8 = s8 := ⟨_, rfl⟩
    rw [hs8] at hsr ⊢
    by_cases h0 : s8 = 0
    · subst h0
      cases off
      · repeat' (first | refine go ?_ | intro _ | (apply cG; first | refine cT ?_ | refine cF ?_ | refine cS (fun _ => ?_) fun _ => ?_) | (apply gI; refine sI ?_) | (apply gE; refine sE ?_) | (apply gP; refine sP ?_) | (apply gC; refine sC ?_) | (apply gD; refine sD ?_) | fail)
        apply gW; refine sW (r := ((X % 5 : Nat) : Int)) ?_ ⟨by decide, rfl⟩
        repeat' (first | refine go ?_ | intro _ | (apply cG; first | refine cT ?_ | refine cF ?_ | refine cS (fun _ => ?_) fun _ => ?_) | (apply gW; refine sW ?_) | (apply gI; refine sI ?_) | (apply gE; refine sE ?_) | (apply gP; refine sP ?_) | (apply gC; refine sC ?_) | (apply gD; refine sD ?_) | fail)
        refine O_d (dy_call ArgsI.pf (by first | exact rfl | trivial | (intro a b; rfl)) (CT.pull (i := 0) (by rfl) (dArm_ct (n := ((X % 5 : Nat) : Int))))) ?_; rintro _ _ ⟨_, ⟨rfl, rfl⟩, rfl⟩; refine O_n ?_
        have hRa := hR.armd rfl (n := ((X % 5 : Nat) : Int)) (by omega) (by omega)
        repeat' (first | refine go ?_ | intro _ | (apply cG; first | refine cT ?_ | refine cF ?_ | refine cS (fun _ => ?_) fun _ => ?_) | (apply gI; refine sI ?_) | (apply gE; refine sE ?_) | (apply gP; refine sP ?_) | (apply gC; refine sC ?_) | (apply gD; refine sD ?_) | fail)
        apply gW; refine sW (r := ((X % 5 : Nat) : Int)) ?_ ⟨by decide, rfl⟩
        repeat' (first | refine go ?_ | intro _ | (apply cG; first | refine cT ?_ | refine cF ?_ | refine cS (fun _ => ?_) fun _ => ?_) | (apply gW; refine sW ?_) | (apply gI; refine sI ?_) | (apply gE; refine sE ?_) | (apply gP; refine sP ?_) | (apply gC; refine sC ?_) | (apply gD; refine sD ?_) | fail)
        refine O_d (dy_call ArgsI.pf (by first | exact rfl | trivial | (intro a b; rfl)) (CT.pull (i := 1) (by rfl) (rArm_ct (K := K) (n := ((X % 5 : Nat) : Int))))) ?_; rintro _ _ ⟨_, ⟨rfl, rfl⟩, rfl⟩; refine O_n ?_
        repeat' (first | refine go ?_ | intro _ | (apply cG; first | refine cT ?_ | refine cF ?_ | refine cS (fun _ => ?_) fun _ => ?_) | (apply gW; refine sW ?_) | (apply gI; refine sI ?_) | (apply gE; refine sE ?_) | (apply gP; refine sP ?_) | (apply gC; refine sC ?_) | (apply gD; refine sD ?_) | fail)
        exact E_join (_, armR K ((X % 5 : Nat) : Int), e, lg) (⟨hRa, by rw [armR_room]; exact hJr, fun q s n dn h => by have := hJn q s n dn h; omega⟩) ⟨rfl, rfl, rfl, rfl, trivial⟩ (Sb)
      · repeat' (first | refine go ?_ | intro _ | (apply cG; first | refine cT ?_ | refine cF ?_ | refine cS (fun _ => ?_) fun _ => ?_) | (apply gI; refine sI ?_) | (apply gE; refine sE ?_) | (apply gP; refine sP ?_) | (apply gC; refine sC ?_) | (apply gD; refine sD ?_) | fail)
        apply gW; refine sW (r := ((X % 5 : Nat) : Int)) ?_ ⟨by decide, rfl⟩
        repeat' (first | refine go ?_ | intro _ | (apply cG; first | refine cT ?_ | refine cF ?_ | refine cS (fun _ => ?_) fun _ => ?_) | (apply gW; refine sW ?_) | (apply gI; refine sI ?_) | (apply gE; refine sE ?_) | (apply gP; refine sP ?_) | (apply gC; refine sC ?_) | (apply gD; refine sD ?_) | fail)
        refine O_d (dy_call ArgsI.pf (by first | exact rfl | trivial | (intro a b; rfl)) (CT.pull (i := 0) (by rfl) (dArm_offJ (n := ((X % 5 : Nat) : Int))))) ?_; rintro _ _ ⟨_, ⟨rfl, rfl⟩, rfl⟩; refine O_n ?_
        have hRa : Rel ⟨files, room0, true, armed, left⟩ (armR K ((X % 5 : Nat) : Int)) := by unfold armR; rw [if_pos hR.off]; exact hR
        repeat' (first | refine go ?_ | intro _ | (apply cG; first | refine cT ?_ | refine cF ?_ | refine cS (fun _ => ?_) fun _ => ?_) | (apply gI; refine sI ?_) | (apply gE; refine sE ?_) | (apply gP; refine sP ?_) | (apply gC; refine sC ?_) | (apply gD; refine sD ?_) | fail)
        apply gW; refine sW (r := ((X % 5 : Nat) : Int)) ?_ ⟨by decide, rfl⟩
        repeat' (first | refine go ?_ | intro _ | (apply cG; first | refine cT ?_ | refine cF ?_ | refine cS (fun _ => ?_) fun _ => ?_) | (apply gW; refine sW ?_) | (apply gI; refine sI ?_) | (apply gE; refine sE ?_) | (apply gP; refine sP ?_) | (apply gC; refine sC ?_) | (apply gD; refine sD ?_) | fail)
        refine O_d (dy_call ArgsI.pf (by first | exact rfl | trivial | (intro a b; rfl)) (CT.pull (i := 1) (by rfl) (rArm_ct (K := K) (n := ((X % 5 : Nat) : Int))))) ?_; rintro _ _ ⟨_, ⟨rfl, rfl⟩, rfl⟩; refine O_n ?_
        repeat' (first | refine go ?_ | intro _ | (apply cG; first | refine cT ?_ | refine cF ?_ | refine cS (fun _ => ?_) fun _ => ?_) | (apply gW; refine sW ?_) | (apply gI; refine sI ?_) | (apply gE; refine sE ?_) | (apply gP; refine sP ?_) | (apply gC; refine sC ?_) | (apply gD; refine sD ?_) | fail)
        exact E_join (_, armR K ((X % 5 : Nat) : Int), e, lg) (⟨hRa, by rw [armR_room]; exact hJr, fun q s n dn h => by have := hJn q s n dn h; omega⟩) ⟨rfl, rfl, rfl, rfl, trivial⟩ (Sb)
    by_cases h12 : s8 = 1 ∨ s8 = 2
    · rcases h12 with h12 | h12
      · subst h12
        repeat' (first | refine go ?_ | intro _ | (apply cG; first | refine cT ?_ | refine cF ?_ | refine cS (fun _ => ?_) fun _ => ?_) | (apply gI; refine sI ?_) | (apply gE; refine sE ?_) | (apply gP; refine sP ?_) | (apply gC; refine sC ?_) | (apply gD; refine sD ?_) | fail)
        apply gW; refine sW (r := ((X % 30 : Nat) : Int)) ?_ ⟨by decide, rfl⟩
        repeat' (first | refine go ?_ | intro _ | (apply cG; first | refine cT ?_ | refine cF ?_ | refine cS (fun _ => ?_) fun _ => ?_) | (apply gW; refine sW ?_) | (apply gI; refine sI ?_) | (apply gE; refine sE ?_) | (apply gP; refine sP ?_) | (apply gC; refine sC ?_) | (apply gD; refine sD ?_) | fail)
        refine O_d (dy_litP (f := iv) (hf := fun _ => rfl) [((X % 30 : Nat) : Int)] (by rfl)) ?_; rintro _ _ ⟨_, rfl, rfl⟩; refine O_n ?_
        refine O_frz 0 ?_
        rename_i g
        repeat' (first | refine go ?_ | intro _ | (apply cG; first | refine cT ?_ | refine cF ?_ | refine cS (fun _ => ?_) fun _ => ?_) | (apply gI; refine sI ?_) | (apply gE; refine sE ?_) | (apply gP; refine sP ?_) | (apply gC; refine sC ?_) | (apply gD; refine sD ?_) | fail)
        apply gW; refine sW (r := ((X / 30 : Nat) : Int)) ?_ ⟨by decide, by show IntKind.i64.wrap ((X / 30 : Nat) : Int) = ((X / 30 : Nat) : Int); exact wr_i64 (by omega) (by omega)⟩
        repeat' (first | refine go ?_ | intro _ | (apply cG; first | refine cT ?_ | refine cF ?_ | refine cS (fun _ => ?_) fun _ => ?_) | (apply gI; refine sI ?_) | (apply gE; refine sE ?_) | (apply gP; refine sP ?_) | (apply gC; refine sC ?_) | (apply gD; refine sD ?_) | fail)
        apply gW; refine sW (r := (((X / 30) % 300 : Nat) : Int)) ?_ ⟨by decide, rfl⟩
        repeat' (first | refine go ?_ | intro _ | (apply cG; first | refine cT ?_ | refine cF ?_ | refine cS (fun _ => ?_) fun _ => ?_) | (apply gI; refine sI ?_) | (apply gE; refine sE ?_) | (apply gP; refine sP ?_) | (apply gC; refine sC ?_) | (apply gD; refine sD ?_) | fail)
        apply gW; refine sW (r := (((X / 30 % 300) : Nat) : Int) - 100) ?_ (wr_i64 (by omega) (by omega))
        repeat' (first | refine go ?_ | intro _ | (apply cG; first | refine cT ?_ | refine cF ?_ | refine cS (fun _ => ?_) fun _ => ?_) | (apply gW; refine sW ?_) | (apply gI; refine sI ?_) | (apply gE; refine sE ?_) | (apply gP; refine sP ?_) | (apply gC; refine sC ?_) | (apply gD; refine sD ?_) | fail)
        refine O_sub (S := dsk p ⟨files, room0, off, armed, left⟩ :: rd eI (.slice (some ⟨g, 0, none⟩) 1 1) [((X % 30 : Nat) : Int)] :: rdk r K :: lgo p r (lg) :: rd eI (.slice Av li.length cv) li :: L) Sb ?_
        refine O_d (dy_call ArgsI.pf (by first | exact rfl | trivial | (intro a b; rfl)) (Crash_ct (kp := [((X % 30 : Nat) : Int)]) (z := ((X / 30 % 300 : Nat) : Int) - 100) hR.ok hR.lenJ (.head _) (by show 1 ≤ 1000000000; decide) hkr1 (by omega) (by omega))) ?_; rintro _ _ ⟨_, ⟨ys, F, hp, hs, hc, hok2, rfl, rfl⟩, rfl⟩; refine O_n ?_
        have hR2 := hR.crash hp hs hc hok2
        obtain ⟨K2, hK2⟩ : ∃ K2, crashR K [((X % 30 : Nat) : Int)] (((X / 30 % 300 : Nat) : Int) - 100) = K2 := ⟨_, rfl⟩
        have hK2o : K2.off = false := by rw [← hK2]; rfl
        have hK2r : K2.room ≤ 1000 := by rw [← hK2]; exact hJr
        rw [hK2] at hR2
        repeat' (first | refine go ?_ | intro _ | (apply cG; first | refine cT ?_ | refine cF ?_ | refine cS (fun _ => ?_) fun _ => ?_) | (apply gI; refine sI ?_) | (apply gE; refine sE ?_) | (apply gP; refine sP ?_) | (apply gC; refine sC ?_) | (apply gD; refine sD ?_) | fail)
        apply gW; refine sW (r := ((X / 30 : Nat) : Int)) ?_ ⟨by decide, by show IntKind.i64.wrap ((X / 30 : Nat) : Int) = ((X / 30 : Nat) : Int); exact wr_i64 (by omega) (by omega)⟩
        repeat' (first | refine go ?_ | intro _ | (apply cG; first | refine cT ?_ | refine cF ?_ | refine cS (fun _ => ?_) fun _ => ?_) | (apply gI; refine sI ?_) | (apply gE; refine sE ?_) | (apply gP; refine sP ?_) | (apply gC; refine sC ?_) | (apply gD; refine sD ?_) | fail)
        apply gW; refine sW (r := (((X / 30) % 300 : Nat) : Int)) ?_ ⟨by decide, rfl⟩
        repeat' (first | refine go ?_ | intro _ | (apply cG; first | refine cT ?_ | refine cF ?_ | refine cS (fun _ => ?_) fun _ => ?_) | (apply gI; refine sI ?_) | (apply gE; refine sE ?_) | (apply gP; refine sP ?_) | (apply gC; refine sC ?_) | (apply gD; refine sD ?_) | fail)
        apply gW; refine sW (r := (((X / 30 % 300) : Nat) : Int) - 100) ?_ (wr_i64 (by omega) (by omega))
        repeat' (first | refine go ?_ | intro _ | (apply cG; first | refine cT ?_ | refine cF ?_ | refine cS (fun _ => ?_) fun _ => ?_) | (apply gW; refine sW ?_) | (apply gI; refine sI ?_) | (apply gE; refine sE ?_) | (apply gP; refine sP ?_) | (apply gC; refine sC ?_) | (apply gD; refine sD ?_) | fail)
        refine O_d (dy_call ArgsI.pf (by first | exact rfl | trivial | (intro a b; rfl)) (CT.pull (i := 2) (by rfl) (rCrash_ct (kp := [((X % 30 : Nat) : Int)]) (z := ((X / 30 % 300 : Nat) : Int) - 100) hk (.tail _ (.head _)) (by show 1 ≤ 1000000000; decide) hkr1 (by omega) (by omega)))) ?_; rintro _ _ ⟨_, ⟨rfl, rfl⟩, rfl⟩; refine O_n ?_
        rw [hK2]
        have hB2 := hBd hR2 hK2r
        repeat' (first | refine go ?_ | intro _ | (apply cG; first | refine cT ?_ | refine cF ?_ | refine cS (fun _ => ?_) fun _ => ?_) | (apply gW; refine sW ?_) | (apply gI; refine sI ?_) | (apply gE; refine sE ?_) | (apply gP; refine sP ?_) | (apply gC; refine sC ?_) | (apply gD; refine sD ?_) | fail)
        refine O_d (dy_call ArgsI.pf (by first | exact rfl | trivial | (intro a b; rfl)) (CT.pull (i := 1) (by rfl) (pOpen_ct hR2 hB2 rfl))) ?_; rintro _ _ ⟨_, ⟨d3, hR3, hcase⟩, rfl⟩; refine O_n ?_
        rcases hcase with ⟨hne, rfl, rfl⟩ | ⟨he0, q3, A3, c3, rfl, rfl⟩
        · repeat' (first | refine go ?_ | intro _ | (apply cG; first | refine cT ?_ | refine cF ?_ | refine cS (fun _ => ?_) fun _ => ?_) | (apply gW; refine sW ?_) | (apply gI; refine sI ?_) | (apply gE; refine sE ?_) | (apply gP; refine sP ?_) | (apply gC; refine sC ?_) | (apply gD; refine sD ?_) | fail)
          refine O_d (dy_call ArgsI.pf (by first | exact rfl | trivial | (intro a b; rfl)) (CT.pull (i := 1) (by rfl) (qOpen_ct hR2 hB2 hK2o))) ?_; rintro _ _ ⟨_, hcase, rfl⟩; refine O_n ?_
          rcases hcase with ⟨_, rfl, rfl⟩ | ⟨he0, _⟩
          rotate_left
          · exact absurd he0 hne
          repeat' (first | refine go ?_ | intro _ | (apply cG; first | refine cT ?_ | refine cF ?_ | refine cS (fun _ => ?_) fun _ => ?_) | (apply gW; refine sW ?_) | (apply gI; refine sI ?_) | (apply gE; refine sE ?_) | (apply gP; refine sP ?_) | (apply gC; refine sC ?_) | (apply gD; refine sD ?_) | fail)
          exact E_join (d3, _, _, none) (⟨hR3, by rw [openR_room]; exact hK2r, fun q s n dn h => by cases h⟩) ⟨rfl, rfl, rfl, rfl, trivial⟩ (Sub.trans lgo_nil Sb)
        · repeat' (first | refine go ?_ | intro _ | (apply cG; first | refine cT ?_ | refine cF ?_ | refine cS (fun _ => ?_) fun _ => ?_) | (apply gW; refine sW ?_) | (apply gI; refine sI ?_) | (apply gE; refine sE ?_) | (apply gP; refine sP ?_) | (apply gC; refine sC ?_) | (apply gD; refine sD ?_) | fail)
          refine O_d (dy_call ArgsI.pf (by first | exact rfl | trivial | (intro a b; rfl)) (CT.pull (i := 3) (by rfl) (qOpen_ct hR2 hB2 hK2o))) ?_; rintro _ _ ⟨_, hcase, rfl⟩; refine O_n ?_
          rcases hcase with ⟨hne, _⟩ | ⟨_, s3, A4, c4, rfl, rfl⟩
          · exact absurd he0 hne
          repeat' (first | refine go ?_ | intro _ | (apply cG; first | refine cT ?_ | refine cF ?_ | refine cS (fun _ => ?_) fun _ => ?_) | (apply gW; refine sW ?_) | (apply gI; refine sI ?_) | (apply gE; refine sE ?_) | (apply gP; refine sP ?_) | (apply gC; refine sC ?_) | (apply gD; refine sD ?_) | fail)
          exact E_join (d3, _, 0, some (q3, s3, ((scK K2).1.length : Int), false)) (⟨hR3, by rw [openR_room]; exact hK2r, hnew K2 hB2 q3 s3⟩) ⟨rfl, rfl, rfl, rfl, trivial⟩ (Sub.trans (B := cel q3 [.pointer (some ⟨p, 0, none⟩), .int .i64 2, .int .i64 ((scK K2).1.length : Int), .bool false] 59 :: cel s3 [.pointer (some ⟨r, 0, none⟩), .int .i64 2, .int .i64 ((scK K2).1.length : Int), .bool false] 44 :: dsk p d3 :: rdk r (openR K2 2 (scK K2).2).1 :: rd eI (.slice Av li.length cv) li :: L) Sb (Sub.trans lgo_in Sb))
      · subst h12
        repeat' (first | refine go ?_ | intro _ | (apply cG; first | refine cT ?_ | refine cF ?_ | refine cS (fun _ => ?_) fun _ => ?_) | (apply gI; refine sI ?_) | (apply gE; refine sE ?_) | (apply gP; refine sP ?_) | (apply gC; refine sC ?_) | (apply gD; refine sD ?_) | fail)
        apply gW; refine sW (r := ((X % 30 : Nat) : Int)) ?_ ⟨by decide, rfl⟩
        repeat' (first | refine go ?_ | intro _ | (apply cG; first | refine cT ?_ | refine cF ?_ | refine cS (fun _ => ?_) fun _ => ?_) | (apply gW; refine sW ?_) | (apply gI; refine sI ?_) | (apply gE; refine sE ?_) | (apply gP; refine sP ?_) | (apply gC; refine sC ?_) | (apply gD; refine sD ?_) | fail)
        refine O_d (dy_litP (f := iv) (hf := fun _ => rfl) [((X % 30 : Nat) : Int)] (by rfl)) ?_; rintro _ _ ⟨_, rfl, rfl⟩; refine O_n ?_
        refine O_frz 0 ?_
        rename_i g
        repeat' (first | refine go ?_ | intro _ | (apply cG; first | refine cT ?_ | refine cF ?_ | refine cS (fun _ => ?_) fun _ => ?_) | (apply gI; refine sI ?_) | (apply gE; refine sE ?_) | (apply gP; refine sP ?_) | (apply gC; refine sC ?_) | (apply gD; refine sD ?_) | fail)
        apply gW; refine sW (r := ((X / 30 : Nat) : Int)) ?_ ⟨by decide, by show IntKind.i64.wrap ((X / 30 : Nat) : Int) = ((X / 30 : Nat) : Int); exact wr_i64 (by omega) (by omega)⟩
        repeat' (first | refine go ?_ | intro _ | (apply cG; first | refine cT ?_ | refine cF ?_ | refine cS (fun _ => ?_) fun _ => ?_) | (apply gI; refine sI ?_) | (apply gE; refine sE ?_) | (apply gP; refine sP ?_) | (apply gC; refine sC ?_) | (apply gD; refine sD ?_) | fail)
        apply gW; refine sW (r := (((X / 30) % 300 : Nat) : Int)) ?_ ⟨by decide, rfl⟩
        repeat' (first | refine go ?_ | intro _ | (apply cG; first | refine cT ?_ | refine cF ?_ | refine cS (fun _ => ?_) fun _ => ?_) | (apply gI; refine sI ?_) | (apply gE; refine sE ?_) | (apply gP; refine sP ?_) | (apply gC; refine sC ?_) | (apply gD; refine sD ?_) | fail)
        apply gW; refine sW (r := (((X / 30 % 300) : Nat) : Int) - 100) ?_ (wr_i64 (by omega) (by omega))
        repeat' (first | refine go ?_ | intro _ | (apply cG; first | refine cT ?_ | refine cF ?_ | refine cS (fun _ => ?_) fun _ => ?_) | (apply gW; refine sW ?_) | (apply gI; refine sI ?_) | (apply gE; refine sE ?_) | (apply gP; refine sP ?_) | (apply gC; refine sC ?_) | (apply gD; refine sD ?_) | fail)
        refine O_sub (S := dsk p ⟨files, room0, off, armed, left⟩ :: rd eI (.slice (some ⟨g, 0, none⟩) 1 1) [((X % 30 : Nat) : Int)] :: rdk r K :: lgo p r (lg) :: rd eI (.slice Av li.length cv) li :: L) Sb ?_
        refine O_d (dy_call ArgsI.pf (by first | exact rfl | trivial | (intro a b; rfl)) (Crash_ct (kp := [((X % 30 : Nat) : Int)]) (z := ((X / 30 % 300 : Nat) : Int) - 100) hR.ok hR.lenJ (.head _) (by show 1 ≤ 1000000000; decide) hkr1 (by omega) (by omega))) ?_; rintro _ _ ⟨_, ⟨ys, F, hp, hs, hc, hok2, rfl, rfl⟩, rfl⟩; refine O_n ?_
        have hR2 := hR.crash hp hs hc hok2
        obtain ⟨K2, hK2⟩ : ∃ K2, crashR K [((X % 30 : Nat) : Int)] (((X / 30 % 300 : Nat) : Int) - 100) = K2 := ⟨_, rfl⟩
        have hK2o : K2.off = false := by rw [← hK2]; rfl
        have hK2r : K2.room ≤ 1000 := by rw [← hK2]; exact hJr
        rw [hK2] at hR2
        repeat' (first | refine go ?_ | intro _ | (apply cG; first | refine cT ?_ | refine cF ?_ | refine cS (fun _ => ?_) fun _ => ?_) | (apply gI; refine sI ?_) | (apply gE; refine sE ?_) | (apply gP; refine sP ?_) | (apply gC; refine sC ?_) | (apply gD; refine sD ?_) | fail)
        apply gW; refine sW (r := ((X / 30 : Nat) : Int)) ?_ ⟨by decide, by show IntKind.i64.wrap ((X / 30 : Nat) : Int) = ((X / 30 : Nat) : Int); exact wr_i64 (by omega) (by omega)⟩
        repeat' (first | refine go ?_ | intro _ | (apply cG; first | refine cT ?_ | refine cF ?_ | refine cS (fun _ => ?_) fun _ => ?_) | (apply gI; refine sI ?_) | (apply gE; refine sE ?_) | (apply gP; refine sP ?_) | (apply gC; refine sC ?_) | (apply gD; refine sD ?_) | fail)
        apply gW; refine sW (r := (((X / 30) % 300 : Nat) : Int)) ?_ ⟨by decide, rfl⟩
        repeat' (first | refine go ?_ | intro _ | (apply cG; first | refine cT ?_ | refine cF ?_ | refine cS (fun _ => ?_) fun _ => ?_) | (apply gI; refine sI ?_) | (apply gE; refine sE ?_) | (apply gP; refine sP ?_) | (apply gC; refine sC ?_) | (apply gD; refine sD ?_) | fail)
        apply gW; refine sW (r := (((X / 30 % 300) : Nat) : Int) - 100) ?_ (wr_i64 (by omega) (by omega))
        repeat' (first | refine go ?_ | intro _ | (apply cG; first | refine cT ?_ | refine cF ?_ | refine cS (fun _ => ?_) fun _ => ?_) | (apply gW; refine sW ?_) | (apply gI; refine sI ?_) | (apply gE; refine sE ?_) | (apply gP; refine sP ?_) | (apply gC; refine sC ?_) | (apply gD; refine sD ?_) | fail)
        refine O_d (dy_call ArgsI.pf (by first | exact rfl | trivial | (intro a b; rfl)) (CT.pull (i := 2) (by rfl) (rCrash_ct (kp := [((X % 30 : Nat) : Int)]) (z := ((X / 30 % 300 : Nat) : Int) - 100) hk (.tail _ (.head _)) (by show 1 ≤ 1000000000; decide) hkr1 (by omega) (by omega)))) ?_; rintro _ _ ⟨_, ⟨rfl, rfl⟩, rfl⟩; refine O_n ?_
        rw [hK2]
        have hB2 := hBd hR2 hK2r
        repeat' (first | refine go ?_ | intro _ | (apply cG; first | refine cT ?_ | refine cF ?_ | refine cS (fun _ => ?_) fun _ => ?_) | (apply gW; refine sW ?_) | (apply gI; refine sI ?_) | (apply gE; refine sE ?_) | (apply gP; refine sP ?_) | (apply gC; refine sC ?_) | (apply gD; refine sD ?_) | fail)
        refine O_d (dy_call ArgsI.pf (by first | exact rfl | trivial | (intro a b; rfl)) (CT.pull (i := 1) (by rfl) (pOpen_ct hR2 hB2 rfl))) ?_; rintro _ _ ⟨_, ⟨d3, hR3, hcase⟩, rfl⟩; refine O_n ?_
        rcases hcase with ⟨hne, rfl, rfl⟩ | ⟨he0, q3, A3, c3, rfl, rfl⟩
        · repeat' (first | refine go ?_ | intro _ | (apply cG; first | refine cT ?_ | refine cF ?_ | refine cS (fun _ => ?_) fun _ => ?_) | (apply gW; refine sW ?_) | (apply gI; refine sI ?_) | (apply gE; refine sE ?_) | (apply gP; refine sP ?_) | (apply gC; refine sC ?_) | (apply gD; refine sD ?_) | fail)
          refine O_d (dy_call ArgsI.pf (by first | exact rfl | trivial | (intro a b; rfl)) (CT.pull (i := 1) (by rfl) (qOpen_ct hR2 hB2 hK2o))) ?_; rintro _ _ ⟨_, hcase, rfl⟩; refine O_n ?_
          rcases hcase with ⟨_, rfl, rfl⟩ | ⟨he0, _⟩
          rotate_left
          · exact absurd he0 hne
          repeat' (first | refine go ?_ | intro _ | (apply cG; first | refine cT ?_ | refine cF ?_ | refine cS (fun _ => ?_) fun _ => ?_) | (apply gW; refine sW ?_) | (apply gI; refine sI ?_) | (apply gE; refine sE ?_) | (apply gP; refine sP ?_) | (apply gC; refine sC ?_) | (apply gD; refine sD ?_) | fail)
          exact E_join (d3, _, _, none) (⟨hR3, by rw [openR_room]; exact hK2r, fun q s n dn h => by cases h⟩) ⟨rfl, rfl, rfl, rfl, trivial⟩ (Sub.trans lgo_nil Sb)
        · repeat' (first | refine go ?_ | intro _ | (apply cG; first | refine cT ?_ | refine cF ?_ | refine cS (fun _ => ?_) fun _ => ?_) | (apply gW; refine sW ?_) | (apply gI; refine sI ?_) | (apply gE; refine sE ?_) | (apply gP; refine sP ?_) | (apply gC; refine sC ?_) | (apply gD; refine sD ?_) | fail)
          refine O_d (dy_call ArgsI.pf (by first | exact rfl | trivial | (intro a b; rfl)) (CT.pull (i := 3) (by rfl) (qOpen_ct hR2 hB2 hK2o))) ?_; rintro _ _ ⟨_, hcase, rfl⟩; refine O_n ?_
          rcases hcase with ⟨hne, _⟩ | ⟨_, s3, A4, c4, rfl, rfl⟩
          · exact absurd he0 hne
          repeat' (first | refine go ?_ | intro _ | (apply cG; first | refine cT ?_ | refine cF ?_ | refine cS (fun _ => ?_) fun _ => ?_) | (apply gW; refine sW ?_) | (apply gI; refine sI ?_) | (apply gE; refine sE ?_) | (apply gP; refine sP ?_) | (apply gC; refine sC ?_) | (apply gD; refine sD ?_) | fail)
          exact E_join (d3, _, 0, some (q3, s3, ((scK K2).1.length : Int), false)) (⟨hR3, by rw [openR_room]; exact hK2r, hnew K2 hB2 q3 s3⟩) ⟨rfl, rfl, rfl, rfl, trivial⟩ (Sub.trans (B := cel q3 [.pointer (some ⟨p, 0, none⟩), .int .i64 2, .int .i64 ((scK K2).1.length : Int), .bool false] 59 :: cel s3 [.pointer (some ⟨r, 0, none⟩), .int .i64 2, .int .i64 ((scK K2).1.length : Int), .bool false] 44 :: dsk p d3 :: rdk r (openR K2 2 (scK K2).2).1 :: rd eI (.slice Av li.length cv) li :: L) Sb (Sub.trans lgo_in Sb))
    by_cases h3 : s8 = 3
    · subst h3
      cases off
      rotate_left
      · repeat' (first | refine go ?_ | intro _ | (apply cG; first | refine cT ?_ | refine cF ?_ | refine cS (fun _ => ?_) fun _ => ?_) | (apply gW; refine sW ?_) | (apply gI; refine sI ?_) | (apply gE; refine sE ?_) | (apply gP; refine sP ?_) | (apply gC; refine sC ?_) | (apply gD; refine sD ?_) | fail)
        refine O_d (dy_call ArgsI.pf (by first | exact rfl | trivial | (intro a b; rfl)) (CT.pull (i := 0) (by rfl) (Open_no (e := 21) (.inr ⟨h2, rfl, rfl⟩)))) ?_; rintro _ _ ⟨_, ⟨rfl, rfl⟩, rfl⟩; refine O_n ?_
        repeat' (first | refine go ?_ | intro _ | (apply cG; first | refine cT ?_ | refine cF ?_ | refine cS (fun _ => ?_) fun _ => ?_) | (apply gW; refine sW ?_) | (apply gI; refine sI ?_) | (apply gE; refine sE ?_) | (apply gP; refine sP ?_) | (apply gC; refine sC ?_) | (apply gD; refine sD ?_) | fail)
        refine O_d (dy_call ArgsI.pf (by first | exact rfl | trivial | (intro a b; rfl)) (CT.pull (i := 1) (by rfl) (rOpen_off hR.off))) ?_; rintro _ _ ⟨_, ⟨rfl, rfl⟩, rfl⟩; refine O_n ?_
        repeat' (first | refine go ?_ | intro _ | (apply cG; first | refine cT ?_ | refine cF ?_ | refine cS (fun _ => ?_) fun _ => ?_) | (apply gW; refine sW ?_) | (apply gI; refine sI ?_) | (apply gE; refine sE ?_) | (apply gP; refine sP ?_) | (apply gC; refine sC ?_) | (apply gD; refine sD ?_) | fail)
        refine O_sub (S := rd (eSl eB) (.slice none 0 0) [] :: dsk p ⟨files, room0, true, armed, left⟩ :: rdk r K :: rd eI (.slice Av li.length cv) li :: L) (Sub.trans sub_rdnil Sb) ?_
        refine O_d (dy_call ArgsI.pf (by first | exact rfl | trivial | (intro a b; rfl)) (SameLists_ct (la := []) (lb := []) (q := true) (.head _) (.head _) (Nat.zero_le _) (Nat.zero_le _) (fun x hx => by cases hx) (fun x hx => by cases hx) (decide_eq_true rfl))) ?_; rintro _ _ ⟨_, ⟨rfl, hLL⟩, rfl⟩; replace hLL := hLL.symm; subst hLL; refine O_n ?_
        repeat' (first | refine go ?_ | intro _ | (apply cG; first | refine cT ?_ | refine cF ?_ | refine cS (fun _ => ?_) fun _ => ?_) | (apply gW; refine sW ?_) | (apply gI; refine sI ?_) | (apply gE; refine sE ?_) | (apply gP; refine sP ?_) | (apply gC; refine sC ?_) | (apply gD; refine sD ?_) | fail)
        exact E_join (⟨files, room0, true, armed, left⟩, K, 21, none) (⟨hR, hJr, fun q s n dn h => by cases h⟩) ⟨rfl, rfl, rfl, rfl, trivial⟩ (Sub.trans lgo_nil Sb)
      · repeat' (first | refine go ?_ | intro _ | (apply cG; first | refine cT ?_ | refine cF ?_ | refine cS (fun _ => ?_) fun _ => ?_) | (apply gW; refine sW ?_) | (apply gI; refine sI ?_) | (apply gE; refine sE ?_) | (apply gP; refine sP ?_) | (apply gC; refine sC ?_) | (apply gD; refine sD ?_) | fail)
        refine O_d (dy_call ArgsI.pf (by first | exact rfl | trivial | (intro a b; rfl)) (CT.pull (i := 0) (by rfl) (pOpen_ct hR hBJ rfl))) ?_; rintro _ _ ⟨_, ⟨d3, hR3, hcase⟩, rfl⟩; refine O_n ?_
        rcases hcase with ⟨hne, rfl, rfl⟩ | ⟨he0, q3, A3, c3, rfl, rfl⟩
        · repeat' (first | refine go ?_ | intro _ | (apply cG; first | refine cT ?_ | refine cF ?_ | refine cS (fun _ => ?_) fun _ => ?_) | (apply gW; refine sW ?_) | (apply gI; refine sI ?_) | (apply gE; refine sE ?_) | (apply gP; refine sP ?_) | (apply gC; refine sC ?_) | (apply gD; refine sD ?_) | fail)
          refine O_d (dy_call ArgsI.pf (by first | exact rfl | trivial | (intro a b; rfl)) (CT.pull (i := 1) (by rfl) (qOpen_ct hR hBJ hR.off))) ?_; rintro _ _ ⟨_, hcase, rfl⟩; refine O_n ?_
          rcases hcase with ⟨_, rfl, rfl⟩ | ⟨he0, _⟩
          rotate_left
          · exact absurd he0 hne
          repeat' (first | refine go ?_ | intro _ | (apply cG; first | refine cT ?_ | refine cF ?_ | refine cS (fun _ => ?_) fun _ => ?_) | (apply gW; refine sW ?_) | (apply gI; refine sI ?_) | (apply gE; refine sE ?_) | (apply gP; refine sP ?_) | (apply gC; refine sC ?_) | (apply gD; refine sD ?_) | fail)
          refine O_sub (S := rd (eSl eB) (.slice none 0 0) [] :: dsk p d3 :: rdk r (openR K 2 (scK K).2).1 :: rd eI (.slice Av li.length cv) li :: L) (Sub.trans sub_rdnil Sb) ?_
          refine O_d (dy_call ArgsI.pf (by first | exact rfl | trivial | (intro a b; rfl)) (SameLists_ct (la := []) (lb := []) (q := true) (.head _) (.head _) (Nat.zero_le _) (Nat.zero_le _) (fun x hx => by cases hx) (fun x hx => by cases hx) (decide_eq_true rfl))) ?_; rintro _ _ ⟨_, ⟨rfl, hLL⟩, rfl⟩; replace hLL := hLL.symm; subst hLL; refine O_n ?_
          repeat' (first | refine go ?_ | intro _ | (apply cG; first | refine cT ?_ | refine cF ?_ | refine cS (fun _ => ?_) fun _ => ?_) | (apply gW; refine sW ?_) | (apply gI; refine sI ?_) | (apply gE; refine sE ?_) | (apply gP; refine sP ?_) | (apply gC; refine sC ?_) | (apply gD; refine sD ?_) | fail)
          exact E_join (d3, _, _, none) (⟨hR3, by rw [openR_room]; exact hJr, fun q s n dn h => by cases h⟩) ⟨rfl, rfl, rfl, rfl, trivial⟩ (Sub.trans lgo_nil Sb)
        · repeat' (first | refine go ?_ | intro _ | (apply cG; first | refine cT ?_ | refine cF ?_ | refine cS (fun _ => ?_) fun _ => ?_) | (apply gW; refine sW ?_) | (apply gI; refine sI ?_) | (apply gE; refine sE ?_) | (apply gP; refine sP ?_) | (apply gC; refine sC ?_) | (apply gD; refine sD ?_) | fail)
          refine O_d (dy_call ArgsI.pf (by first | exact rfl | trivial | (intro a b; rfl)) (CT.pull (i := 3) (by rfl) (qOpen_ct hR hBJ hR.off))) ?_; rintro _ _ ⟨_, hcase, rfl⟩; refine O_n ?_
          rcases hcase with ⟨hne, _⟩ | ⟨_, s3, A4, c4, rfl, rfl⟩
          · exact absurd he0 hne
          repeat' (first | refine go ?_ | intro _ | (apply cG; first | refine cT ?_ | refine cF ?_ | refine cS (fun _ => ?_) fun _ => ?_) | (apply gW; refine sW ?_) | (apply gI; refine sI ?_) | (apply gE; refine sE ?_) | (apply gP; refine sP ?_) | (apply gC; refine sC ?_) | (apply gD; refine sD ?_) | fail)
          refine O_frz 1 ?_
          refine O_frz 4 ?_
          have hsl := scK_len K
          have hsm := scK_mem K
          refine O_d (dy_call ArgsI.pf (by first | exact rfl | trivial | (intro a b; rfl)) (SameLists_ct (la := (scK K).1) (lb := (scK K).1) (q := true) (.tail _ (.tail _ (.tail _ (.tail _ (.head _))))) (.tail _ (.head _)) (by omega) (by omega) (fun x hx => by have := hsm x hx; omega) (fun x hx => by have := hsm x hx; omega) (decide_eq_true rfl))) ?_; rintro _ _ ⟨_, ⟨rfl, hLL⟩, rfl⟩; replace hLL := hLL.symm; subst hLL; refine O_n ?_
          repeat' (first | refine go ?_ | intro _ | (apply cG; first | refine cT ?_ | refine cF ?_ | refine cS (fun _ => ?_) fun _ => ?_) | (apply gW; refine sW ?_) | (apply gI; refine sI ?_) | (apply gE; refine sE ?_) | (apply gP; refine sP ?_) | (apply gC; refine sC ?_) | (apply gD; refine sD ?_) | fail)
          exact E_join (d3, _, 0, some (q3, s3, ((scK K).1.length : Int), false)) (⟨hR3, by rw [openR_room]; exact hJr, hnew K hBJ q3 s3⟩) ⟨rfl, rfl, rfl, rfl, trivial⟩ (Sub.trans (B := cel q3 [.pointer (some ⟨p, 0, none⟩), .int .i64 2, .int .i64 ((scK K).1.length : Int), .bool false] 59 :: cel s3 [.pointer (some ⟨r, 0, none⟩), .int .i64 2, .int .i64 ((scK K).1.length : Int), .bool false] 44 :: dsk p d3 :: rdk r (openR K 2 (scK K).2).1 :: rd eI (.slice Av li.length cv) li :: L) Sb (Sub.trans lgo_in Sb))
    rcases lg with _ | ⟨q, s, n, dn⟩
    · dsimp only [lvO, rvO]
      repeat' (first | refine go ?_ | intro _ | (apply cG; first | refine cT ?_ | refine cF ?_ | refine cS (fun _ => ?_) fun _ => ?_) | (apply gW; refine sW ?_) | (apply gI; refine sI ?_) | (apply gE; refine sE ?_) | (apply gP; refine sP ?_) | (apply gC; refine sC ?_) | (apply gD; refine sD ?_) | fail)
      exact E_round (i + 1, _, K, e, none) ⟨hlt14, hR, hJr, fun q s n dn h => by cases h⟩ (by dsimp only; omega) ⟨rfl, rfl, rfl, rfl, rfl, trivial⟩ Sb
    · dsimp only [lvO, rvO]
      obtain ⟨hn1, hn2⟩ := hJn q s n dn rfl
      repeat' (first | refine go ?_ | intro _ | (apply cG; first | refine cT ?_ | refine cF ?_ | refine cS (fun _ => ?_) fun _ => ?_) | (apply gW; refine sW ?_) | (apply gI; refine sI ?_) | (apply gE; refine sE ?_) | (apply gP; refine sP ?_) | (apply gC; refine sC ?_) | (apply gD; refine sD ?_) | fail)
      refine O_d (dy_litP (f := iv) (hf := fun _ => rfl) [(X : Int)] (by rfl)) ?_; rintro _ _ ⟨_, rfl, rfl⟩; refine O_n ?_
      refine O_frz 0 ?_
      repeat' (first | refine go ?_ | intro _ | (apply cG; first | refine cT ?_ | refine cF ?_ | refine cS (fun _ => ?_) fun _ => ?_) | (apply gW; refine sW ?_) | (apply gI; refine sI ?_) | (apply gE; refine sE ?_) | (apply gP; refine sP ?_) | (apply gC; refine sC ?_) | (apply gD; refine sD ?_) | fail)
      refine O_d (dy_call ArgsI.pf (by first | exact rfl | trivial | (intro a b; rfl)) (Records1_ct (li := [(X : Int)]) (.head _) (by show 1 ≤ 9223372036854775807; decide) hkr2)) ?_; rintro _ _ ⟨_, ⟨A5, c5, xs, rfl, rfl, hxs, hx6⟩, rfl⟩; refine O_n ?_
      have hx61 : xs.length = 1 := hx6
      refine O_frz 0 ?_
      obtain ⟨b, hb⟩ : ∃ b, xs[0]? = some b := ⟨_, List.getElem?_eq_getElem (by omega)⟩
      have hab : At xs 0 b := ⟨hb⟩
      have hbl := hxs b (List.mem_of_getElem? hb)
      repeat' (first | refine go ?_ | intro _ | (apply cG; first | refine cT ?_ | refine cF ?_ | refine cS (fun _ => ?_) fun _ => ?_) | (apply gW; refine sW ?_) | (apply gI; refine sI ?_) | (apply gE; refine sE ?_) | (apply gP; refine sP ?_) | (apply gC; refine sC ?_) | (apply gD; refine sD ?_) | fail)
      rename_i bA bc
      refine C_sub (S := cel q [.pointer (some ⟨p, 0, none⟩), .int .i64 2, .int .i64 n, .bool dn] 59 :: dsk p ⟨files, room0, off, armed, left⟩ :: cel s [.pointer (some ⟨r, 0, none⟩), .int .i64 2, .int .i64 n, .bool dn] 44 :: rdk r K :: rd eB (.slice bA b.length bc) b :: rd eI (.slice Av li.length cv) li :: L) (Sub.trans (B := lgo p r (some (q, s, n, dn)) :: dsk p ⟨files, room0, off, armed, left⟩ :: rdk r K :: rd eB (.slice bA b.length bc) b :: rd eI (.slice Av li.length cv) li :: L) Sb (Sub.trans lgo_out Sb)) ?_
      refine C_drawT (n := 99) [] (.two [(0, 1), (1, 1), (3, 1), (4, 1), (2, 0), (5, 0), (6, 1), (7, 1), (8, 1), (10, 1), (11, 1), (12, 1)] 9 (.two [(13, 0), (14, 1), (15, 1), (16, 1), (17, 1), (19, 1), (20, 1), (21, 1)] 18 (.leaf [(22, 0), (23, 1), (24, 1)]) 22 (.leaf [(18, 0), (23, 1), (24, 1)])) 13 (.two [(9, 0), (14, 1), (15, 1), (16, 1), (17, 1), (19, 1), (20, 1), (21, 1)] 18 (.leaf [(22, 0), (23, 1), (24, 1)]) 22 (.leaf [(18, 0), (23, 1), (24, 1)]))) (by kernel_rfl) (by kernel_rfl) Sb ?_
      refine DT_two ?_
      repeat' (first | refine go ?_ | intro _ | (apply cG; first | refine cT ?_ | refine cF ?_ | refine cS (fun _ => ?_) fun _ => ?_) | (apply gW; refine sW ?_) | (apply gI; refine sI ?_) | (apply gE; refine sE ?_) | (apply gP; refine sP ?_) | (apply gC; refine sC ?_) | (apply gD; refine sD ?_) | fail)
      refine D_op rfl ?_; refine X_d (dy_call ArgsI.pf (by first | exact rfl | trivial | (intro a b; rfl)) (LApp_ct (d := ⟨files, room0, off, armed, left⟩) (b := b) (.inl (.tail _ (.tail _ (.head _)))) (by omega) hn1 (by omega) hR.ok (by have := hR.l0; omega) (by have := hR.l1; omega))) ?_; rintro _ _ ⟨_, ⟨A6, c6, rfl, rfl⟩, rfl⟩; refine ⟨(by first | exact .inl rfl | exact .inr Sb), D_n ?_⟩
      have hlog := hR.log ⟨2, n, dn⟩ b (.slice A6 ((fileF 2 files).b ++ frameF n b).length c6)
      have hlf := rlogF_f ⟨2, n, dn⟩ K b
      have hlr := rlogF_room ⟨2, n, dn⟩ K b
      obtain ⟨g1, d2, e1, hg1⟩ : ∃ g1 d2 e1, logF ⟨2, n, dn⟩ ⟨files, room0, off, armed, left⟩ b (.slice A6 ((fileF 2 files).b ++ frameF n b).length c6) = (g1, d2, e1) := ⟨_, _, _, rfl⟩
      obtain ⟨g2, K2, e2, hg2⟩ : ∃ g2 K2 e2, rlogF ⟨2, n, dn⟩ K b = (g2, K2, e2) := ⟨_, _, _, rfl⟩
      rw [hg1, hg2] at hlog
      rw [hg2] at hlf hlr
      dsimp only at hlog hlf hlr
      obtain ⟨hR2, he, hgg⟩ := hlog
      subst he hgg
      dsimp only
      rw [hg1]
      dsimp only
      have hK2r : K2.room ≤ 1000 := by rw [hlr]; exact hJr
      obtain ⟨gf, gn, gd⟩ := g1
      dsimp only at hlf
      obtain ⟨hgf, hgn1, hgn2⟩ := hlf
      subst hgf
      repeat' (first | refine go ?_ | intro _ | (apply cG; first | refine cT ?_ | refine cF ?_ | refine cS (fun _ => ?_) fun _ => ?_) | (apply gW; refine sW ?_) | (apply gI; refine sI ?_) | (apply gE; refine sE ?_) | (apply gP; refine sP ?_) | (apply gC; refine sC ?_) | (apply gD; refine sD ?_) | fail)
      refine D_sub (L' := cel s [.pointer (some ⟨r, 0, none⟩), .int .i64 2, .int .i64 n, .bool dn] 44 :: rdk r K :: cel q [.pointer (some ⟨p, 0, none⟩), .int .i64 2, .int .i64 gn, .bool gd] 59 :: dsk p d2 :: rd eB (.slice bA b.length bc) b :: rd eI (.slice Av li.length cv) li :: L) Sb ?_
      refine D_op rfl ?_; refine X_d (dy_call ArgsI.pf (by first | exact rfl | trivial | (intro a b; rfl)) (rLApp_ct (b := b) hR (.inl (.tail _ (.tail _ (.head _)))) (by omega) hn1 (by omega))) ?_; rintro _ _ ⟨_, ⟨rfl, rfl⟩, rfl⟩; refine ⟨(by first | exact .inl rfl | exact .inr Sb), D_n ?_⟩
      rw [hg2]
      dsimp only
      cases gd
      · repeat' (first | refine go ?_ | intro _ | (apply cG; first | refine cT ?_ | refine cF ?_ | refine cS (fun _ => ?_) fun _ => ?_) | (apply gW; refine sW ?_) | (apply gI; refine sI ?_) | (apply gE; refine sE ?_) | (apply gP; refine sP ?_) | (apply gC; refine sC ?_) | (apply gD; refine sD ?_) | fail)
        refine E_two ?_ ?_
        · refine D_op rfl ?_; refine X_d (dy_call ArgsI.pf (by first | exact rfl | trivial | (intro a b; rfl)) (CT.pull (i := 2) (by rfl) (Len_ct))) ?_; rintro _ _ ⟨_, ⟨rfl, rfl⟩, rfl⟩; refine ⟨(by first | exact .inl rfl | exact .inr Sb), D_n ?_⟩
          repeat' (first | refine go ?_ | intro _ | (apply cG; first | refine cT ?_ | refine cF ?_ | refine cS (fun _ => ?_) fun _ => ?_) | (apply gW; refine sW ?_) | (apply gI; refine sI ?_) | (apply gE; refine sE ?_) | (apply gP; refine sP ?_) | (apply gC; refine sC ?_) | (apply gD; refine sD ?_) | fail)
          refine E_way (DT_two ?_)
          refine D_op rfl ?_; refine X_d (dy_of sv_load) ?_; rintro _ _ ⟨rfl, rfl⟩; refine ⟨(by first | exact .inl rfl | exact .inr Sb), D_n ?_⟩
          repeat' (first | refine go ?_ | intro _ | (apply cG; first | refine cT ?_ | refine cF ?_ | refine cS (fun _ => ?_) fun _ => ?_) | (apply gW; refine sW ?_) | (apply gI; refine sI ?_) | (apply gE; refine sE ?_) | (apply gP; refine sP ?_) | (apply gC; refine sC ?_) | (apply gD; refine sD ?_) | fail)
          refine E_two ?_ ?_
          · refine D_op rfl ?_; refine X_d (dy_call ArgsI.pf (by first | exact rfl | trivial | (intro a b; rfl)) (CT.pull (i := 0) (by rfl) (Up_ct))) ?_; rintro _ _ ⟨_, ⟨rfl, rfl⟩, rfl⟩; refine ⟨(by first | exact .inl rfl | exact .inr Sb), D_n ?_⟩
            simp only [Bool.not_false, Bool.not_true]
            repeat' (first | refine go ?_ | intro _ | (apply cG; first | refine cT ?_ | refine cF ?_ | refine cS (fun _ => ?_) fun _ => ?_) | (apply gW; refine sW ?_) | (apply gI; refine sI ?_) | (apply gE; refine sE ?_) | (apply gP; refine sP ?_) | (apply gC; refine sC ?_) | (apply gD; refine sD ?_) | fail)
            refine E_way (DT_leaf ?_)
            refine D_op rfl ?_; refine X_d (dy_of sv_load) ?_; rintro _ _ ⟨rfl, rfl⟩; refine ⟨(by first | exact .inl rfl | exact .inr Sb), D_n ?_⟩
            repeat' (first | refine go ?_ | intro _ | (apply cG; first | refine cT ?_ | refine cF ?_ | refine cS (fun _ => ?_) fun _ => ?_) | (apply gW; refine sW ?_) | (apply gI; refine sI ?_) | (apply gE; refine sE ?_) | (apply gP; refine sP ?_) | (apply gC; refine sC ?_) | (apply gD; refine sD ?_) | fail)
            exact E_join (_, _, e, some (q, s, gn, false)) (⟨hR2, hK2r, fun q' s' n' dn' h => by injection h with h; injection h with _ h; injection h with _ h; injection h with h _; push_cast; omega⟩) ⟨rfl, rfl, rfl, rfl, trivial⟩ (Sub.trans (B := cel q [.pointer (some ⟨p, 0, none⟩), .int .i64 2, .int .i64 gn, .bool false] 59 :: cel s [.pointer (some ⟨r, 0, none⟩), .int .i64 2, .int .i64 gn, .bool false] 44 :: dsk p d2 :: rdk r K2 :: rd eI (.slice Av li.length cv) li :: L) Sb (Sub.trans lgo_in Sb))
          · refine D_op rfl ?_; refine X_d (dy_of sv_load) ?_; rintro _ _ ⟨rfl, rfl⟩; refine ⟨(by first | exact .inl rfl | exact .inr Sb), D_n ?_⟩
            repeat' (first | refine go ?_ | intro _ | (apply cG; first | refine cT ?_ | refine cF ?_ | refine cS (fun _ => ?_) fun _ => ?_) | (apply gW; refine sW ?_) | (apply gI; refine sI ?_) | (apply gE; refine sE ?_) | (apply gP; refine sP ?_) | (apply gC; refine sC ?_) | (apply gD; refine sD ?_) | fail)
            refine E_way (DT_leaf ?_)
            refine D_op rfl ?_; refine X_d (dy_call ArgsI.pf (by first | exact rfl | trivial | (intro a b; rfl)) (CT.pull (i := 0) (by rfl) (Up_ct))) ?_; rintro _ _ ⟨_, ⟨rfl, rfl⟩, rfl⟩; refine ⟨(by first | exact .inl rfl | exact .inr Sb), D_n ?_⟩
            simp only [Bool.not_false, Bool.not_true]
            repeat' (first | refine go ?_ | intro _ | (apply cG; first | refine cT ?_ | refine cF ?_ | refine cS (fun _ => ?_) fun _ => ?_) | (apply gW; refine sW ?_) | (apply gI; refine sI ?_) | (apply gE; refine sE ?_) | (apply gP; refine sP ?_) | (apply gC; refine sC ?_) | (apply gD; refine sD ?_) | fail)
            exact E_join (_, _, e, some (q, s, gn, false)) (⟨hR2, hK2r, fun q' s' n' dn' h => by injection h with h; injection h with _ h; injection h with _ h; injection h with h _; push_cast; omega⟩) ⟨rfl, rfl, rfl, rfl, trivial⟩ (Sub.trans (B := cel q [.pointer (some ⟨p, 0, none⟩), .int .i64 2, .int .i64 gn, .bool false] 59 :: cel s [.pointer (some ⟨r, 0, none⟩), .int .i64 2, .int .i64 gn, .bool false] 44 :: dsk p d2 :: rdk r K2 :: rd eI (.slice Av li.length cv) li :: L) Sb (Sub.trans lgo_in Sb))
        · refine D_op rfl ?_; refine X_d (dy_of sv_load) ?_; rintro _ _ ⟨rfl, rfl⟩; refine ⟨(by first | exact .inl rfl | exact .inr Sb), D_n ?_⟩
          repeat' (first | refine go ?_ | intro _ | (apply cG; first | refine cT ?_ | refine cF ?_ | refine cS (fun _ => ?_) fun _ => ?_) | (apply gW; refine sW ?_) | (apply gI; refine sI ?_) | (apply gE; refine sE ?_) | (apply gP; refine sP ?_) | (apply gC; refine sC ?_) | (apply gD; refine sD ?_) | fail)
          refine E_way (DT_two ?_)
          refine D_op rfl ?_; refine X_d (dy_call ArgsI.pf (by first | exact rfl | trivial | (intro a b; rfl)) (CT.pull (i := 2) (by rfl) (Len_ct))) ?_; rintro _ _ ⟨_, ⟨rfl, rfl⟩, rfl⟩; refine ⟨(by first | exact .inl rfl | exact .inr Sb), D_n ?_⟩
          repeat' (first | refine go ?_ | intro _ | (apply cG; first | refine cT ?_ | refine cF ?_ | refine cS (fun _ => ?_) fun _ => ?_) | (apply gW; refine sW ?_) | (apply gI; refine sI ?_) | (apply gE; refine sE ?_) | (apply gP; refine sP ?_) | (apply gC; refine sC ?_) | (apply gD; refine sD ?_) | fail)
          refine E_two ?_ ?_
          · refine D_op rfl ?_; refine X_d (dy_call ArgsI.pf (by first | exact rfl | trivial | (intro a b; rfl)) (CT.pull (i := 0) (by rfl) (Up_ct))) ?_; rintro _ _ ⟨_, ⟨rfl, rfl⟩, rfl⟩; refine ⟨(by first | exact .inl rfl | exact .inr Sb), D_n ?_⟩
            simp only [Bool.not_false, Bool.not_true]
            repeat' (first | refine go ?_ | intro _ | (apply cG; first | refine cT ?_ | refine cF ?_ | refine cS (fun _ => ?_) fun _ => ?_) | (apply gW; refine sW ?_) | (apply gI; refine sI ?_) | (apply gE; refine sE ?_) | (apply gP; refine sP ?_) | (apply gC; refine sC ?_) | (apply gD; refine sD ?_) | fail)
            refine E_way (DT_leaf ?_)
            refine D_op rfl ?_; refine X_d (dy_of sv_load) ?_; rintro _ _ ⟨rfl, rfl⟩; refine ⟨(by first | exact .inl rfl | exact .inr Sb), D_n ?_⟩
            repeat' (first | refine go ?_ | intro _ | (apply cG; first | refine cT ?_ | refine cF ?_ | refine cS (fun _ => ?_) fun _ => ?_) | (apply gW; refine sW ?_) | (apply gI; refine sI ?_) | (apply gE; refine sE ?_) | (apply gP; refine sP ?_) | (apply gC; refine sC ?_) | (apply gD; refine sD ?_) | fail)
            exact E_join (_, _, e, some (q, s, gn, false)) (⟨hR2, hK2r, fun q' s' n' dn' h => by injection h with h; injection h with _ h; injection h with _ h; injection h with h _; push_cast; omega⟩) ⟨rfl, rfl, rfl, rfl, trivial⟩ (Sub.trans (B := cel q [.pointer (some ⟨p, 0, none⟩), .int .i64 2, .int .i64 gn, .bool false] 59 :: cel s [.pointer (some ⟨r, 0, none⟩), .int .i64 2, .int .i64 gn, .bool false] 44 :: dsk p d2 :: rdk r K2 :: rd eI (.slice Av li.length cv) li :: L) Sb (Sub.trans lgo_in Sb))
          · refine D_op rfl ?_; refine X_d (dy_of sv_load) ?_; rintro _ _ ⟨rfl, rfl⟩; refine ⟨(by first | exact .inl rfl | exact .inr Sb), D_n ?_⟩
            repeat' (first | refine go ?_ | intro _ | (apply cG; first | refine cT ?_ | refine cF ?_ | refine cS (fun _ => ?_) fun _ => ?_) | (apply gW; refine sW ?_) | (apply gI; refine sI ?_) | (apply gE; refine sE ?_) | (apply gP; refine sP ?_) | (apply gC; refine sC ?_) | (apply gD; refine sD ?_) | fail)
            refine E_way (DT_leaf ?_)
            refine D_op rfl ?_; refine X_d (dy_call ArgsI.pf (by first | exact rfl | trivial | (intro a b; rfl)) (CT.pull (i := 0) (by rfl) (Up_ct))) ?_; rintro _ _ ⟨_, ⟨rfl, rfl⟩, rfl⟩; refine ⟨(by first | exact .inl rfl | exact .inr Sb), D_n ?_⟩
            simp only [Bool.not_false, Bool.not_true]
            repeat' (first | refine go ?_ | intro _ | (apply cG; first | refine cT ?_ | refine cF ?_ | refine cS (fun _ => ?_) fun _ => ?_) | (apply gW; refine sW ?_) | (apply gI; refine sI ?_) | (apply gE; refine sE ?_) | (apply gP; refine sP ?_) | (apply gC; refine sC ?_) | (apply gD; refine sD ?_) | fail)
            exact E_join (_, _, e, some (q, s, gn, false)) (⟨hR2, hK2r, fun q' s' n' dn' h => by injection h with h; injection h with _ h; injection h with _ h; injection h with h _; push_cast; omega⟩) ⟨rfl, rfl, rfl, rfl, trivial⟩ (Sub.trans (B := cel q [.pointer (some ⟨p, 0, none⟩), .int .i64 2, .int .i64 gn, .bool false] 59 :: cel s [.pointer (some ⟨r, 0, none⟩), .int .i64 2, .int .i64 gn, .bool false] 44 :: dsk p d2 :: rdk r K2 :: rd eI (.slice Av li.length cv) li :: L) Sb (Sub.trans lgo_in Sb))
      · repeat' (first | refine go ?_ | intro _ | (apply cG; first | refine cT ?_ | refine cF ?_ | refine cS (fun _ => ?_) fun _ => ?_) | (apply gW; refine sW ?_) | (apply gI; refine sI ?_) | (apply gE; refine sE ?_) | (apply gP; refine sP ?_) | (apply gC; refine sC ?_) | (apply gD; refine sD ?_) | fail)
        refine E_two ?_ ?_
        · refine D_op rfl ?_; refine X_d (dy_call ArgsI.pf (by first | exact rfl | trivial | (intro a b; rfl)) (CT.pull (i := 2) (by rfl) (Len_ct))) ?_; rintro _ _ ⟨_, ⟨rfl, rfl⟩, rfl⟩; refine ⟨(by first | exact .inl rfl | exact .inr Sb), D_n ?_⟩
          repeat' (first | refine go ?_ | intro _ | (apply cG; first | refine cT ?_ | refine cF ?_ | refine cS (fun _ => ?_) fun _ => ?_) | (apply gW; refine sW ?_) | (apply gI; refine sI ?_) | (apply gE; refine sE ?_) | (apply gP; refine sP ?_) | (apply gC; refine sC ?_) | (apply gD; refine sD ?_) | fail)
          refine E_way (DT_two ?_)
          refine D_op rfl ?_; refine X_d (dy_of sv_load) ?_; rintro _ _ ⟨rfl, rfl⟩; refine ⟨(by first | exact .inl rfl | exact .inr Sb), D_n ?_⟩
          repeat' (first | refine go ?_ | intro _ | (apply cG; first | refine cT ?_ | refine cF ?_ | refine cS (fun _ => ?_) fun _ => ?_) | (apply gW; refine sW ?_) | (apply gI; refine sI ?_) | (apply gE; refine sE ?_) | (apply gP; refine sP ?_) | (apply gC; refine sC ?_) | (apply gD; refine sD ?_) | fail)
          refine E_two ?_ ?_
          · refine D_op rfl ?_; refine X_d (dy_call ArgsI.pf (by first | exact rfl | trivial | (intro a b; rfl)) (CT.pull (i := 0) (by rfl) (Up_ct))) ?_; rintro _ _ ⟨_, ⟨rfl, rfl⟩, rfl⟩; refine ⟨(by first | exact .inl rfl | exact .inr Sb), D_n ?_⟩
            simp only [Bool.not_false, Bool.not_true]
            repeat' (first | refine go ?_ | intro _ | (apply cG; first | refine cT ?_ | refine cF ?_ | refine cS (fun _ => ?_) fun _ => ?_) | (apply gW; refine sW ?_) | (apply gI; refine sI ?_) | (apply gE; refine sE ?_) | (apply gP; refine sP ?_) | (apply gC; refine sC ?_) | (apply gD; refine sD ?_) | fail)
            refine E_way (DT_leaf ?_)
            refine D_op rfl ?_; refine X_d (dy_of sv_load) ?_; rintro _ _ ⟨rfl, rfl⟩; refine ⟨(by first | exact .inl rfl | exact .inr Sb), D_n ?_⟩
            repeat' (first | refine go ?_ | intro _ | (apply cG; first | refine cT ?_ | refine cF ?_ | refine cS (fun _ => ?_) fun _ => ?_) | (apply gW; refine sW ?_) | (apply gI; refine sI ?_) | (apply gE; refine sE ?_) | (apply gP; refine sP ?_) | (apply gC; refine sC ?_) | (apply gD; refine sD ?_) | fail)
            exact E_join (_, _, e, some (q, s, gn, true)) (⟨hR2, hK2r, fun q' s' n' dn' h => by injection h with h; injection h with _ h; injection h with _ h; injection h with h _; push_cast; omega⟩) ⟨rfl, rfl, rfl, rfl, trivial⟩ (Sub.trans (B := cel q [.pointer (some ⟨p, 0, none⟩), .int .i64 2, .int .i64 gn, .bool true] 59 :: cel s [.pointer (some ⟨r, 0, none⟩), .int .i64 2, .int .i64 gn, .bool true] 44 :: dsk p d2 :: rdk r K2 :: rd eI (.slice Av li.length cv) li :: L) Sb (Sub.trans lgo_in Sb))
          · refine D_op rfl ?_; refine X_d (dy_of sv_load) ?_; rintro _ _ ⟨rfl, rfl⟩; refine ⟨(by first | exact .inl rfl | exact .inr Sb), D_n ?_⟩
            repeat' (first | refine go ?_ | intro _ | (apply cG; first | refine cT ?_ | refine cF ?_ | refine cS (fun _ => ?_) fun _ => ?_) | (apply gW; refine sW ?_) | (apply gI; refine sI ?_) | (apply gE; refine sE ?_) | (apply gP; refine sP ?_) | (apply gC; refine sC ?_) | (apply gD; refine sD ?_) | fail)
            refine E_way (DT_leaf ?_)
            refine D_op rfl ?_; refine X_d (dy_call ArgsI.pf (by first | exact rfl | trivial | (intro a b; rfl)) (CT.pull (i := 0) (by rfl) (Up_ct))) ?_; rintro _ _ ⟨_, ⟨rfl, rfl⟩, rfl⟩; refine ⟨(by first | exact .inl rfl | exact .inr Sb), D_n ?_⟩
            simp only [Bool.not_false, Bool.not_true]
            repeat' (first | refine go ?_ | intro _ | (apply cG; first | refine cT ?_ | refine cF ?_ | refine cS (fun _ => ?_) fun _ => ?_) | (apply gW; refine sW ?_) | (apply gI; refine sI ?_) | (apply gE; refine sE ?_) | (apply gP; refine sP ?_) | (apply gC; refine sC ?_) | (apply gD; refine sD ?_) | fail)
            exact E_join (_, _, e, some (q, s, gn, true)) (⟨hR2, hK2r, fun q' s' n' dn' h => by injection h with h; injection h with _ h; injection h with _ h; injection h with h _; push_cast; omega⟩) ⟨rfl, rfl, rfl, rfl, trivial⟩ (Sub.trans (B := cel q [.pointer (some ⟨p, 0, none⟩), .int .i64 2, .int .i64 gn, .bool true] 59 :: cel s [.pointer (some ⟨r, 0, none⟩), .int .i64 2, .int .i64 gn, .bool true] 44 :: dsk p d2 :: rdk r K2 :: rd eI (.slice Av li.length cv) li :: L) Sb (Sub.trans lgo_in Sb))
        · refine D_op rfl ?_; refine X_d (dy_of sv_load) ?_; rintro _ _ ⟨rfl, rfl⟩; refine ⟨(by first | exact .inl rfl | exact .inr Sb), D_n ?_⟩
          repeat' (first | refine go ?_ | intro _ | (apply cG; first | refine cT ?_ | refine cF ?_ | refine cS (fun _ => ?_) fun _ => ?_) | (apply gW; refine sW ?_) | (apply gI; refine sI ?_) | (apply gE; refine sE ?_) | (apply gP; refine sP ?_) | (apply gC; refine sC ?_) | (apply gD; refine sD ?_) | fail)
          refine E_way (DT_two ?_)
          refine D_op rfl ?_; refine X_d (dy_call ArgsI.pf (by first | exact rfl | trivial | (intro a b; rfl)) (CT.pull (i := 2) (by rfl) (Len_ct))) ?_; rintro _ _ ⟨_, ⟨rfl, rfl⟩, rfl⟩; refine ⟨(by first | exact .inl rfl | exact .inr Sb), D_n ?_⟩
          repeat' (first | refine go ?_ | intro _ | (apply cG; first | refine cT ?_ | refine cF ?_ | refine cS (fun _ => ?_) fun _ => ?_) | (apply gW; refine sW ?_) | (apply gI; refine sI ?_) | (apply gE; refine sE ?_) | (apply gP; refine sP ?_) | (apply gC; refine sC ?_) | (apply gD; refine sD ?_) | fail)
          refine E_two ?_ ?_
          · refine D_op rfl ?_; refine X_d (dy_call ArgsI.pf (by first | exact rfl | trivial | (intro a b; rfl)) (CT.pull (i := 0) (by rfl) (Up_ct))) ?_; rintro _ _ ⟨_, ⟨rfl, rfl⟩, rfl⟩; refine ⟨(by first | exact .inl rfl | exact .inr Sb), D_n ?_⟩
            simp only [Bool.not_false, Bool.not_true]
            repeat' (first | refine go ?_ | intro _ | (apply cG; first | refine cT ?_ | refine cF ?_ | refine cS (fun _ => ?_) fun _ => ?_) | (apply gW; refine sW ?_) | (apply gI; refine sI ?_) | (apply gE; refine sE ?_) | (apply gP; refine sP ?_) | (apply gC; refine sC ?_) | (apply gD; refine sD ?_) | fail)
            refine E_way (DT_leaf ?_)
            refine D_op rfl ?_; refine X_d (dy_of sv_load) ?_; rintro _ _ ⟨rfl, rfl⟩; refine ⟨(by first | exact .inl rfl | exact .inr Sb), D_n ?_⟩
            repeat' (first | refine go ?_ | intro _ | (apply cG; first | refine cT ?_ | refine cF ?_ | refine cS (fun _ => ?_) fun _ => ?_) | (apply gW; refine sW ?_) | (apply gI; refine sI ?_) | (apply gE; refine sE ?_) | (apply gP; refine sP ?_) | (apply gC; refine sC ?_) | (apply gD; refine sD ?_) | fail)
            exact E_join (_, _, e, some (q, s, gn, true)) (⟨hR2, hK2r, fun q' s' n' dn' h => by injection h with h; injection h with _ h; injection h with _ h; injection h with h _; push_cast; omega⟩) ⟨rfl, rfl, rfl, rfl, trivial⟩ (Sub.trans (B := cel q [.pointer (some ⟨p, 0, none⟩), .int .i64 2, .int .i64 gn, .bool true] 59 :: cel s [.pointer (some ⟨r, 0, none⟩), .int .i64 2, .int .i64 gn, .bool true] 44 :: dsk p d2 :: rdk r K2 :: rd eI (.slice Av li.length cv) li :: L) Sb (Sub.trans lgo_in Sb))
          · refine D_op rfl ?_; refine X_d (dy_of sv_load) ?_; rintro _ _ ⟨rfl, rfl⟩; refine ⟨(by first | exact .inl rfl | exact .inr Sb), D_n ?_⟩
            repeat' (first | refine go ?_ | intro _ | (apply cG; first | refine cT ?_ | refine cF ?_ | refine cS (fun _ => ?_) fun _ => ?_) | (apply gW; refine sW ?_) | (apply gI; refine sI ?_) | (apply gE; refine sE ?_) | (apply gP; refine sP ?_) | (apply gC; refine sC ?_) | (apply gD; refine sD ?_) | fail)
            refine E_way (DT_leaf ?_)
            refine D_op rfl ?_; refine X_d (dy_call ArgsI.pf (by first | exact rfl | trivial | (intro a b; rfl)) (CT.pull (i := 0) (by rfl) (Up_ct))) ?_; rintro _ _ ⟨_, ⟨rfl, rfl⟩, rfl⟩; refine ⟨(by first | exact .inl rfl | exact .inr Sb), D_n ?_⟩
            simp only [Bool.not_false, Bool.not_true]
            repeat' (first | refine go ?_ | intro _ | (apply cG; first | refine cT ?_ | refine cF ?_ | refine cS (fun _ => ?_) fun _ => ?_) | (apply gW; refine sW ?_) | (apply gI; refine sI ?_) | (apply gE; refine sE ?_) | (apply gP; refine sP ?_) | (apply gC; refine sC ?_) | (apply gD; refine sD ?_) | fail)
            exact E_join (_, _, e, some (q, s, gn, true)) (⟨hR2, hK2r, fun q' s' n' dn' h => by injection h with h; injection h with _ h; injection h with _ h; injection h with h _; push_cast; omega⟩) ⟨rfl, rfl, rfl, rfl, trivial⟩ (Sub.trans (B := cel q [.pointer (some ⟨p, 0, none⟩), .int .i64 2, .int .i64 gn, .bool true] 59 :: cel s [.pointer (some ⟨r, 0, none⟩), .int .i64 2, .int .i64 gn, .bool true] 44 :: dsk p d2 :: rdk r K2 :: rd eI (.slice Av li.length cv) li :: L) Sb (Sub.trans lgo_in Sb))
  rintro ⟨d2, K2, e2, lg2⟩ u2 hJ2
  dsimp only at hJ2
  dsimp only
  ((try dsimp only); refine C_n ?_; (try simp only [Nat.reduceAdd, Nat.zero_add]))
  have hR2 := hJ2.h
  have hb2 := hR2.b h2
  have hB2 := hBd hR2 hJ2.room
  have hoff2 := hR2.off
  obtain ⟨files2, room2, off2, armed2, left2⟩ := d2
  dsimp only at hb2 hoff2
  cases off2
  · repeat' (first | refine go ?_ | intro _ | (apply cG; first | refine cT ?_ | refine cF ?_ | refine cS (fun _ => ?_) fun _ => ?_) | (apply gW; refine sW ?_) | (apply gI; refine sI ?_) | (apply gE; refine sE ?_) | (apply gP; refine sP ?_) | (apply gC; refine sC ?_) | (apply gD; refine sD ?_) | fail)
    refine O_d (dy_call ArgsI.pf (by first | exact rfl | trivial | (intro a b; rfl)) (CT.pull (i := 0) (by rfl) (dRead_ct (files := files2) (n := 2) (by rw [← hb2]; omega) h2))) ?_; rintro _ _ ⟨_, ⟨A7, c7, rfl, rfl⟩, rfl⟩; refine O_n ?_
    refine rdk_Ox 2 rfl fun ab af Bs h4 h5 h6 => ?_
    simp only [List.eraseIdx_cons_succ, List.eraseIdx_cons_zero]
    have hcl := (rdk_sub (L := dsk p ⟨files2, room2, false, armed2, left2⟩ :: lgo p r lg2 :: rd eI (.slice Av li.length cv) li :: L) (r := r) (ab := ab) (af := af) (K := K2) h4 h5 h6)
    obtain ⟨x, hx⟩ : ∃ x, Bs[2]? = some x := ⟨_, List.getElem?_eq_getElem (by omega)⟩
    have hax : At Bs 2 x := ⟨hx⟩
    have hxb := rbn h4 hx
    replace hxb : K2.b 2 = x.b := hxb
    rw [← hb2, hxb]
    rw [hxb] at hB2
    rw [hoff2] at hcl ⊢
    refine O_sub (sub_imR (by repeat (first | exact .head _ | refine .tail _ ?_)) hx) ?_
    repeat' (first | refine go ?_ | intro _ | (apply cG; first | refine cT ?_ | refine cF ?_ | refine cS (fun _ => ?_) fun _ => ?_) | (apply gW; refine sW ?_) | (apply gI; refine sI ?_) | (apply gE; refine sE ?_) | (apply gP; refine sP ?_) | (apply gC; refine sC ?_) | (apply gD; refine sD ?_) | fail)
    refine O_d (dy_call ArgsI.pf (by first | exact rfl | trivial | (intro a b; rfl)) (SameBytes_ct (la := x.b) (lb := x.b) (q := true) (.inr ⟨_, .tail _ (.tail _ (.tail _ (.tail _ (.tail _ (.head _)))))⟩) (.inl (.head _)) (by omega) (by omega) (decide_eq_true rfl))) ?_; rintro _ _ ⟨_, ⟨rfl, hLL⟩, rfl⟩; replace hLL := hLL.symm; subst hLL; refine O_n ?_
    repeat' (first | refine go ?_ | intro _ | (apply cG; first | refine cT ?_ | refine cF ?_ | refine cS (fun _ => ?_) fun _ => ?_) | (apply gW; refine sW ?_) | (apply gI; refine sI ?_) | (apply gE; refine sE ?_) | (apply gP; refine sP ?_) | (apply gC; refine sC ?_) | (apply gD; refine sD ?_) | fail)
    exact E_round (i + 1, ⟨files2, room2, false, armed2, left2⟩, K2, e2, lg2) ⟨hlt14, hJ2⟩ (by dsimp only; omega) ⟨rfl, rfl, rfl, rfl, rfl, trivial⟩ (Sub.trans (B := cel r [.int .i64 K2.room, .slice (some ab) 64 64, .slice (some af) 64 64, .bool false, .int .i64 K2.plan] 50 :: own 39 eRBy (.slice (some ab) 64 64) Bs :: own 3 eI (.slice (some af) 64 64) K2.F :: imR Bs :: dsk p ⟨files2, room2, false, armed2, left2⟩ :: lgo p r lg2 :: rd eI (.slice Av li.length cv) li :: L) Sb (Sub.trans hcl Sb))
  · repeat' (first | refine go ?_ | intro _ | (apply cG; first | refine cT ?_ | refine cF ?_ | refine cS (fun _ => ?_) fun _ => ?_) | (apply gW; refine sW ?_) | (apply gI; refine sI ?_) | (apply gE; refine sE ?_) | (apply gP; refine sP ?_) | (apply gC; refine sC ?_) | (apply gD; refine sD ?_) | fail)
    refine O_d (dy_call ArgsI.pf (by first | exact rfl | trivial | (intro a b; rfl)) (CT.pull (i := 0) (by rfl) (dRead_no (n := 2) (e := 21) (.inr ⟨h2, rfl, rfl⟩)))) ?_; rintro _ _ ⟨_, ⟨rfl, rfl⟩, rfl⟩; refine O_n ?_
    refine rdk_Ox 1 rfl fun ab af Bs h4 h5 h6 => ?_
    simp only [List.eraseIdx_cons_succ, List.eraseIdx_cons_zero]
    have hcl := (rdk_sub (L := dsk p ⟨files2, room2, true, armed2, left2⟩ :: lgo p r lg2 :: rd eI (.slice Av li.length cv) li :: L) (r := r) (ab := ab) (af := af) (K := K2) h4 h5 h6)
    rw [hoff2] at hcl ⊢
    repeat' (first | refine go ?_ | intro _ | (apply cG; first | refine cT ?_ | refine cF ?_ | refine cS (fun _ => ?_) fun _ => ?_) | (apply gW; refine sW ?_) | (apply gI; refine sI ?_) | (apply gE; refine sE ?_) | (apply gP; refine sP ?_) | (apply gC; refine sC ?_) | (apply gD; refine sD ?_) | fail)
    exact E_round (i + 1, ⟨files2, room2, true, armed2, left2⟩, K2, e2, lg2) ⟨hlt14, hJ2⟩ (by dsimp only; omega) ⟨rfl, rfl, rfl, rfl, rfl, trivial⟩ (Sub.trans (B := cel r [.int .i64 K2.room, .slice (some ab) 64 64, .slice (some af) 64 64, .bool true, .int .i64 K2.plan] 50 :: own 39 eRBy (.slice (some ab) 64 64) Bs :: own 3 eI (.slice (some af) 64 64) K2.F :: imR Bs :: dsk p ⟨files2, room2, true, armed2, left2⟩ :: lgo p r lg2 :: rd eI (.slice Av li.length cv) li :: L) Sb (Sub.trans hcl Sb))
theorem JournalRuns_any {n : Int} {v : Value} {li : List Int} {w : World} (s : St w w [rd eI v li]) (hn1 : -9223372036854775808 ≤ n) (hn2 : n ≤ 9223372036854775807) (hl : li.length ≤ 9223372036854775807) (hr : ∀ n ∈ li, -9223372036854775808 ≤ n ∧ n ≤ 9223372036854775807) :
    Calls Tryz.prog 3 #[.int .i64 n, v] w fun e w' => e = .returned (.bool true) ∧ Below w.heap.size w w' :=
  ((JournalRuns_ct (W0 := w) hn1 hn2 (.head _) hl hr).run w s).mono fun e w' h => by
    obtain ⟨v, L', rfl, ⟨rfl, rfl⟩, s⟩ := h
    exact ⟨rfl, s.below⟩
end
end Go.Proofs.YtbjaecofccpahaaGreat
