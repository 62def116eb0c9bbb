/-
  Walks: Crash of a disk with one file, or none.
-/
import Derived.Test.YtbjaecofccpahaaMW
namespace Go.Proofs.Ytbjaecofccpahaa
open Go Go.RowKit
set_option linter.unusedVariables false
set_option linter.unusedSimpArgs false
set_option maxRecDepth 20000
set_option synthInstance.maxSize 100000
set_option synthInstance.maxHeartbeats 400000
section
variable {W0 : World} {L : List HP}
theorem dsk_file {p : Nat} {d : DK} {n : Int} : Sub (dsk p d :: L) (rd eB (fileF n d.files).v (fileF n d.files).b :: dsk p d :: L) := fun m h s => by
  obtain ⟨a, b, dj, ha, hb, ⟨bm, hsp⟩, hL⟩ := s
  have h2 := file_sub (b := bm) (k := n) (l := d.files) (L := [cel p [.map (some bm), .int .i64 d.room, .bool d.off, .bool d.armed, .int .i64 d.left] 73, mapo mDF bm d.files]) (.tail _ (.head _)) m a hsp
  obtain ⟨a0, b0, _, _, _, hrd, _⟩ := h2
  exact ⟨Hp.none, h, Hp.none_dj _, Hp.none_le _, Hp.le_refl _, hrd, ⟨a, b, dj, ha, hb, ⟨bm, hsp⟩, hL⟩⟩
theorem All2.move {α β γ : Type} {R : α → β → Prop} {S : γ → β → Prop} {T : α → γ → Prop} (f : ∀ a b c, T a c → R a b → S c b) : ∀ {l : List α} {l' : List γ} {k : List β}, All2 T l l' → All2 R l k → All2 S l' k
  | [], [], [], _, _ => trivial
  | _ :: _, _ :: _, _ :: _, ⟨h1, t1⟩, ⟨h2, t2⟩ => ⟨f _ _ _ h1 h2, All2.move f t1 t2⟩
  | [], [], _ :: _, _, h => h.elim
  | _ :: _, _ :: _, [], _, h => h.elim
  | [], _ :: _, _, h, _ => h.elim
  | _ :: _, [], _, h, _ => h.elim
theorem sub_ghost {p : Nat} {l l' : List (Int × DF)} {room left : Int} {off armed : Bool} (hT : All2 (fun q q' : Int × DF => q.1 = q'.1 ∧ q.2.v = q'.2.v ∧ q.2.d = q'.2.d) l l') : Sub (dskG mDB p ⟨l, room, off, armed, left⟩ :: L) (dskG mDB p ⟨l', room, off, armed, left⟩ :: L) := fun m h ⟨a, b, dj, ha, hb, ⟨bm, a1, b1, d1, ha1, hb1, h1, a2, b2, d2, ha2, hb2, ⟨es, clock, k1, k2, k3⟩, h3⟩, hL⟩ =>
  ⟨a, b, dj, ha, hb, ⟨bm, a1, b1, d1, ha1, hb1, h1, a2, b2, d2, ha2, hb2, ⟨es, clock, k1, hT.move (fun x e y ⟨t1, t2, t3⟩ ⟨e1, e2, _⟩ => ⟨by rw [e1, t1], by rw [e2]; unfold mDB; dsimp only; rw [t2, t3], trivial⟩) k2, k3⟩, h3⟩, hL⟩
theorem sv_nilE {P : Program} {S : List HP} {a : Act} {d : Option Tmp} {ty : TypeId} {pos : String} {aft : Array Edge} {gd : Option (Nat × Bool)} {ad : Addr} {j s o : Nat} {x : Operand} (hx : a.eval x = elp (some ad) j s o) : SV P W0 S ⟨d, .nilCheck x, ty, pos, aft, gd⟩ a (elp (some ad) j s o) := ⟨fun w _ => by unfold execOp; simp [hx, elp]⟩
theorem set_one {n : Int} {x f : DF} : setF n x [(n, f)] = if x.b.length = 0 then [] else [(n, x)] := by
  unfold setF
  rw [putM_cons, if_pos rfl, delM_cons, if_pos rfl]
set_option maxHeartbeats 4000000 in
theorem Crash_one' {p D : Nat} {n : Int} {A0 : Option Addr} {c0 : Nat} {fb : List UInt8} {room left z : Int} {off armed : Bool} {kv : Value} {kp : List Int} (hkv : rd eI kv kp ∈ L) (hkl : kp.length ≤ 1000000000) (hkr : ∀ x ∈ kp, -9223372036854775808 ≤ x ∧ x ≤ 9223372036854775807) (hz1 : -9223372036854775808 ≤ z) (hz2 : z ≤ 9223372036854775807) (hD : D ≤ fb.length) (hfb : fb.length ≤ 100000000) :
    CT Try.prog 18 #[.pointer (some ⟨p, 0, none⟩), kv, .int .i64 z] W0 (dsk p ⟨[(n, ⟨.slice A0 fb.length c0, fb, (D : Int)⟩)], room, off, armed, left⟩ :: rd eB (.slice A0 fb.length c0) fb :: L) fun r L' => ∃ y, r = .tuple #[] ∧ L' = dsk p ⟨if (crB kp z D fb).length = 0 then [] else [(n, ⟨y, crB kp z D fb, ((crB kp z D fb).length : Int)⟩)], room, false, false, left⟩ :: L := by
  refine CT_fact (fun w s => ((Src.sl (.inl (.tail _ (.tail _ hkv))) s).form)) ?_
  rintro ⟨Ak, ck, rfl, hck⟩
  obtain ⟨kv, hkve⟩ : ∃ kv, Value.slice Ak kp.length ck = kv := ⟨_, rfl⟩
  refine CT_sub2 (sub_dup (.tail _ (.tail _ hkv))) ?_
  obtain ⟨m, hm⟩ : ∃ m, keepN kp 0 fb.length D = m := ⟨_, rfl⟩
  have hmD := keepN_le kp 0 fb.length D hD
  rw [hm] at hmD
  obtain ⟨b1, hb1⟩ : ∃ b1, fb.take (D + m) = b1 := ⟨_, rfl⟩
  have hb1l : b1.length = D + m := by rw [← hb1, List.length_take]; omega
  have hcr : crB kp z D fb = turnB z D m b1 := by unfold crB; rw [hm, hb1]
  rw [hcr]
  have htl := turnB_len z D m b1
  refine CT_enter Try.func18 rfl ?_; (simp only [Try.ntmps18, List.size_toArray, List.length_cons, List.length_nil, Nat.reduceAdd, Nat.reduceSub, Array.replicate_succ, Array.replicate_zero, List.push_toArray, List.append_toArray, List.nil_append, List.cons_append])
  repeat' (first | refine go ?_ | intro _ | (apply cG; first | refine cT ?_ | refine cF ?_ | refine cS (fun _ => ?_) fun _ => ?_) | (apply gW; refine sW ?_) | (apply gI; refine sI ?_) | (apply gE; refine sE ?_) | (apply gP; refine sP ?_) | (apply gC; refine sC ?_) | (apply gD; refine sD ?_) | fail)
  refine O_d (dy_call ArgsI.pf (by first | exact rfl | trivial | (intro a b; rfl)) (CT.pull (i := 1) (by rfl) (Files_ct (by show 1 ≤ 1000000; decide)))) ?_; rintro _ _ ⟨_, ⟨ys, A1, c1, hy, _, rfl, rfl⟩, rfl⟩; refine O_n ?_
  have hy2 : ys = [n] := List.perm_singleton.1 hy
  subst hy2
  subst hkve
  dsimp only [List.length_cons, List.length_nil]
  repeat' (first | refine go ?_ | intro _ | (apply cG; first | refine cT ?_ | refine cF ?_ | refine cS (fun _ => ?_) fun _ => ?_) | (apply gW; refine sW ?_) | (apply gI; refine sI ?_) | (apply gE; refine sE ?_) | (apply gP; refine sP ?_) | (apply gC; refine sC ?_) | (apply gD; refine sD ?_) | fail)
  refine C_sub (S := own 3 eI (.slice A1 (0 + 1) c1) [n] :: dsk p ⟨[(n, ⟨.slice A0 fb.length c0, fb, (D : Int)⟩)], room, off, armed, left⟩ :: rd eB (.slice A0 fb.length c0) fb :: rd eI (.slice Ak kp.length ck) kp :: L) Sb ?_
  refine C_loop (κ := Nat × Option Addr × Nat × Option Addr × Nat) [false, false, false, false, false, false, true, true, true, true, true, true, false, false, false, false, false, true, true, true, true, true, true, true, true, true, true, true, true, true, true, true, true, true, true, true, true, true, true, true, true, true, true, true, true, true, true, true, true, true, true, true, true, true, true, true, true, true, true, true, true, true, true, true, true, true, true, true, true, true, true, true, true, true, false, false, false, false, false, false, false, false, false, false, false, false, false, false, false, false, false, false, false, false, false, false, false, false, false, false, false, false, false, false, false, false, false] (fun k => [(6, (match k.1 with | 0 => .slice none 0 0 | _ => .slice k.2.2.2.1 m k.2.2.2.2)), (17, .int .i64 (k.1 : Int))]) (fun k => (match k.1 with | 0 => own 3 eI (.slice A1 1 c1) [n] :: dsk p ⟨[(n, ⟨.slice A0 fb.length c0, fb, (D : Int)⟩)], room, off, armed, left⟩ :: rd eB (.slice A0 fb.length c0) fb :: rd eI (.slice Ak kp.length ck) kp :: L | _ => own 3 eI (.slice A1 1 c1) [n] :: dskG mDB p ⟨setF n ⟨.slice k.2.1 b1.length k.2.2.1, b1, (D : Int)⟩ [(n, ⟨.slice A0 fb.length c0, fb, (D : Int)⟩)], room, off, armed, left⟩ :: own 5 eB (.slice k.2.1 b1.length k.2.2.1) b1 :: own 79 (eEl k.2.1) (.slice k.2.2.2.1 m k.2.2.2.2) (loos D m) :: rd eB (.slice A0 fb.length c0) fb :: rd eI (.slice Ak kp.length ck) kp :: L)) (fun k => k.1 ≤ 1) (fun k => 1 - k.1) (0, none, 0, none, 0) (Nat.zero_le _) ⟨rfl, rfl, trivial⟩ (Sub.refl _) ?_
  rintro ⟨i, A2, c2, Al, cl⟩ u hi
  dsimp only at hi
  obtain rfl | rfl : i = 0 ∨ i = 1 := by omega
  · dsimp only
    ((try dsimp only); refine C_n ?_; (try simp only [Nat.reduceAdd, Nat.zero_add]))
    refine dsk_C 1 rfl fun mb => ?_
    simp only [List.eraseIdx_cons_succ, List.eraseIdx_cons_zero]
    have han : At [n] 0 n := ⟨rfl⟩
    have hfF : fileF n [(n, ⟨.slice A0 fb.length c0, fb, (D : Int)⟩)] = ⟨.slice A0 fb.length c0, fb, (D : Int)⟩ := by rw [fileF_cons, if_pos rfl]
    repeat' (first | refine go ?_ | intro _ | (apply cG; first | refine cT ?_ | refine cF ?_ | refine cS (fun _ => ?_) fun _ => ?_) | (apply gW; refine sW ?_) | (apply gI; refine sI ?_) | (apply gE; refine sE ?_) | (apply gP; refine sP ?_) | (apply gC; refine sC ?_) | (apply gD; refine sD ?_) | fail)
    refine O_s (sv_lookp (R := mDF) (b := mb) (by repeat (first | exact .head _ | refine .tail _ ?_)) Ev.pf Ev.pf (fileF_val n _)) ?_
    rw [hfF]
    simp only [mDF_val]
    repeat' (first | ((fail_if_success apply AtE); refine go ?_) | intro _ | (apply cG; first | refine cT ?_ | refine cF ?_ | refine cS (fun _ => ?_) fun _ => ?_) | (apply gW; refine sW ?_) | (apply gI; refine sI ?_) | (apply gE; refine sE ?_) | (apply gP; refine sP ?_) | (apply gC; refine sC ?_) | (apply gD; refine sD ?_) | fail)
    rename_i bx
    refine go ?_
    repeat' (first | ((fail_if_success apply AtE); refine go ?_) | intro _ | (apply cG; first | refine cT ?_ | refine cF ?_ | refine cS (fun _ => ?_) fun _ => ?_) | (apply gW; refine sW ?_) | (apply gI; refine sI ?_) | (apply gE; refine sE ?_) | (apply gP; refine sP ?_) | (apply gC; refine sC ?_) | (apply gD; refine sD ?_) | fail)
    refine go ?_; refine go ?_; refine C_join (κ := Unit) [false, false, false, false, false, false, false, false, false, false, true, false, false, false, false, false, false, false, false, false, false, false, false, false, false, false, false, false, true, true, true, true, true, true, true, true, true, true, true, true, true, true, true, true, false, false, false, false, false, false, false, false, false, false, false, false, false, false, false, false, false, false, false, false, false, false, false, false, false, false, false, false, false, false, false, false, false, false, false, false, false, false, false, false, false, false, false, false, false, false, false, false, false, false, false, false, false, false, false, false, false, false, false, false, false, false, false] (fun k => [(10, .int .i64 (m : Int))]) (fun k => []) (fun k => True) ?_ ?_
    · cases hkp : kp[0]? with
      | none =>
        have hm0 : m = 0 := by rw [← hm]; unfold keepN; rw [hkp]
        have hkl0 : kp.length = 0 := by
          rw [List.getElem?_eq_none_iff] at hkp
          omega
        subst hm0
        repeat' (first | refine go ?_ | intro _ | (apply cG; first | refine cT ?_ | refine cF ?_ | refine cS (fun _ => ?_) fun _ => ?_) | (apply gW; refine sW ?_) | (apply gI; refine sI ?_) | (apply gE; refine sE ?_) | (apply gP; refine sP ?_) | (apply gC; refine sC ?_) | (apply gD; refine sD ?_) | fail)
        exact E_join () trivial ⟨rfl, trivial⟩ Sb
      | some x =>
        have hxr := hkr x (List.mem_of_getElem? hkp)
        have hax : At kp 0 x := ⟨hkp⟩
        have hkl0 := (List.getElem?_eq_some_iff.1 hkp).1
        have hm0 : (max 0 (min x ((fb.length : Int) - (D : Int)))).toNat = m := by rw [← hm]; unfold keepN; rw [hkp]
        repeat' (first | refine go ?_ | intro _ | (apply cG; first | refine cT ?_ | refine cF ?_ | refine cS (fun _ => ?_) fun _ => ?_) | (apply gW; refine sW ?_) | (apply gI; refine sI ?_) | (apply gE; refine sE ?_) | (apply gP; refine sP ?_) | (apply gC; refine sC ?_) | (apply gD; refine sD ?_) | fail)
        refine C_draw (n := 99) [cel bx [.slice A0 fb.length c0, .int .i64 (D : Int)] 77, rd eI (.slice Ak kp.length ck) kp] [(0, 1), (1, 1), (2, 1), (3, 1), (4, 1), (5, 1), (6, 1), (7, 1), (8, 1), (9, 1), (10, 1), (11, 1), (12, 1)] (by kernel_rfl) (by kernel_rfl) Sb ?_
        obtain ⟨mi, hmi⟩ : ∃ mi : Int, min x ((fb.length : Int) - (D : Int)) = mi := ⟨_, rfl⟩
        rw [hmi] at hm0
        have hmin : (if ((fb.length : Int) - (D : Int)) < x then ((fb.length : Int) - (D : Int)) else x) = mi := by split <;> omega
        have hmax : (if (0 : Int) < mi then mi else 0) = (m : Int) := by split <;> omega
        repeat' (first | refine go ?_ | intro _ | (apply cG; first | refine cT ?_ | refine cF ?_ | refine cS (fun _ => ?_) fun _ => ?_) | (apply gI; refine sI ?_) | (apply gE; refine sE ?_) | (apply gP; refine sP ?_) | (apply gC; refine sC ?_) | (apply gD; refine sD ?_) | fail)
        apply gW; refine sW (r := (fb.length : Int) - (D : Int)) ?_ (wr_i64 (by omega) (by omega))
        repeat' (first | refine go ?_ | intro _ | (apply cG; first | refine cT ?_ | refine cF ?_ | refine cS (fun _ => ?_) fun _ => ?_) | (apply gI; refine sI ?_) | (apply gE; refine sE ?_) | (apply gP; refine sP ?_) | (apply gC; refine sC ?_) | (apply gD; refine sD ?_) | fail)
        apply gW; refine sW (r := mi) ?_ hmin
        repeat' (first | refine go ?_ | intro _ | (apply cG; first | refine cT ?_ | refine cF ?_ | refine cS (fun _ => ?_) fun _ => ?_) | (apply gI; refine sI ?_) | (apply gE; refine sE ?_) | (apply gP; refine sP ?_) | (apply gC; refine sC ?_) | (apply gD; refine sD ?_) | fail)
        apply gW; refine sW (r := (m : Int)) ?_ hmax
        repeat' (first | refine go ?_ | intro _ | (apply cG; first | refine cT ?_ | refine cF ?_ | refine cS (fun _ => ?_) fun _ => ?_) | (apply gW; refine sW ?_) | (apply gI; refine sI ?_) | (apply gE; refine sE ?_) | (apply gP; refine sP ?_) | (apply gC; refine sC ?_) | (apply gD; refine sD ?_) | fail)
        exact E_join () trivial ⟨rfl, trivial⟩ Sb
    rintro ⟨⟩ u2 _
    ((try dsimp only); refine C_n ?_; (try simp only [Nat.reduceAdd, Nat.zero_add]))
    repeat' (first | refine go ?_ | intro _ | (apply cG; first | refine cT ?_ | refine cF ?_ | refine cS (fun _ => ?_) fun _ => ?_) | (apply gW; refine sW ?_) | (apply gI; refine sI ?_) | (apply gE; refine sE ?_) | (apply gP; refine sP ?_) | (apply gC; refine sC ?_) | (apply gD; refine sD ?_) | fail)
    have htn : ((D : Int) + (m : Int)).toNat - 0 = D + m := by omega
    rw [htn, List.drop_zero, hb1]
    refine O_d (dy_call ArgsI.pf (by first | exact rfl | trivial | (intro a b; rfl)) (Clone_ct (l := b1) Sc.pf (by omega))) ?_; rintro _ _ ⟨_, ⟨A2, c2, rfl, rfl⟩, rfl⟩; refine O_n ?_
    repeat' (first | refine go ?_ | intro _ | (apply cG; first | refine cT ?_ | refine cF ?_ | refine cS (fun _ => ?_) fun _ => ?_) | (apply gW; refine sW ?_) | (apply gI; refine sI ?_) | (apply gE; refine sE ?_) | (apply gP; refine sP ?_) | (apply gC; refine sC ?_) | (apply gD; refine sD ?_) | fail)
    refine C_ownnil 79 (eEl A2) ?_
    rename_i As cs
    refine C_sub (S := cel p [.map (some mb), .int .i64 room, .bool off, .bool armed, .int .i64 left] 73 :: mapo mDF mb [(n, ⟨.slice A0 fb.length c0, fb, (D : Int)⟩)] :: own 79 (eEl A2) (.slice none 0 0) [] :: own 5 eB (.slice A2 b1.length c2) b1 :: cel bx [.slice A2 b1.length c2, .int .i64 (D : Int)] 77 :: own 3 eI (.slice A1 1 c1) [n] :: rd eB (.slice A0 fb.length c0) fb :: rd eI (.slice Ak kp.length ck) kp :: L) Sb ?_
    refine C_loopS (κ := Nat × Option Addr × Nat) [false, false, false, false, false, false, true, false, false, false, false, true, false, false, false, false, false, false, false, false, false, false, false, false, false, false, false, false, false, false, false, false, false, false, false, false, false, false, false, false, false, false, false, false, false, false, false, false, false, false, false, false, false, false, false, true, true, true, true, true, true, true, true, true, true, true, true, true, true, false, false, false, false, false, false, false, false, false, false, false, false, false, false, false, false, false, false, false, false, false, false, false, false, false, false, false, false, false, false, false, false, false, false, false, false, false, false] (fun k => [(6, .slice k.2.1 k.1 k.2.2), (11, .int .i64 ((D + k.1 : Nat) : Int))]) (fun k => [(2, own 79 (eEl A2) (.slice k.2.1 k.1 k.2.2) (loos D k.1))]) (fun k => k.1 ≤ m) (fun k => m - k.1) (0, none, 0) (Nat.zero_le _) ⟨rfl, rfl, trivial⟩ ?_ Sb
    rintro ⟨j, Al, cl⟩ u3 hj
    dsimp only at hj
    have hjl := loos_len D j
    ((try dsimp only); refine C_n ?_; (try simp only [Nat.reduceAdd, Nat.zero_add]))
    by_cases hlt : j < m
    · obtain ⟨y, hy3⟩ : ∃ y, b1[D + j]? = some y := ⟨_, List.getElem?_eq_getElem (by omega)⟩
      have hay : At b1 (D + j) y := ⟨hy3⟩
      repeat' (first | refine go ?_ | intro _ | (apply cG; first | refine cT ?_ | refine cF ?_ | refine cS (fun _ => ?_) fun _ => ?_) | (apply gW; refine sW ?_) | (apply gI; refine sI ?_) | (apply gE; refine sE ?_) | (apply gP; refine sP ?_) | (apply gC; refine sC ?_) | (apply gD; refine sD ?_) | fail)
      refine O_d (dy_lit1 (R := (eEl A2)) (D + j) (hcs := by rfl) (hel := fun _ _ _ => by rfl)) ?_; rintro _ _ ⟨_, rfl, rfl⟩; refine O_n ?_
      refine O_d (dy_append (l := loos D j) (l2 := [D + j]) (N := j + 1) (hN := by rw [hjl]; rfl)) ?_; rintro _ _ ⟨A7, c7, rfl, rfl⟩; refine O_n ?_
      repeat' (first | refine go ?_ | intro _ | (apply cG; first | refine cT ?_ | refine cF ?_ | refine cS (fun _ => ?_) fun _ => ?_) | (apply gW; refine sW ?_) | (apply gI; refine sI ?_) | (apply gE; refine sE ?_) | (apply gP; refine sP ?_) | (apply gC; refine sC ?_) | (apply gD; refine sD ?_) | fail)
      rw [← loos_succ]
      exact E_round (j + 1, A7, c7) hlt (by show m - (j + 1) < m - j; omega) ⟨rfl, by push_cast; rfl, trivial⟩ Sb
    obtain rfl : j = m := by omega
    repeat' (first | refine go ?_ | intro _ | (apply cG; first | refine cT ?_ | refine cF ?_ | refine cS (fun _ => ?_) fun _ => ?_) | (apply gW; refine sW ?_) | (apply gI; refine sI ?_) | (apply gE; refine sE ?_) | (apply gP; refine sP ?_) | (apply gC; refine sC ?_) | (apply gD; refine sD ?_) | fail)
    refine O_sub (S := dskG mDB p ⟨[(n, ⟨.slice A0 fb.length c0, fb, (D : Int)⟩)], room, off, armed, left⟩ :: cel bx [.slice A2 b1.length c2, .int .i64 (D : Int)] 77 :: own 79 (eEl A2) (.slice Al j cl) (loos D j) :: own 5 eB (.slice A2 b1.length c2) b1 :: own 3 eI (.slice A1 1 c1) [n] :: rd eB (.slice A0 fb.length c0) fb :: rd eI (.slice Ak kp.length ck) kp :: L) (Sub.trans (B := cel p [.map (some mb), .int .i64 room, .bool off, .bool armed, .int .i64 left] 73 :: mapo mDF mb [(n, ⟨.slice A0 fb.length c0, fb, (D : Int)⟩)] :: cel bx [.slice A2 b1.length c2, .int .i64 (D : Int)] 77 :: own 79 (eEl A2) (.slice Al j cl) (loos D j) :: own 5 eB (.slice A2 b1.length c2) b1 :: own 3 eI (.slice A1 1 c1) [n] :: rd eB (.slice A0 fb.length c0) fb :: rd eI (.slice Ak kp.length ck) kp :: L) Sb (Sub.trans (dsk_sub (R := mDF) (d := ⟨[(n, ⟨.slice A0 fb.length c0, fb, (D : Int)⟩)], room, off, armed, left⟩)) sub_bare)) ?_
    refine O_d (dy_call ArgsI.pf (by first | exact rfl | trivial | (intro a b; rfl)) (CT.pull (i := 0) (by rfl) (dSet_ct (R := mDB) (x := ⟨.slice A2 b1.length c2, b1, (D : Int)⟩) rfl mDB_val (fun _ _ _ => trivial)))) ?_; rintro _ _ ⟨_, ⟨rfl, rfl⟩, rfl⟩; refine O_n ?_
    dsimp only
    repeat' (first | refine go ?_ | intro _ | (apply cG; first | refine cT ?_ | refine cF ?_ | refine cS (fun _ => ?_) fun _ => ?_) | (apply gW; refine sW ?_) | (apply gI; refine sI ?_) | (apply gE; refine sE ?_) | (apply gP; refine sP ?_) | (apply gC; refine sC ?_) | (apply gD; refine sD ?_) | fail)
    exact E_round (1, A2, c2, Al, cl) (Nat.le_refl _) (by show 1 - 1 < 1 - 0; decide) ⟨rfl, rfl, trivial⟩ (Sub.trans (B := own 3 eI (.slice A1 1 c1) [n] :: dskG mDB p ⟨setF n ⟨.slice A2 b1.length c2, b1, (D : Int)⟩ [(n, ⟨.slice A0 fb.length c0, fb, (D : Int)⟩)], room, off, armed, left⟩ :: own 5 eB (.slice A2 b1.length c2) b1 :: own 79 (eEl A2) (.slice Al j cl) (loos D j) :: rd eB (.slice A0 fb.length c0) fb :: rd eI (.slice Ak kp.length ck) kp :: L) Sb (Sub.refl _))
  · dsimp only
    ((try dsimp only); refine C_n ?_; (try simp only [Nat.reduceAdd, Nat.zero_add]))
    have hll := loos_len D m
    have hT : ∀ b2 : List UInt8, b2.length = b1.length → All2 (fun q q' : Int × DF => q.1 = q'.1 ∧ q.2.v = q'.2.v ∧ q.2.d = q'.2.d) (setF n ⟨.slice A2 b1.length c2, b1, (D : Int)⟩ [(n, ⟨.slice A0 fb.length c0, fb, (D : Int)⟩)]) (if b2.length = 0 then [] else [(n, ⟨.slice A2 b1.length c2, b2, (D : Int)⟩)]) := by
      intro b2 hb2
      rw [set_one, hb2]
      dsimp only
      split
      · exact trivial
      · exact ⟨⟨rfl, rfl, rfl⟩, trivial⟩
    have hi : ∀ (b2 : List UInt8) (m : Hp) (h : Hp), SepL m (rd eB (.slice A2 b1.length c2) b2 :: L) h → ∀ q ∈ (if b2.length = 0 then [] else [(n, (⟨.slice A2 b1.length c2, b2, (D : Int)⟩ : DF))]), Sl m eB q.2.v q.2.b := by
      intro b2 m h hs q hq
      split at hq
      · cases hq
      · simp only [List.mem_cons, List.not_mem_nil, or_false] at hq
        subst hq
        exact rd_mem hs (.head _)
    have hko : ∀ b2 : List UInt8, KeysOk (if b2.length = 0 then [] else [(n, (⟨.slice A2 b1.length c2, b2, (D : Int)⟩ : DF))]) := by
      intro b2
      split
      · exact List.nodup_nil
      · show [n].Nodup
        simp
    have huo : ∀ b2 : List UInt8, b2.length = b1.length → usedL (if b2.length = 0 then [] else [(n, (⟨.slice A2 b1.length c2, b2, (D : Int)⟩ : DF))]) ≤ 1000000000000 := by
      intro b2 hb2
      split
      · exact Nat.zero_le _
      · show b2.length + 0 ≤ _
        omega
    have hha : ∀ b2 : List UInt8, hardL (if b2.length = 0 then [] else [(n, (⟨.slice A2 b1.length c2, b2, (D : Int)⟩ : DF))]) = (if b2.length = 0 then [] else [(n, ⟨.slice A2 b1.length c2, b2, (b2.length : Int)⟩)]) := by
      intro b2
      split <;> rfl
    by_cases hz0 : 0 ≤ z
    rotate_left
    · have htb : turnB z D m b1 = b1 := by unfold turnB; rw [if_neg (fun h => hz0 h.1)]
      repeat' (first | refine go ?_ | intro _ | (apply cG; first | refine cT ?_ | refine cF ?_ | refine cS (fun _ => ?_) fun _ => ?_) | (apply gW; refine sW ?_) | (apply gI; refine sI ?_) | (apply gE; refine sE ?_) | (apply gP; refine sP ?_) | (apply gC; refine sC ?_) | (apply gD; refine sD ?_) | fail)
      refine O_frz 2 ?_
      refine O_sub (S := dsk p ⟨(if List.length b1 = 0 then [] else [(n, ⟨.slice A2 b1.length c2, b1, (D : Int)⟩)]), room, off, armed, left⟩ :: rd eB (.slice A2 b1.length c2) b1 :: L) (Sub.trans (B := dskG mDB p ⟨setF n ⟨.slice A2 b1.length c2, b1, (D : Int)⟩ [(n, ⟨.slice A0 fb.length c0, fb, (D : Int)⟩)], room, off, armed, left⟩ :: rd eB (.slice A2 b1.length c2) b1 :: L) Sb (Sub.trans (sub_ghost (l' := (if List.length b1 = 0 then [] else [(n, ⟨.slice A2 b1.length c2, b1, (D : Int)⟩)])) (hT b1 rfl)) (sub_clad (hi b1)))) ?_
      refine O_d (dy_call ArgsI.pf (by first | exact rfl | trivial | (intro a b; rfl)) (CT.pull (i := 0) (by rfl) (dHarden_ct (d := ⟨(if List.length b1 = 0 then [] else [(n, ⟨.slice A2 b1.length c2, b1, (D : Int)⟩)]), room, off, armed, left⟩) (hko b1) (huo b1 rfl)))) ?_; rintro _ _ ⟨_, ⟨rfl, rfl⟩, rfl⟩; refine O_n ?_
      dsimp only
      rw [hha b1]
      refine dsk_O 0 rfl fun mb2 => ?_
      simp only [List.eraseIdx_cons_zero]
      repeat' (first | refine go ?_ | intro _ | (apply cG; first | refine cT ?_ | refine cF ?_ | refine cS (fun _ => ?_) fun _ => ?_) | (apply gW; refine sW ?_) | (apply gI; refine sI ?_) | (apply gE; refine sE ?_) | (apply gP; refine sP ?_) | (apply gC; refine sC ?_) | (apply gD; refine sD ?_) | fail)
      refine E_sub (S := dsk p ⟨if List.length b1 = 0 then [] else [(n, ⟨.slice A2 b1.length c2, b1, (List.length b1 : Int)⟩)], room, false, false, left⟩ :: L) (Sub.trans (B := cel p [.map (some mb2), .int .i64 room, .bool false, .bool false, .int .i64 left] 73 :: mapo mDF mb2 (if List.length b1 = 0 then [] else [(n, ⟨.slice A2 b1.length c2, b1, (List.length b1 : Int)⟩)]) :: L) Sb (dsk_sub (R := mDF) (d := ⟨if List.length b1 = 0 then [] else [(n, ⟨.slice A2 b1.length c2, b1, (List.length b1 : Int)⟩)], room, false, false, left⟩))) ?_
      refine E_end0 (by first | exact .inl rfl | exact .inr rfl) (by rfl) (by rfl) ⟨.slice A2 b1.length c2, rfl, by rw [htb]⟩
    by_cases hm0 : 0 < m
    rotate_left
    · have htb : turnB z D m b1 = b1 := by unfold turnB; rw [if_neg (fun h => hm0 h.2)]
      repeat' (first | refine go ?_ | intro _ | (apply cG; first | refine cT ?_ | refine cF ?_ | refine cS (fun _ => ?_) fun _ => ?_) | (apply gW; refine sW ?_) | (apply gI; refine sI ?_) | (apply gE; refine sE ?_) | (apply gP; refine sP ?_) | (apply gC; refine sC ?_) | (apply gD; refine sD ?_) | fail)
      refine O_frz 2 ?_
      refine O_sub (S := dsk p ⟨(if List.length b1 = 0 then [] else [(n, ⟨.slice A2 b1.length c2, b1, (D : Int)⟩)]), room, off, armed, left⟩ :: rd eB (.slice A2 b1.length c2) b1 :: L) (Sub.trans (B := dskG mDB p ⟨setF n ⟨.slice A2 b1.length c2, b1, (D : Int)⟩ [(n, ⟨.slice A0 fb.length c0, fb, (D : Int)⟩)], room, off, armed, left⟩ :: rd eB (.slice A2 b1.length c2) b1 :: L) Sb (Sub.trans (sub_ghost (l' := (if List.length b1 = 0 then [] else [(n, ⟨.slice A2 b1.length c2, b1, (D : Int)⟩)])) (hT b1 rfl)) (sub_clad (hi b1)))) ?_
      refine O_d (dy_call ArgsI.pf (by first | exact rfl | trivial | (intro a b; rfl)) (CT.pull (i := 0) (by rfl) (dHarden_ct (d := ⟨(if List.length b1 = 0 then [] else [(n, ⟨.slice A2 b1.length c2, b1, (D : Int)⟩)]), room, off, armed, left⟩) (hko b1) (huo b1 rfl)))) ?_; rintro _ _ ⟨_, ⟨rfl, rfl⟩, rfl⟩; refine O_n ?_
      dsimp only
      rw [hha b1]
      refine dsk_O 0 rfl fun mb2 => ?_
      simp only [List.eraseIdx_cons_zero]
      repeat' (first | refine go ?_ | intro _ | (apply cG; first | refine cT ?_ | refine cF ?_ | refine cS (fun _ => ?_) fun _ => ?_) | (apply gW; refine sW ?_) | (apply gI; refine sI ?_) | (apply gE; refine sE ?_) | (apply gP; refine sP ?_) | (apply gC; refine sC ?_) | (apply gD; refine sD ?_) | fail)
      refine E_sub (S := dsk p ⟨if List.length b1 = 0 then [] else [(n, ⟨.slice A2 b1.length c2, b1, (List.length b1 : Int)⟩)], room, false, false, left⟩ :: L) (Sub.trans (B := cel p [.map (some mb2), .int .i64 room, .bool false, .bool false, .int .i64 left] 73 :: mapo mDF mb2 (if List.length b1 = 0 then [] else [(n, ⟨.slice A2 b1.length c2, b1, (List.length b1 : Int)⟩)]) :: L) Sb (dsk_sub (R := mDF) (d := ⟨if List.length b1 = 0 then [] else [(n, ⟨.slice A2 b1.length c2, b1, (List.length b1 : Int)⟩)], room, false, false, left⟩))) ?_
      refine E_end0 (by first | exact .inl rfl | exact .inr rfl) (by rfl) (by rfl) ⟨.slice A2 b1.length c2, rfl, by rw [htb]⟩
    refine C_fact (φ := A2 = none → b1 = []) (fun w s hA => by subst hA; exact (Src.sl (.inr ⟨_, .tail _ (.tail _ (.head _))⟩) s : Sl _ eB _ b1).nil_of) fun hA => ?_
    obtain ⟨ad, rfl⟩ : ∃ ad, A2 = some ad := by
      cases A2 with
      | none => have := hA rfl; rw [this] at hb1l; simp only [List.length_nil] at hb1l; omega
      | some ad => exact ⟨ad, rfl⟩
    obtain ⟨k, hk, hkl⟩ : ∃ k : Nat, z % (8 * (m : Int)) = (k : Int) ∧ k < 8 * m := by
      have h1 := Int.emod_nonneg z (b := 8 * (m : Int)) (by omega)
      have h2 := Int.emod_lt_of_pos z (b := 8 * (m : Int)) (by omega)
      exact ⟨(z % (8 * (m : Int))).toNat, by omega, by omega⟩
    repeat' (first | refine go ?_ | intro _ | (apply cG; first | refine cT ?_ | refine cF ?_ | refine cS (fun _ => ?_) fun _ => ?_) | (apply gI; refine sI ?_) | (apply gE; refine sE ?_) | (apply gP; refine sP ?_) | (apply gC; refine sC ?_) | (apply gD; refine sD ?_) | fail)
    apply gW; refine sW (r := 8 * (m : Int)) ?_ (wr_i64 (by omega) (by omega))
    repeat' (first | refine go ?_ | intro _ | (apply cG; first | refine cT ?_ | refine cF ?_ | refine cS (fun _ => ?_) fun _ => ?_) | (apply gI; refine sI ?_) | (apply gE; refine sE ?_) | (apply gP; refine sP ?_) | (apply gC; refine sC ?_) | (apply gD; refine sD ?_) | fail)
    apply gW; refine sW (r := (k : Int)) ?_ ⟨by omega, by rw [wm_nn (by omega)]; exact hk⟩
    repeat' (first | refine go ?_ | intro _ | (apply cG; first | refine cT ?_ | refine cF ?_ | refine cS (fun _ => ?_) fun _ => ?_) | (apply gI; refine sI ?_) | (apply gE; refine sE ?_) | (apply gP; refine sP ?_) | (apply gC; refine sC ?_) | (apply gD; refine sD ?_) | fail)
    refine C_draw (n := 13) [own 79 (eEl (some ad)) (.slice Al m cl) (loos D m), own 5 eB (.slice (some ad) b1.length c2) b1] [(0, 1), (1, 1), (2, 1), (3, 1), (4, 1), (5, 1), (6, 1), (7, 1), (8, 1), (9, 1), (10, 1), (11, 1), (12, 1), (13, 0)] (by kernel_rfl) (by kernel_rfl) Sb ?_
    have hal : At (loos D m) (k / 8) (D + k / 8) := ⟨loos_get (by omega)⟩
    obtain ⟨y, hy3⟩ : ∃ y, b1[D + k / 8]? = some y := ⟨_, List.getElem?_eq_getElem (by omega)⟩
    have hay : At b1 (D + k / 8) y := ⟨hy3⟩
    obtain ⟨hz8, _⟩ := fl8_eq (y := y) (s := 7 - k % 8) (by omega)
    repeat' (first | refine go ?_ | intro _ | (apply cG; first | refine cT ?_ | refine cF ?_ | refine cS (fun _ => ?_) fun _ => ?_) | (apply gI; refine sI ?_) | (apply gE; refine sE ?_) | (apply gP; refine sP ?_) | (apply gC; refine sC ?_) | (apply gD; refine sD ?_) | fail)
    apply gW; refine sW (r := ((k / 8 : Nat) : Int)) ?_ ⟨by decide, by show IntKind.i64.wrap ((k / 8 : Nat) : Int) = ((k / 8 : Nat) : Int); exact wr_i64 (by omega) (by omega)⟩
    repeat' (first | refine go ?_ | intro _ | (apply cG; first | refine cT ?_ | refine cF ?_ | refine cS (fun _ => ?_) fun _ => ?_) | (apply gI; refine sI ?_) | (apply gE; refine sE ?_) | (apply gP; refine sP ?_) | (apply gC; refine sC ?_) | (apply gD; refine sD ?_) | fail)
    refine D_op rfl ?_; refine X_s (sv_nilE (s := 1) (o := 0) Ev.pf) ?_
    repeat' (first | refine go ?_ | intro _ | (apply cG; first | refine cT ?_ | refine cF ?_ | refine cS (fun _ => ?_) fun _ => ?_) | (apply gI; refine sI ?_) | (apply gE; refine sE ?_) | (apply gP; refine sP ?_) | (apply gC; refine sC ?_) | (apply gD; refine sD ?_) | fail)
    apply gW; refine sW (r := ((k % 8 : Nat) : Int)) ?_ ⟨by decide, rfl⟩
    repeat' (first | refine go ?_ | intro _ | (apply cG; first | refine cT ?_ | refine cF ?_ | refine cS (fun _ => ?_) fun _ => ?_) | (apply gI; refine sI ?_) | (apply gE; refine sE ?_) | (apply gP; refine sP ?_) | (apply gC; refine sC ?_) | (apply gD; refine sD ?_) | fail)
    apply gW; refine sW (r := ((7 - k % 8 : Nat) : Int)) ?_ (by rw [wr_i64 (by omega) (by omega)]; omega)
    repeat' (first | refine go ?_ | intro _ | (apply cG; first | refine cT ?_ | refine cF ?_ | refine cS (fun _ => ?_) fun _ => ?_) | (apply gI; refine sI ?_) | (apply gE; refine sE ?_) | (apply gP; refine sP ?_) | (apply gC; refine sC ?_) | (apply gD; refine sD ?_) | fail)
    refine D_op rfl ?_; refine X_s (sv_shl (hr := (show IntKind.u8.wrap (1 * 2 ^ (((7 - k % 8 : Nat) : Int)).toNat) = IntKind.u8.wrap (1 * 2 ^ (7 - k % 8)) from rfl))) ?_
    refine D_op rfl ?_; refine X_s (sv_xor (hr := hz8)) ?_
    repeat' (first | refine go ?_ | intro _ | (apply cG; first | refine cT ?_ | refine cF ?_ | refine cS (fun _ => ?_) fun _ => ?_) | (apply gI; refine sI ?_) | (apply gE; refine sE ?_) | (apply gP; refine sP ?_) | (apply gC; refine sC ?_) | (apply gD; refine sD ?_) | fail)
    refine D_op rfl ?_; refine X_s (sv_nilE (s := 1) (o := 0) Ev.pf) ?_
    repeat' (first | refine go ?_ | intro _ | (apply cG; first | refine cT ?_ | refine cF ?_ | refine cS (fun _ => ?_) fun _ => ?_) | (apply gI; refine sI ?_) | (apply gE; refine sE ?_) | (apply gP; refine sP ?_) | (apply gC; refine sC ?_) | (apply gD; refine sD ?_) | fail)
    refine D_op rfl ?_; refine X_d (dy_storeE (f := bv) (hf := fun _ => rfl) (n := b1.length) (c := c2) (fl8 y (7 - k % 8)) (hy := by rfl) (hj := by omega)) ?_; rintro _ _ ⟨rfl, hLL⟩; replace hLL := hLL.trans SAt.pf; subst hLL; refine ⟨(by first | exact .inl rfl | exact .inr Sb), D_n ?_⟩
    obtain ⟨b2, hb2⟩ : ∃ b2, b1.set (D + k / 8) (fl8 y (7 - k % 8)) = b2 := ⟨_, rfl⟩
    have hb2l : b2.length = b1.length := by rw [← hb2, List.length_set]
    have htb : turnB z D m b1 = b2 := by
      have hkk : (z % ((8 * m : Nat) : Int)).toNat = k := by
        push_cast
        rw [hk]
        rfl
      unfold turnB
      rw [if_pos ⟨hz0, hm0⟩, hkk, List.getD_eq_getElem?_getD, hy3, ← hb2]
      rfl
    rw [hb2]
    repeat' (first | refine go ?_ | intro _ | (apply cG; first | refine cT ?_ | refine cF ?_ | refine cS (fun _ => ?_) fun _ => ?_) | (apply gW; refine sW ?_) | (apply gI; refine sI ?_) | (apply gE; refine sE ?_) | (apply gP; refine sP ?_) | (apply gC; refine sC ?_) | (apply gD; refine sD ?_) | fail)
    refine O_frz 2 ?_
    refine O_sub (S := dsk p ⟨(if List.length b2 = 0 then [] else [(n, ⟨.slice (some ad) b1.length c2, b2, (D : Int)⟩)]), room, off, armed, left⟩ :: rd eB (.slice (some ad) b1.length c2) b2 :: L) (Sub.trans (B := dskG mDB p ⟨setF n ⟨.slice (some ad) b1.length c2, b1, (D : Int)⟩ [(n, ⟨.slice A0 fb.length c0, fb, (D : Int)⟩)], room, off, armed, left⟩ :: rd eB (.slice (some ad) b1.length c2) b2 :: L) Sb (Sub.trans (sub_ghost (l' := (if List.length b2 = 0 then [] else [(n, ⟨.slice (some ad) b1.length c2, b2, (D : Int)⟩)])) (hT b2 hb2l)) (sub_clad (hi b2)))) ?_
    refine O_d (dy_call ArgsI.pf (by first | exact rfl | trivial | (intro a b; rfl)) (CT.pull (i := 0) (by rfl) (dHarden_ct (d := ⟨(if List.length b2 = 0 then [] else [(n, ⟨.slice (some ad) b1.length c2, b2, (D : Int)⟩)]), room, off, armed, left⟩) (hko b2) (huo b2 hb2l)))) ?_; rintro _ _ ⟨_, ⟨rfl, rfl⟩, rfl⟩; refine O_n ?_
    dsimp only
    rw [hha b2]
    refine dsk_O 0 rfl fun mb2 => ?_
    simp only [List.eraseIdx_cons_zero]
    repeat' (first | refine go ?_ | intro _ | (apply cG; first | refine cT ?_ | refine cF ?_ | refine cS (fun _ => ?_) fun _ => ?_) | (apply gW; refine sW ?_) | (apply gI; refine sI ?_) | (apply gE; refine sE ?_) | (apply gP; refine sP ?_) | (apply gC; refine sC ?_) | (apply gD; refine sD ?_) | fail)
    refine E_sub (S := dsk p ⟨if List.length b2 = 0 then [] else [(n, ⟨.slice (some ad) b1.length c2, b2, (List.length b2 : Int)⟩)], room, false, false, left⟩ :: L) (Sub.trans (B := cel p [.map (some mb2), .int .i64 room, .bool false, .bool false, .int .i64 left] 73 :: mapo mDF mb2 (if List.length b2 = 0 then [] else [(n, ⟨.slice (some ad) b1.length c2, b2, (List.length b2 : Int)⟩)]) :: L) Sb (dsk_sub (R := mDF) (d := ⟨if List.length b2 = 0 then [] else [(n, ⟨.slice (some ad) b1.length c2, b2, (List.length b2 : Int)⟩)], room, false, false, left⟩))) ?_
    refine E_end0 (by first | exact .inl rfl | exact .inr rfl) (by rfl) (by rfl) ⟨.slice (some ad) b1.length c2, rfl, by rw [htb]⟩
theorem Crash_one {p : Nat} {n : Int} {f : DF} {room left z : Int} {off armed : Bool} {kv : Value} {kp : List Int} (hd : DOk ⟨[(n, f)], room, off, armed, left⟩) (hkv : rd eI kv kp ∈ L) (hkl : kp.length ≤ 1000000000) (hkr : ∀ x ∈ kp, -9223372036854775808 ≤ x ∧ x ≤ 9223372036854775807) (hz1 : -9223372036854775808 ≤ z) (hz2 : z ≤ 9223372036854775807) :
    CT Try.prog 18 #[.pointer (some ⟨p, 0, none⟩), kv, .int .i64 z] W0 (dsk p ⟨[(n, f)], room, off, armed, left⟩ :: L) fun r L' => ∃ y, r = .tuple #[] ∧ L' = dsk p ⟨if (crB kp z f.d.toNat f.b).length = 0 then [] else [(n, ⟨y, crB kp z f.d.toNat f.b, ((crB kp z f.d.toNat f.b).length : Int)⟩)], room, false, false, left⟩ :: L := by
  have hF : fileF n [(n, f)] = f := by rw [fileF_cons, if_pos rfl]
  have h0 := hd.d0 n
  have hu : ((f.b.length + 0 : Nat) : Int) ≤ room := hd.u
  have hr : room ≤ 16777216 := hd.r1
  dsimp only at h0
  rw [hF] at h0
  obtain ⟨fv, fb, fd⟩ := f
  obtain ⟨D, rfl⟩ : ∃ D : Nat, fd = (D : Int) := ⟨fd.toNat, by have := h0.1; dsimp only at this; omega⟩
  dsimp only at h0 hu
  refine CT_sub2 (dsk_file (n := n)) ?_
  dsimp only
  rw [hF]
  dsimp only
  refine CT_fact (fun w s => (Src.sl (.inl (.head _)) s : Sl _ eB fv fb).form) ?_
  rintro ⟨A0, c0, rfl, _⟩
  refine CT_sub2 (S := dsk p ⟨[(n, ⟨.slice A0 fb.length c0, fb, (D : Int)⟩)], room, off, armed, left⟩ :: rd eB (.slice A0 fb.length c0) fb :: L) (fun m h s => s.swap) ?_
  exact Crash_one' hkv hkl hkr hz1 hz2 (by omega) (by omega)
theorem Crash_none {p : Nat} {room left z : Int} {off armed : Bool} {kv : Value} {kp : List Int} (hkv : rd eI kv kp ∈ L) (hkl : kp.length ≤ 1000000000) (hz1 : -9223372036854775808 ≤ z) (hz2 : z ≤ 9223372036854775807) :
    CT Try.prog 18 #[.pointer (some ⟨p, 0, none⟩), kv, .int .i64 z] W0 (dsk p ⟨[], room, off, armed, left⟩ :: L) fun r L' => r = .tuple #[] ∧ L' = dsk p ⟨[], room, false, false, left⟩ :: L := by
  refine CT_enter Try.func18 rfl ?_; (simp only [Try.ntmps18, List.size_toArray, List.length_cons, List.length_nil, Nat.reduceAdd, Nat.reduceSub, Array.replicate_succ, Array.replicate_zero, List.push_toArray, List.append_toArray, List.nil_append, List.cons_append])
  repeat' (first | refine go ?_ | intro _ | (apply cG; first | refine cT ?_ | refine cF ?_ | refine cS (fun _ => ?_) fun _ => ?_) | (apply gW; refine sW ?_) | (apply gI; refine sI ?_) | (apply gE; refine sE ?_) | (apply gP; refine sP ?_) | (apply gC; refine sC ?_) | (apply gD; refine sD ?_) | fail)
  refine O_d (dy_call ArgsI.pf (by first | exact rfl | trivial | (intro a b; rfl)) (CT.pull (i := 0) (by rfl) (Files_ct (by show 0 ≤ 1000000; decide)))) ?_; rintro _ _ ⟨_, ⟨ys, A1, c1, hy, _, rfl, rfl⟩, rfl⟩; refine O_n ?_
  have hy2 : ys = [] := List.perm_nil.1 hy
  subst hy2
  dsimp only [List.length_nil]
  repeat' (first | refine go ?_ | intro _ | (apply cG; first | refine cT ?_ | refine cF ?_ | refine cS (fun _ => ?_) fun _ => ?_) | (apply gW; refine sW ?_) | (apply gI; refine sI ?_) | (apply gE; refine sE ?_) | (apply gP; refine sP ?_) | (apply gC; refine sC ?_) | (apply gD; refine sD ?_) | fail)
  refine C_loopS (κ := Unit) [false, false, false, false, false, false, true, true, true, true, true, true, false, false, false, false, false, true, true, true, true, true, true, true, true, true, true, true, true, true, true, true, true, true, true, true, true, true, true, true, true, true, true, true, true, true, true, true, true, true, true, true, true, true, true, true, true, true, true, true, true, true, true, true, true, true, true, true, true, true, true, true, true, true, false, false, false, false, false, false, false, false, false, false, false, false, false, false, false, false, false, false, false, false, false, false, false, false, false, false, false, false, false, false, false, false, false] (fun k => [(6, .slice none 0 0), (17, .int .i64 0)]) (fun k => []) (fun k => True) (fun k => 0) () trivial ⟨rfl, rfl, trivial⟩ ?_
  rintro ⟨⟩ u _
  ((try dsimp only); refine C_n ?_; (try simp only [Nat.reduceAdd, Nat.zero_add]))
  by_cases hz0 : 0 ≤ z
  · repeat' (first | refine go ?_ | intro _ | (apply cG; first | refine cT ?_ | refine cF ?_ | refine cS (fun _ => ?_) fun _ => ?_) | (apply gW; refine sW ?_) | (apply gI; refine sI ?_) | (apply gE; refine sE ?_) | (apply gP; refine sP ?_) | (apply gC; refine sC ?_) | (apply gD; refine sD ?_) | fail)
    refine O_d (dy_call ArgsI.pf (by first | exact rfl | trivial | (intro a b; rfl)) (CT.pull (i := 1) (by rfl) (dHarden_ct (d := ⟨[], room, off, armed, left⟩) List.nodup_nil (Nat.zero_le _)))) ?_; rintro _ _ ⟨_, ⟨rfl, rfl⟩, rfl⟩; refine O_n ?_
    dsimp only
    refine dsk_O 0 rfl fun mb2 => ?_
    simp only [List.eraseIdx_cons_zero]
    repeat' (first | refine go ?_ | intro _ | (apply cG; first | refine cT ?_ | refine cF ?_ | refine cS (fun _ => ?_) fun _ => ?_) | (apply gW; refine sW ?_) | (apply gI; refine sI ?_) | (apply gE; refine sE ?_) | (apply gP; refine sP ?_) | (apply gC; refine sC ?_) | (apply gD; refine sD ?_) | fail)
    refine E_sub (S := dsk p ⟨[], room, false, false, left⟩ :: L) (Sub.trans (B := cel p [.map (some mb2), .int .i64 room, .bool false, .bool false, .int .i64 left] 73 :: mapo mDF mb2 [] :: L) Sb (dsk_sub (R := mDF) (d := ⟨[], room, false, false, left⟩))) ?_
    refine E_end0 (by first | exact .inl rfl | exact .inr rfl) (by rfl) (by rfl) ⟨rfl, rfl⟩
  · repeat' (first | refine go ?_ | intro _ | (apply cG; first | refine cT ?_ | refine cF ?_ | refine cS (fun _ => ?_) fun _ => ?_) | (apply gW; refine sW ?_) | (apply gI; refine sI ?_) | (apply gE; refine sE ?_) | (apply gP; refine sP ?_) | (apply gC; refine sC ?_) | (apply gD; refine sD ?_) | fail)
    refine O_d (dy_call ArgsI.pf (by first | exact rfl | trivial | (intro a b; rfl)) (CT.pull (i := 1) (by rfl) (dHarden_ct (d := ⟨[], room, off, armed, left⟩) List.nodup_nil (Nat.zero_le _)))) ?_; rintro _ _ ⟨_, ⟨rfl, rfl⟩, rfl⟩; refine O_n ?_
    dsimp only
    refine dsk_O 0 rfl fun mb2 => ?_
    simp only [List.eraseIdx_cons_zero]
    repeat' (first | refine go ?_ | intro _ | (apply cG; first | refine cT ?_ | refine cF ?_ | refine cS (fun _ => ?_) fun _ => ?_) | (apply gW; refine sW ?_) | (apply gI; refine sI ?_) | (apply gE; refine sE ?_) | (apply gP; refine sP ?_) | (apply gC; refine sC ?_) | (apply gD; refine sD ?_) | fail)
    refine E_sub (S := dsk p ⟨[], room, false, false, left⟩ :: L) (Sub.trans (B := cel p [.map (some mb2), .int .i64 room, .bool false, .bool false, .int .i64 left] 73 :: mapo mDF mb2 [] :: L) Sb (dsk_sub (R := mDF) (d := ⟨[], room, false, false, left⟩))) ?_
    refine E_end0 (by first | exact .inl rfl | exact .inr rfl) (by rfl) (by rfl) ⟨rfl, rfl⟩
end
end Go.Proofs.Ytbjaecofccpahaa
