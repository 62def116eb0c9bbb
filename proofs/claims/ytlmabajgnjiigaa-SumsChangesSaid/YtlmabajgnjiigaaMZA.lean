/-
  Package sums: Atoms.
-/
import Derived.Test.YtlmabajgnjiigaaMZ
namespace Go.Proofs.Ytlmabajgnjiigaa
open Go Go.RowKit
set_option linter.unusedVariables false
set_option linter.unusedSimpArgs false
set_option maxRecDepth 20000
set_option synthInstance.maxSize 100000
set_option synthInstance.maxHeartbeats 400000
section
variable {P : Program} {W0 : World} {S : List HP} {a : Act} {d : Option Tmp} {ty t et : TypeId} {pos : String} {aft : Array Edge} {gd : Option (Nat × Bool)} {by_ b : Nat} {x y : Operand} {k : IntKind}
instance svc_idx0 [hk : UL P t (.array 2 et)] [ti : TI P et (.int .i64 0) 1 by_] [h1 : Ev a x (.pointer (some ⟨b, 0, none⟩))] [h2 : Ev a y (.int k 0)] : SVc P W0 S ⟨d, .indexAddr t x y, ty, pos, aft, gd⟩ a (.pointer (some ⟨b, 0, none⟩)) :=
  ⟨sv_idxA hk.pf (fun w => sizeOf_run w) h1.pf h2.pf (by decide) (by decide) rfl⟩
instance svc_idx1 [hk : UL P t (.array 2 et)] [ti : TI P et (.int .i64 0) 1 by_] [h1 : Ev a x (.pointer (some ⟨b, 0, none⟩))] [h2 : Ev a y (.int k 1)] : SVc P W0 S ⟨d, .indexAddr t x y, ty, pos, aft, gd⟩ a (.pointer (some ⟨b, 1, none⟩)) :=
  ⟨sv_idxA hk.pf (fun w => sizeOf_run w) h1.pf h2.pf (by decide) (by decide) rfl⟩
end
theorem asc_eq : ∀ {a b : List Int}, a.Pairwise (· < ·) → b.Pairwise (· < ·) → (∀ x, x ∈ a ↔ x ∈ b) → a = b
  | [], [], _, _, _ => rfl
  | [], y :: s, _, _, h => absurd ((h y).2 (.head _)) (by simp)
  | x :: r, [], _, _, h => absurd ((h x).1 (.head _)) (by simp)
  | x :: r, y :: s, h1, h2, h => by
    obtain ⟨h1a, h1b⟩ := List.pairwise_cons.1 h1
    obtain ⟨h2a, h2b⟩ := List.pairwise_cons.1 h2
    have hxy : x = y := by
      rcases List.mem_cons.1 ((h x).1 (.head _)) with e | e
      · exact e
      · rcases List.mem_cons.1 ((h y).2 (.head _)) with e2 | e2
        · exact e2.symm
        · have := h2a x e
          have := h1a y e2
          omega
    subst hxy
    rw [asc_eq h1b h2b fun z => ?_]
    constructor
    · intro hz
      rcases List.mem_cons.1 ((h z).1 (.tail _ hz)) with e | e
      · have := h1a z hz
        omega
      · exact e
    · intro hz
      rcases List.mem_cons.1 ((h z).2 (.tail _ hz)) with e | e
      · have := h2a z hz
        omega
      · exact e
theorem memN_asc {F R : List Int} {g : Int} {n : Nat} : (memN F R g n).Pairwise (· < ·) := by
  unfold memN
  refine List.pairwise_map.2 ((List.pairwise_lt_range.filter _).imp fun h => ?_)
  omega
theorem mbrF_asc {F : List Int} {G : List (List Int)} {s g : Int} : (mbrF F G s g).Pairwise (· < ·) := by
  unfold mbrF
  split
  · exact memN_asc
  · exact List.Pairwise.nil
theorem foldl_shift {α : Type} {f : α → Int} : ∀ {l : List α} {c : Int}, l.foldl (fun n i => n + f i) c = c + l.foldl (fun n i => n + f i) 0
  | [], c => by simp
  | a :: r, c => by
    rw [List.foldl_cons, List.foldl_cons, foldl_shift (c := c + f a), foldl_shift (c := 0 + f a)]
    omega
theorem sumAt_cons {U r : List Int} {a : Int} : sumAt U (a :: r) = U.getD a.toNat 0 + sumAt U r := by
  unfold sumAt
  rw [List.foldl_cons, foldl_shift]
  omega
theorem sumAt_split {U : List Int} {p : Int → Bool} : ∀ {l : List Int}, sumAt U l = sumAt U (l.filter p) + sumAt U (l.filter fun x => !p x)
  | [] => by simp [sumAt]
  | a :: r => by
    rw [sumAt_cons, sumAt_split (p := p) (l := r)]
    cases hp : p a
    · rw [List.filter_cons_of_neg (by rw [hp]; decide), List.filter_cons_of_pos (by rw [hp]; rfl), sumAt_cons]
      omega
    · rw [List.filter_cons_of_pos hp, List.filter_cons_of_neg (by rw [hp]; decide), sumAt_cons]
      omega
theorem cov_step {U left ms : List Int} (h1 : left.Pairwise (· < ·)) (h2 : ms.Pairwise (· < ·)) (h3 : ms.all (memB left) = true) : sumAt U left = sumAt U ms + sumAt U (wthF left ms) := by
  have e : left.filter (memB ms) = ms := asc_eq (h1.filter _) h2 fun x => by
    rw [List.mem_filter]
    unfold memB
    simp only [decide_eq_true_eq]
    exact ⟨fun h => h.2, fun h => ⟨of_decide_eq_true (List.all_eq_true.1 h3 x h), h⟩⟩
  rw [sumAt_split (p := memB ms), e]
  rfl
/-- what an element of a cover adds -/
def tmF (U F : List Int) (G : List (List Int)) (y : Int × Int) : Int := if y.1 = -1 then U.getD y.2.toNat 0 else sumAt U (mbrF F G y.1 y.2)
def tmS (U F : List Int) (G : List (List Int)) (c : List (Int × Int)) : Int := c.foldl (fun n y => n + tmF U F G y) 0
theorem tmS_app {U F : List Int} {G : List (List Int)} {a b : List (Int × Int)} : tmS U F G (a ++ b) = tmS U F G a + tmS U F G b := by
  unfold tmS
  rw [List.foldl_append, foldl_shift]
theorem tmS_one {U F : List Int} {G : List (List Int)} {y : Int × Int} : tmS U F G [y] = tmF U F G y := by
  unfold tmS
  simp
theorem tmS_single {U F : List Int} {G : List (List Int)} : ∀ {l : List Int}, tmS U F G (l.map fun a => (-1, a)) = sumAt U l
  | [] => rfl
  | a :: r => by
    rw [List.map_cons, sumAt_cons, ← tmS_single (F := F) (G := G) (l := r)]
    show tmS U F G ([(-1, a)] ++ _) = _
    rw [tmS_app, tmS_one]
    rfl
theorem covK_sum {U F : List Int} {G : List (List Int)} : ∀ {ks : List (Int × Int)} {c : CS}, c.2.Pairwise (· < ·) → (∀ y ∈ ks, y.1 ≠ -1) → tmS U F G (covK F G ks c).1 + sumAt U (covK F G ks c).2 = tmS U F G c.1 + sumAt U c.2
  | [], c, _, _ => rfl
  | y :: r, c, h, hk => by
    have h2 : (covSt F G y.1 y.2 c).2.Pairwise (· < ·) := by
      unfold covSt
      split
      · exact h.filter _
      · exact h
    show tmS U F G (covK F G r (covSt F G y.1 y.2 c)).1 + sumAt U (covK F G r (covSt F G y.1 y.2 c)).2 = _
    rw [covK_sum h2 fun z hz => hk z (.tail _ hz)]
    unfold covSt
    split
    · rename_i hs
      dsimp only
      rw [tmS_app, tmS_one, cov_step h mbrF_asc hs.2]
      have : tmF U F G (y.1, y.2) = sumAt U (mbrF F G y.1 y.2) := by
        unfold tmF
        rw [if_neg (hk y (.head _))]
      rw [this]
      omega
    · rfl
theorem covK_mem {F : List Int} {G : List (List Int)} : ∀ {ks : List (Int × Int)} {c : CS} {y : Int × Int}, y ∈ (covK F G ks c).1 → y ∈ c.1 ∨ y ∈ ks
  | [], c, y, h => .inl h
  | z :: r, c, y, h => by
    rcases covK_mem (ks := r) (c := covSt F G z.1 z.2 c) h with h | h
    · unfold covSt at h
      split at h
      · rcases List.mem_append.1 h with h | h
        · exact .inl h
        · rw [List.mem_singleton.1 h]
          exact .inr (.head _)
      · exact .inl h
    · exact .inr (.tail _ h)
section
variable {U F : List Int} {G : List (List Int)}
theorem covF_eq (hc : ChkT U F G) (l : List Int) : covF F G l = (covK F G (keyS (gsF G G.length) G.length) ([], l)).1 ++ (covK F G (keyS (gsF G G.length) G.length) ([], l)).2.map fun a => (-1, a) := by
  unfold covF
  rw [covS_keys hc _ _ (Nat.le_refl _)]
theorem covF_sum (hc : ChkT U F G) {V l : List Int} (h : l.Pairwise (· < ·)) : tmS V F G (covF F G l) = sumAt V l := by
  rw [covF_eq hc, tmS_app, tmS_single, covK_sum h fun y hy => ?_]
  · show tmS V F G [] + sumAt V l = _
    show 0 + _ = _
    omega
  · obtain ⟨s, g, m, R, rfl, _⟩ := keyS_mem hc _ (Nat.le_refl _) y hy
    dsimp only
    omega
/-- an element of a cover is a key or an atom of the list -/
theorem covF_mem (hc : ChkT U F G) {l : List Int} {y : Int × Int} (h : y ∈ covF F G l) : y ∈ keyS (gsF G G.length) G.length ∨ (y.1 = -1 ∧ y.2 ∈ l) := by
  rw [covF_eq hc] at h
  rcases List.mem_append.1 h with h | h
  · rcases covK_mem h with h | h
    · cases h
    · exact .inl h
  · obtain ⟨a, ha, rfl⟩ := List.mem_map.1 h
    obtain ⟨p, hp⟩ := covK_flt (F := F) (G := G) (ks := keyS (gsF G G.length) G.length) (c := ([], l)) (l := l) ⟨fun _ => true, (List.filter_eq_self.2 (fun _ _ => rfl)).symm⟩
    rw [hp] at ha
    exact .inr ⟨rfl, (List.mem_filter.1 ha).1⟩
theorem covF_len (hc : ChkT U F G) {l : List Int} : (covF F G l).length ≤ l.length := by
  rw [covF_eq hc, List.length_append, List.length_map]
  have := covK_len (F := F) (G := G) (ks := keyS (gsF G G.length) G.length) (c := ([], l))
  simpa using this
end
section
variable {W0 : World} {L : List HP}
theorem Atoms_ct {t : TT} {A : Option Addr} {c : Nat} {l U F : List Int} {G : List (List Int)} (ht : TOk t U F G) (hc : ChkT U F G) (hU : U.length ≤ 1000) (hv : rd eI (.slice A l.length c) l ∈ L) (hl : l.length ≤ 9223372036854775807) (hGl : G.length ≤ 1000) :
    CT Try.prog 28 #[.pointer (some ⟨t.q, 0, none⟩), .slice A l.length c] W0 (tbl t :: L) fun r L' => r = .tuple #[.int .i64 (if covE U.length l = 0 then sumAt U l else 0), .int .i64 ((covO F G U.length l).length : Int), .int .i64 (covE U.length l)] ∧ L' = tbl t :: L := by
  obtain ⟨e, he⟩ : ∃ e, covE U.length l = e := ⟨_, rfl⟩
  obtain ⟨o, ho⟩ : ∃ o, covO F G U.length l = o := ⟨_, rfl⟩
  have heb : 0 ≤ e ∧ e ≤ 100 := by
    rw [← he]
    unfold covE
    split
    · split <;> decide
    · decide
  refine CT_enter Try.func28 rfl ?_; (simp only [Try.ntmps28, List.size_toArray, List.length_cons, List.length_nil, Nat.reduceAdd, Nat.reduceSub, Array.replicate_succ, Array.replicate_zero, List.push_toArray, List.append_toArray, List.nil_append, List.cons_append])
  repeat' (first | refine go ?_ | intro _ | (apply cG; first | refine cT ?_ | refine cF ?_ | refine cS (fun _ => ?_) fun _ => ?_) | (apply gW; refine sW ?_) | (apply gI; refine sI ?_) | (apply gE; refine sE ?_) | (apply gP; refine sP ?_) | (apply gC; refine sC ?_) | (apply gD; refine sD ?_) | fail)
  refine O_d (dy_call ArgsI.pf (by first | exact rfl | trivial | (intro a b; rfl)) (Cover_ct ht hc hU hv hl hGl)) ?_; rintro _ _ ⟨_, ⟨A2, c2, rfl, rfl⟩, rfl⟩; refine O_n ?_
  rw [he, ho]
  by_cases he0 : e = 0
  rotate_left
  · have ho0 : o = [] := by rw [← ho]; unfold covO; rw [if_neg (by rw [he]; exact he0)]
    rw [if_neg he0]
    subst ho0
    repeat' (first | refine go ?_ | intro _ | (apply cG; first | refine cT ?_ | refine cF ?_ | refine cS (fun _ => ?_) fun _ => ?_) | (apply gW; refine sW ?_) | (apply gI; refine sI ?_) | (apply gE; refine sE ?_) | (apply gP; refine sP ?_) | (apply gC; refine sC ?_) | (apply gD; refine sD ?_) | fail)
    refine E_res3 (by rfl) (by rfl) ⟨rfl, rfl⟩ Sb
  subst he0
  rw [if_pos rfl]
  have hall : l.all (inB U.length) = true := by
    cases h : l.all (inB U.length) with
    | true => rfl
    | false => unfold covE at he; rw [h] at he; simp at he
  have hinc : incF l = true := by
    cases h : incF l with
    | true => rfl
    | false => unfold covE at he; rw [hall, h] at he; simp at he
  have hasc := incF_asc hinc
  have hin : ∀ x ∈ l, 0 ≤ x ∧ x < (U.length : Int) := fun x hx => of_decide_eq_true (List.all_eq_true.1 hall x hx)
  have hll := asc_len hasc hin
  have hof : o = covF F G l := by rw [← ho]; unfold covO; rw [if_pos he]
  have hol := covF_len hc (l := l)
  have hos := covF_sum hc (V := U) hasc
  have hom : ∀ y ∈ o, y ∈ keyS (gsF G G.length) G.length ∨ (y.1 = -1 ∧ y.2 ∈ l) := fun y hy => covF_mem hc (by rw [← hof]; exact hy)
  rw [← hof] at hol hos
  obtain ⟨q, km, ks, UA, GA, uc, gc, U2, gs, mm, sl, tot⟩ := t
  have hkey := @TOk.key U F G _ ht hc
  have hU2 := ht.u
  dsimp only at hU2 hkey
  subst hU2
  have htb : ∀ y ∈ o, 0 ≤ tmF U2 F G y ∧ tmF U2 F G y ≤ 1099511627776000 := fun y hy => by
    unfold tmF
    rcases hom y hy with h | h
    · obtain ⟨s, g, m, R, rfl, _⟩ := keyS_mem hc _ (Nat.le_refl _) y h
      rw [if_neg (by dsimp only; omega)]
      have := mbrF_len (F := F) (G := G) (s := ((s : Int), (g : Int)).1) (g := ((s : Int), (g : Int)).2)
      exact sumAt_bd hc.u (fun x hx => mbrN_in (F := F) (G := G) (n := F.length) x hx) (by rw [hc.len]; exact Nat.le_refl _) (by have := hc.len; omega)
    · rw [if_pos h.1]
      obtain ⟨h1, h2⟩ := hin _ h.2
      obtain ⟨v, hv⟩ : ∃ v, U2[y.2.toNat]? = some v := ⟨_, List.getElem?_eq_getElem (by omega)⟩
      rw [List.getD_eq_getElem?_getD, hv, Option.getD_some]
      have := hc.u v (List.mem_of_getElem? hv)
      omega
  have htk : ∀ k : Nat, 0 ≤ tmS U2 F G (o.take k) ∧ tmS U2 F G (o.take k) ≤ 1099511627776000 * (k : Int) := by
    intro k
    induction k with
    | zero => exact ⟨Int.le_refl _, Int.le_refl _⟩
    | succ k ih =>
      cases hx : o[k]? with
      | none =>
        have : o.take (k + 1) = o.take k := by
          rw [List.take_add_one, hx]
          simp
        rw [this]
        omega
      | some y =>
        have := htb y (List.mem_of_getElem? hx)
        rw [List.take_add_one, hx, tmS_app]
        have e2 : tmS U2 F G (some y).toList = tmF U2 F G y := tmS_one
        rw [e2]
        omega
  have hL5 := @tbl_sub L ⟨q, km, ks, UA, GA, uc, gc, U2, gs, mm, sl, tot⟩
  unfold tbc at hL5
  dsimp only at hL5
  dsimp only
  repeat' (first | refine go ?_ | intro _ | (apply cG; first | refine cT ?_ | refine cF ?_ | refine cS (fun _ => ?_) fun _ => ?_) | (apply gW; refine sW ?_) | (apply gI; refine sI ?_) | (apply gE; refine sE ?_) | (apply gP; refine sP ?_) | (apply gC; refine sC ?_) | (apply gD; refine sD ?_) | fail)
  refine C_sub (S := own 43 ePr (.slice A2 o.length c2) o :: cel q [.slice UA U2.length uc, .int .i64 (gs.length : Int), .map (some km), .map (some ks), .slice GA gs.length gc, .int .i64 tot] 64 :: own 3 eI (.slice UA U2.length uc) U2 :: mapx kpr mS km mm :: mapx kpr mI ks sl :: rd eI (.slice GA gs.length gc) gs :: L) (sub_skip (sub_open (Ls := tbL ⟨q, km, ks, UA, GA, uc, gc, U2, gs, mm, sl, tot⟩))) ?_
  refine C_loopS (κ := Nat) [false, false, false, false, false, false, false, false, false, true, false, true, false, false, false, false, false, false, false, false, false, false, false, true, true, true, true, true, true, true, true, true, true, true, true, true, true, true, true, true, true, true, true, true, true, true, true, true, true, false, false, false] (fun k => [(9, .int .i64 (tmS U2 F G (o.take k))), (23, .int .i64 (k : Int))]) (fun k => []) (fun k => k ≤ o.length) (fun k => o.length - k) 0 (Nat.zero_le _) ⟨rfl, rfl, trivial⟩ ?_
  rintro i u hi
  ((try dsimp only); refine C_n ?_; (try simp only [Nat.reduceAdd, Nat.zero_add]))
  by_cases hil : i < o.length
  rotate_left
  · obtain rfl : i = o.length := by omega
    rw [List.take_length, hos]
    repeat' (first | refine go ?_ | intro _ | (apply cG; first | refine cT ?_ | refine cF ?_ | refine cS (fun _ => ?_) fun _ => ?_) | (apply gW; refine sW ?_) | (apply gI; refine sI ?_) | (apply gE; refine sE ?_) | (apply gP; refine sP ?_) | (apply gC; refine sC ?_) | (apply gD; refine sD ?_) | fail)
    refine E_res3 (by rfl) (by rfl) ⟨rfl, rfl⟩ (Sub.trans (B := cel q [.slice UA U2.length uc, .int .i64 (gs.length : Int), .map (some km), .map (some ks), .slice GA gs.length gc, .int .i64 tot] 64 :: own 3 eI (.slice UA U2.length uc) U2 :: mapx kpr mS km mm :: mapx kpr mI ks sl :: rd eI (.slice GA gs.length gc) gs :: L) Sb hL5)
  obtain ⟨y, hy⟩ : ∃ y, o[i]? = some y := ⟨_, List.getElem?_eq_getElem (by omega)⟩
  have hay : At o i y := ⟨hy⟩
  have hyo := List.mem_of_getElem? hy
  have hst : tmS U2 F G (o.take (i + 1)) = tmS U2 F G (o.take i) + tmF U2 F G y := by
    rw [List.take_add_one, hy, tmS_app, ← tmS_one]
    rfl
  have hk := htk i
  have hyb := htb y hyo
  obtain ⟨z, hz⟩ : ∃ z, tmS U2 F G (o.take i) = z := ⟨_, rfl⟩
  rw [hz] at hst hk ⊢
  have hil2 : (i : Int) ≤ 1000 := by omega
  rcases hom y hyo with h | h
  · obtain ⟨e1, he1, he2, he3, he4⟩ := hkey h
    obtain ⟨s, g, m, R, hye, _⟩ := keyS_mem hc _ (Nat.le_refl _) y h
    have hy1 : ¬ y.1 = -1 := by rw [hye]; dsimp only; omega
    have htm : tmF U2 F G y = sumAt U2 (mbrF F G y.1 y.2) := by unfold tmF; rw [if_neg hy1]
    rw [← htm] at he4
    repeat' (first | refine go ?_ | intro _ | (apply cG; first | refine cT ?_ | refine cF ?_ | refine cS (fun _ => ?_) fun _ => ?_) | (apply gW; refine sW ?_) | (apply gI; refine sI ?_) | (apply gE; refine sE ?_) | (apply gP; refine sP ?_) | (apply gC; refine sC ?_) | (apply gD; refine sD ?_) | fail)
    rename_i ck
    refine C_draw (n := 99) [cel q [.slice UA U2.length uc, .int .i64 (gs.length : Int), .map (some km), .map (some ks), .slice GA gs.length gc, .int .i64 tot] 64, mapx kpr mI ks sl, cel ck [.int .i64 y.1, .int .i64 y.2] 43] [(0, 1), (1, 1), (2, 1), (3, 1), (4, 1), (5, 1), (6, 1), (7, 1), (8, 1)] (by kernel_rfl) (by kernel_rfl) Sb ?_
    repeat' (first | refine go ?_ | intro _ | (apply cG; first | refine cT ?_ | refine cF ?_ | refine cS (fun _ => ?_) fun _ => ?_) | (apply gW; refine sW ?_) | (apply gI; refine sI ?_) | (apply gE; refine sE ?_) | (apply gP; refine sP ?_) | (apply gC; refine sC ?_) | (apply gD; refine sD ?_) | fail)
    refine D_op rfl ?_; refine X_s (sv_lookN (K := kpr) (R := mI) (k := y) (.tail _ (.head _)) Ev.pf Ev.pf he4) ?_
    simp only [Option.map_some, Option.getD_some]
    obtain ⟨v, hv2⟩ : ∃ v, tmF U2 F G y = v := ⟨_, rfl⟩
    rw [hv2] at hst hyb ⊢
    have hmi : mI.val v = .int .i64 v := rfl
    rw [hmi]
    repeat' (first | refine go ?_ | intro _ | (apply cG; first | refine cT ?_ | refine cF ?_ | refine cS (fun _ => ?_) fun _ => ?_) | (apply gW; refine sW ?_) | (apply gI; refine sI ?_) | (apply gE; refine sE ?_) | (apply gP; refine sP ?_) | (apply gC; refine sC ?_) | (apply gD; refine sD ?_) | fail)
    exact E_round (i + 1) hil (by omega) ⟨by rw [hst]; rfl, rfl, trivial⟩ Sb
  · obtain ⟨h1, h2⟩ := h
    obtain ⟨h3, h4⟩ := hin _ h2
    obtain ⟨k, hk2⟩ : ∃ k : Nat, y.2 = (k : Int) := ⟨y.2.toNat, by omega⟩
    obtain ⟨v, hv2⟩ : ∃ v, U2[k]? = some v := ⟨_, List.getElem?_eq_getElem (by omega)⟩
    have htm : tmF U2 F G y = v := by
      unfold tmF
      rw [if_pos h1, hk2, Int.toNat_natCast, List.getD_eq_getElem?_getD, hv2, Option.getD_some]
    have hav : At U2 k v := ⟨hv2⟩
    rw [htm] at hst hyb
    repeat' (first | refine go ?_ | intro _ | (apply cG; first | refine cT ?_ | refine cF ?_ | refine cS (fun _ => ?_) fun _ => ?_) | (apply gW; refine sW ?_) | (apply gI; refine sI ?_) | (apply gE; refine sE ?_) | (apply gP; refine sP ?_) | (apply gC; refine sC ?_) | (apply gD; refine sD ?_) | fail)
    rename_i ck
    refine C_draw (n := 99) [cel q [.slice UA U2.length uc, .int .i64 (gs.length : Int), .map (some km), .map (some ks), .slice GA gs.length gc, .int .i64 tot] 64, own 3 eI (.slice UA U2.length uc) U2, cel ck [.int .i64 y.1, .int .i64 y.2] 43] [(0, 1), (1, 1), (2, 1), (3, 1), (4, 1), (5, 1), (6, 1), (7, 1), (8, 1), (9, 1), (10, 1)] (by kernel_rfl) (by kernel_rfl) Sb ?_
    rw [hk2]
    repeat' (first | refine go ?_ | intro _ | (apply cG; first | refine cT ?_ | refine cF ?_ | refine cS (fun _ => ?_) fun _ => ?_) | (apply gW; refine sW ?_) | (apply gI; refine sI ?_) | (apply gE; refine sE ?_) | (apply gP; refine sP ?_) | (apply gC; refine sC ?_) | (apply gD; refine sD ?_) | fail)
    exact E_round (i + 1) hil (by omega) ⟨by rw [hst]; rfl, rfl, trivial⟩ Sb
end
end Go.Proofs.Ytlmabajgnjiigaa
namespace Go.Proofs.Ytlmabajgnjiigaa
open Go Go.RowKit
set_option linter.unusedVariables false
set_option linter.unusedSimpArgs false
theorem getD_set {U : List Int} {k j : Nat} {u : Int} (hk : k < U.length) : (U.set k u).getD j 0 = if j = k then u else U.getD j 0 := by
  rw [List.getD_eq_getElem?_getD, List.getD_eq_getElem?_getD, List.getElem?_set]
  by_cases h : k = j
  · subst h
    rw [if_pos rfl, if_pos rfl, if_pos hk, Option.getD_some]
  · rw [if_neg h, if_neg (fun e => h e.symm)]
theorem sumAt_set {U : List Int} {k : Nat} {u : Int} (hk : k < U.length) : ∀ {l : List Int}, l.Pairwise (· < ·) → (∀ x ∈ l, 0 ≤ x) → sumAt (U.set k u) l = sumAt U l + (if (k : Int) ∈ l then u - U.getD k 0 else 0)
  | [], _, _ => by simp [sumAt]
  | a :: r, h, h0 => by
    obtain ⟨h1, h2⟩ := List.pairwise_cons.1 h
    have ha := h0 a (.head _)
    obtain ⟨n, rfl⟩ : ∃ n : Nat, a = (n : Int) := ⟨a.toNat, by omega⟩
    rw [sumAt_cons, sumAt_cons, sumAt_set hk h2 (fun x hx => h0 x (.tail _ hx)), Int.toNat_natCast, getD_set hk]
    by_cases hn : n = k
    · subst hn
      rw [if_pos rfl, if_neg (show ¬ (n : Int) ∈ r from fun h => by have := h1 _ h; omega), if_pos (show (n : Int) ∈ (n : Int) :: r from .head _)]
      omega
    · rw [if_neg hn]
      by_cases hm : (k : Int) ∈ r
      · rw [if_pos hm, if_pos (.tail _ hm)]
        omega
      · rw [if_neg hm, if_neg (fun h => by
          rcases List.mem_cons.1 h with e | e
          · omega
          · exact hm e)]
        omega
theorem sumL_cons {U : List Int} {a : Int} : sumL (a :: U) = a + sumL U := by
  unfold sumL
  rw [List.foldl_cons]
  have := foldl_shift (f := fun x : Int => x) (l := U) (c := 0 + a)
  rw [this]
  omega
theorem sumL_set : ∀ {U : List Int} {k : Nat} {u : Int}, k < U.length → sumL (U.set k u) = sumL U - U.getD k 0 + u
  | [], k, u, h => by simp at h
  | a :: r, 0, u, h => by
    show sumL (u :: r) = _
    rw [sumL_cons, sumL_cons]
    show _ = a + sumL r - a + u
    omega
  | a :: r, k + 1, u, h => by
    show sumL (a :: r.set k u) = _
    rw [sumL_cons, sumL_cons, sumL_set (by simpa using h)]
    show _ = a + sumL r - r.getD k 0 + u
    omega
theorem keyS_lt {gs : List Int} : ∀ {n : Nat} {y : Int × Int}, y ∈ keyS gs n → y.1 < (n : Int)
  | 0, y, h => by cases h
  | n + 1, y, h => by
    have h : y ∈ keyG (n : Int) (gs.getD n 0).toNat ++ keyS gs n := h
    rcases List.mem_append.1 h with h | h
    · unfold keyG at h
      obtain ⟨g, _, rfl⟩ := List.mem_map.1 h
      dsimp only
      omega
    · have := keyS_lt h
      omega
theorem keyS_nodup {gs : List Int} : ∀ {n : Nat}, (keyS gs n).Nodup
  | 0 => List.nodup_nil
  | n + 1 => by
    show (keyG (n : Int) (gs.getD n 0).toNat ++ keyS gs n).Nodup
    refine List.nodup_append.2 ⟨?_, keyS_nodup, fun a ha b hb => ?_⟩
    · unfold keyG
      refine List.pairwise_map.2 (List.nodup_range.imp fun h e => h ?_)
      have := (Prod.mk.inj e).2
      omega
    · have := keyS_lt hb
      unfold keyG at ha
      obtain ⟨g, _, rfl⟩ := List.mem_map.1 ha
      intro e
      subst e
      dsimp only at this
      omega
section
variable {U F : List Int} {G : List (List Int)}
def hitB (F : List Int) (G : List (List Int)) (k : Int) (y : Int × Int) : Bool := memB (mbrF F G y.1 y.2) k
theorem hit_iff (hc : ChkT U F G) {s k : Nat} {R : List Int} {g : Int} (hR : G[s]? = some R) (hk : k < F.length) : ∃ f r : Int, F[k]? = some f ∧ R[f.toNat]? = some r ∧ (hitB F G (k : Int) ((s : Int), g) = true ↔ r = g) := by
  obtain ⟨f, hf⟩ : ∃ f, F[k]? = some f := ⟨_, List.getElem?_eq_getElem hk⟩
  obtain ⟨h1, h2⟩ := hc.inR hR f (List.mem_of_getElem? hf)
  obtain ⟨j, rfl⟩ : ∃ j : Nat, f = (j : Int) := ⟨f.toNat, by omega⟩
  obtain ⟨r, hr⟩ : ∃ r, R[j]? = some r := ⟨_, List.getElem?_eq_getElem (by omega)⟩
  refine ⟨_, r, hf, by rw [Int.toNat_natCast]; exact hr, ?_⟩
  unfold hitB memB
  rw [decide_eq_true_iff, mbrF_at hR]
  constructor
  · intro h
    obtain ⟨i, j2, hi, _, hf2, hr2⟩ := memN_of h (Nat.le_refl _) (hc.inR hR)
    obtain rfl : i = k := by omega
    rw [hf] at hf2
    injection hf2 with hf2
    obtain rfl : j2 = j := by omega
    rw [hr] at hr2
    exact Option.some.inj hr2
  · rintro rfl
    exact memN_mem hk hf hr
theorem hits_keyG (hc : ChkT U F G) {s k : Nat} {R : List Int} (hR : G[s]? = some R) (hk : k < F.length) : ∃ r : Nat, (∀ m, numF R 0 = some m → r < m) ∧ ∀ m : Nat, ((keyG (s : Int) m).filter (hitB F G (k : Int))).length = if r < m then 1 else 0 := by
  obtain ⟨f, r, hf, hr, _⟩ := hit_iff hc (g := 0) hR hk
  obtain ⟨h1, h2⟩ := hc.inR hR f (List.mem_of_getElem? hf)
  obtain ⟨m0, hm0, _, _⟩ := hc.cnt hR
  have hr0 := (numF_mem hm0).2 r (List.mem_of_getElem? hr)
  obtain ⟨r, rfl⟩ : ∃ j : Nat, r = (j : Int) := ⟨r.toNat, by omega⟩
  refine ⟨r, fun m hm => by rw [hm0] at hm; injection hm with hm; omega, fun m => ?_⟩
  induction m with
  | zero => rfl
  | succ m ih =>
    rw [keyG_succ, List.filter_append, List.length_append, ih]
    obtain ⟨f2, r2, hf2, hr2, hi⟩ := hit_iff hc (g := (m : Int)) hR hk
    rw [hf] at hf2
    injection hf2 with hf2
    subst hf2
    rw [hr] at hr2
    injection hr2 with hr2
    subst hr2
    by_cases e : r = m
    · subst e
      rw [if_neg (Nat.lt_irrefl _), if_pos (Nat.lt_succ_self _), List.filter_cons_of_pos (hi.2 rfl)]
      rfl
    · rw [List.filter_cons_of_neg (fun h => e (by have := hi.1 h; omega))]
      by_cases h3 : r < m
      · rw [if_pos h3, if_pos (by omega)]
        rfl
      · rw [if_neg h3, if_neg (by omega)]
        rfl
theorem hits_keyS (hc : ChkT U F G) {k : Nat} (hk : k < F.length) : ∀ {n : Nat}, n ≤ G.length → ((keyS (gsF G G.length) n).filter (hitB F G (k : Int))).length = n
  | 0, _ => rfl
  | n + 1, hn => by
    obtain ⟨R, hR⟩ : ∃ R, G[n]? = some R := ⟨_, List.getElem?_eq_getElem (by omega)⟩
    obtain ⟨m, hm, hmF, hgd⟩ := hc.cnt hR
    obtain ⟨r, hr1, hr2⟩ := hits_keyG hc hR hk
    show ((keyG (n : Int) ((gsF G G.length).getD n 0).toNat ++ keyS (gsF G G.length) n).filter _).length = _
    rw [hgd, Int.toNat_natCast, List.filter_append, List.length_append, hr2, if_pos (hr1 m hm), hits_keyS hc hk (by omega)]
    omega
theorem key_of (hc : ChkT U F G) {a b : Int} (h : mbrF F G a b ≠ []) : (a, b) ∈ keyS (gsF G G.length) G.length := by
  have ha : 0 ≤ a ∧ a < (G.length : Int) := by
    by_cases ha : 0 ≤ a ∧ a < (G.length : Int)
    · exact ha
    · exact absurd (if_neg ha) h
  obtain ⟨s, rfl⟩ : ∃ s : Nat, a = (s : Int) := ⟨a.toNat, by omega⟩
  obtain ⟨R, hR⟩ : ∃ R, G[s]? = some R := ⟨_, List.getElem?_eq_getElem (by omega)⟩
  obtain ⟨m, hm, hmF, hgd⟩ := hc.cnt hR
  obtain ⟨x, hx⟩ := List.exists_mem_of_ne_nil _ h
  rw [mbrF_at hR] at hx
  obtain ⟨i, k, _, _, _, hr⟩ := memN_of hx (Nat.le_refl _) (hc.inR hR)
  have hb := (numF_mem hm).2 _ (List.mem_of_getElem? hr)
  obtain ⟨g, rfl⟩ : ∃ s : Nat, b = (s : Int) := ⟨b.toNat, by omega⟩
  have : ∀ n : Nat, s < n → n ≤ G.length → ((s : Int), (g : Int)) ∈ keyS (gsF G G.length) n := by
    intro n
    induction n with
    | zero => intro h; omega
    | succ n ih =>
      intro h1 h2
      show _ ∈ keyG (n : Int) ((gsF G G.length).getD n 0).toNat ++ keyS (gsF G G.length) n
      by_cases e : s = n
      · subst e
        refine List.mem_append.2 (.inl ?_)
        unfold keyG
        refine List.mem_map.2 ⟨g, List.mem_range.2 ?_, rfl⟩
        rw [hgd]
        omega
      · exact List.mem_append.2 (.inr (ih (by omega) (by omega)))
  exact this _ (by omega) (Nat.le_refl _)
theorem ChkT.chg (hc : ChkT U F G) {a u : Int} : ChkT (chgU U a u) F G := by
  refine ⟨by rw [chgU_len]; exact hc.len, fun x hx => ?_, hc.f, hc.many, hc.each, hc.g, hc.co⟩
  unfold chgU at hx
  split at hx
  · rename_i h
    rcases List.mem_or_eq_of_mem_set hx with hx | rfl
    · exact hc.u x hx
    · unfold chgE at h
      split at h
      · cases h
      · split at h
        · cases h
        · omega
  · exact hc.u x hx
end
end Go.Proofs.Ytlmabajgnjiigaa
