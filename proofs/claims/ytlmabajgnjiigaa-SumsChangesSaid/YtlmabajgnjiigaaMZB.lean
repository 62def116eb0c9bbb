/-
  Package sums: Change.
-/
import Derived.Laws.StructEq
import Derived.Test.YtlmabajgnjiigaaMZA
import Derived.Test.YtlmabajgnjiigaaMF
import Derived.Test.YtlmabajgnjiigaaMV
namespace Go.Proofs.Ytlmabajgnjiigaa
open Go Go.RowKit
set_option linter.unusedVariables false
set_option linter.unusedSimpArgs false
set_option maxRecDepth 20000
set_option synthInstance.maxSize 100000
set_option synthInstance.maxHeartbeats 400000
section
variable {P : Program} {a : Act} {d : Option Tmp} {ty t : TypeId} {pos : String} {aft : Array Edge} {gd : Option (Nat × Bool)} {x y : Operand} {W0 : World} {S : List HP} {k : IntKind}
/-- an own row, whatever it holds -/
def owX (UA : Option Addr) (n uc : Nat) : HP := ex fun V : List Int => own 3 eI (.slice UA n uc) V
theorem sub_owX {UA : Option Addr} {n uc : Nat} {V : List Int} {L : List HP} : Sub (own 3 eI (.slice UA n uc) V :: L) (owX UA n uc :: L) := sub_ex (F := fun V : List Int => own 3 eI (.slice UA n uc) V) V
theorem owX_sl {UA : Option Addr} {n uc : Nat} (h : owX UA n uc ∈ S) {w : World} (s : St W0 w S) : ∃ V, Sl (Hp.of w) eI (.slice UA n uc) V := by
  obtain ⟨L0, hp⟩ := s.mem h
  obtain ⟨V, s2⟩ := (s.perm hp).ex_
  exact ⟨V, Src.sl (.inr ⟨_, .head _⟩) s2⟩
theorem sv_idxX {e : TypeId} {zv : Value} {by_ j n c : Nat} {A : Option Addr} {i : Int} [ut : UL P t (.slice e)] [ti : TI P e zv 1 by_] (hm : owX A n c ∈ S) (hx : a.eval x = .slice A n c) (hi : a.eval y = .int k i)
    (h0 : 0 ≤ i) (h1 : i < n) (hj : i.toNat = j) : SV P W0 S ⟨d, .indexAddr t x y, ty, pos, aft, gd⟩ a (elp A j 1 0) := ⟨fun w hS => by
  obtain ⟨V, hr⟩ := owX_sl hm hS
  have hlen := hr.len_
  subst hj
  obtain ⟨b, off, cs, T, fr, cc, hA, hb, hc, hcell⟩ := hr.at_ (List.getElem?_eq_getElem (show i.toNat < V.length by omega))
  subst hA
  unfold execOp
  simp [hx, hi, indexAt_run (P := P) (t := t) (e := e) (s := 1) h0 (by omega : i < n), elp, Addr.add]⟩
end
/-- what changes while Change looks at the groups: the sums, and how many -/
def ChOk (F : List Int) (G : List (List Int)) (k by_ : Int) (sl0 : List ((Int × Int) × Int)) (pre : List (Int × Int)) (sl : List ((Int × Int) × Int)) : Prop :=
  ∀ y, gvX y sl = if y ∈ pre ∧ hitB F G k y = true then (gvX y sl0).map (· + by_) else gvX y sl0
def chD (ks cn : Nat) (F : List Int) (G : List (List Int)) (k by_ : Int) (sl0 : List ((Int × Int) × Int)) (pre : List (Int × Int)) : HP :=
  ex fun sl : List ((Int × Int) × Int) => sp [pur (ChOk F G k by_ sl0 pre sl), mapx kpr mI ks sl, cel cn [.int .i64 (1 + ((pre.filter (hitB F G k)).length : Int))] 3]
section
variable {W0 : World} {L : List HP}
theorem St.chD_ {w : World} {ks cn : Nat} {F : List Int} {G : List (List Int)} {k by_ : Int} {sl0 : List ((Int × Int) × Int)} {pre : List (Int × Int)} (s : St W0 w (chD ks cn F G k by_ sl0 pre :: L)) : ∃ sl, ChOk F G k by_ sl0 pre sl ∧ St W0 w (mapx kpr mI ks sl :: cel cn [.int .i64 (1 + ((pre.filter (hitB F G k)).length : Int))] 3 :: L) := by
  obtain ⟨sl, s1⟩ := s.ex_
  have s2 := s1.open_
  exact ⟨sl, s2.pur_, s2.drop⟩
theorem sub_chD {ks cn : Nat} {F : List Int} {G : List (List Int)} {k by_ : Int} {sl0 sl : List ((Int × Int) × Int)} {pre : List (Int × Int)} (h : ChOk F G k by_ sl0 pre sl) : Sub (mapx kpr mI ks sl :: cel cn [.int .i64 (1 + ((pre.filter (hitB F G k)).length : Int))] 3 :: L) (chD ks cn F G k by_ sl0 pre :: L) :=
  (sub_pur h).trans ((sub_close (Ls := [pur (ChOk F G k by_ sl0 pre sl), mapx kpr mI ks sl, cel cn [.int .i64 (1 + ((pre.filter (hitB F G k)).length : Int))] 3])).trans (sub_ex (F := fun sl : List ((Int × Int) × Int) => sp [pur (ChOk F G k by_ sl0 pre sl), mapx kpr mI ks sl, cel cn [.int .i64 (1 + ((pre.filter (hitB F G k)).length : Int))] 3]) sl))
set_option maxHeartbeats 4000000 in
theorem Change_ct {t : TT} {a u : Int} {U F : List Int} {G : List (List Int)} (ht : TOk t U F G) (hc : ChkT U F G) (hU : U.length ≤ 1000) (hGl : G.length ≤ 1000) (ha : -9223372036854775808 ≤ a ∧ a ≤ 9223372036854775807) (hu : -9223372036854775808 ≤ u ∧ u ≤ 9223372036854775807) :
    CT Try.prog 13 #[.pointer (some ⟨t.q, 0, none⟩), .int .i64 a, .int .i64 u] W0 (tbl t :: L) fun r L' => ∃ t' : TT, t'.q = t.q ∧ TOk t' (chgU U a u) F G ∧ r = .tuple #[.int .i64 (chgN U G.length a u), .int .i64 (chgE U a u)] ∧ L' = tbl t' :: L := by
  refine tbl_ct ?_
  have ht0 := ht
  obtain ⟨q, km, ks, UA, GA, uc, gc, U2, gs, mm, sl, tot⟩ := t
  obtain ⟨hgl, hgb⟩ := ht.gs hc
  have hkey := @TOk.key U F G _ ht hc
  have hU2 := ht.u
  have hg2 := ht.g
  have htot := ht.tot
  dsimp only at hU2 hgl hgb hkey hg2 htot ⊢
  subst hU2
  unfold tbc
  dsimp only
  have hFl := hc.len
  have hss := sumL_le hc.u U2.length
  rw [List.take_length] at hss
  rw [← htot] at hss
  have hL5 := @tbl_sub L ⟨q, km, ks, UA, GA, uc, gc, U2, gs, mm, sl, tot⟩
  unfold tbc at hL5
  dsimp only at hL5
  have eg3 : Enters Try.prog 44 := by first | exact rfl | trivial | (intro a b; rfl)
  have hE : chgE U2 a u = if a < 0 ∨ (U2.length : Int) ≤ a then 7 else if u < 0 ∨ 1099511627776 < u then 5 else if sumL U2 - U2.getD a.toNat 0 + u > 1099511627776 then 4 else 0 := rfl
  have hno : chgE U2 a u ≠ 0 → chgU U2 a u = U2 ∧ chgN U2 G.length a u = 0 := fun h => ⟨by unfold chgU; rw [if_neg h], by unfold chgN; rw [if_neg fun h' => h h'.1]⟩
  rw [← htot] at hE
  refine CT_enterM Try.func13 rfl ?_; (simp only [Try.ntmps13, List.size_toArray, List.length_cons, List.length_nil, Nat.reduceAdd, Nat.reduceSub, Array.replicate_succ, Array.replicate_zero, List.push_toArray, List.append_toArray, List.nil_append, List.cons_append])
  repeat' (first | refine go ?_ | intro _ | (apply cG; first | refine cT ?_ | refine cF ?_ | refine cS (fun _ => ?_) fun _ => ?_) | (apply gW; refine sW ?_) | (apply gI; refine sI ?_) | (apply gE; refine sE ?_) | (apply gP; refine sP ?_) | (apply gC; refine sC ?_) | (apply gD; refine sD ?_) | fail)
  rename_i bt ba
  refine C_draw (n := 99) [cel bt [.pointer (some ⟨q, 0, none⟩)] 25, cel ba [.int .i64 a] 3, cel q [.slice UA U2.length uc, .int .i64 (gs.length : Int), .map (some km), .map (some ks), .slice GA gs.length gc, .int .i64 tot] 64] [(0, 1), (1, 1), (2, 1), (3, 1), (4, 1), (5, 1), (6, 1), (7, 1), (8, 1), (9, 1), (10, 1), (11, 1)] (by kernel_rfl) (by kernel_rfl) Sb ?_
  by_cases h1 : a < 0 ∨ (U2.length : Int) ≤ a
  · rw [if_pos h1] at hE
    obtain ⟨hn1, hn2⟩ := hno (by rw [hE]; decide)
    rw [hn2, hE, hn1]
    rcases h1 with h1 | h1
    · repeat' (first | refine go ?_ | intro _ | (apply cG; first | refine cT ?_ | refine cF ?_ | refine cS (fun _ => ?_) fun _ => ?_) | (apply gW; refine sW ?_) | (apply gI; refine sI ?_) | (apply gE; refine sE ?_) | (apply gP; refine sP ?_) | (apply gC; refine sC ?_) | (apply gD; refine sD ?_) | fail)
      refine E_res2m rfl (by rfl) Ev.pf Ev.pf ⟨_, rfl, ht0, rfl, rfl⟩ (Sub.trans ?_ hL5)
      exact Sb
    · by_cases h2 : a < 0
      · omega
      · repeat' (first | refine go ?_ | intro _ | (apply cG; first | refine cT ?_ | refine cF ?_ | refine cS (fun _ => ?_) fun _ => ?_) | (apply gW; refine sW ?_) | (apply gI; refine sI ?_) | (apply gE; refine sE ?_) | (apply gP; refine sP ?_) | (apply gC; refine sC ?_) | (apply gD; refine sD ?_) | fail)
        refine E_res2m rfl (by rfl) Ev.pf Ev.pf ⟨_, rfl, ht0, rfl, rfl⟩ (Sub.trans ?_ hL5)
        exact Sb
  rw [if_neg h1] at hE
  obtain ⟨h1a, h1b⟩ : 0 ≤ a ∧ a < (U2.length : Int) := by omega
  clear h1
  obtain ⟨k, rfl⟩ : ∃ k : Nat, a = (k : Int) := ⟨a.toNat, by omega⟩
  obtain ⟨v, hv⟩ : ∃ v, U2[k]? = some v := ⟨_, List.getElem?_eq_getElem (by omega)⟩
  have hav : At U2 k v := ⟨hv⟩
  have hvd : U2.getD (k : Int).toNat 0 = v := by rw [Int.toNat_natCast, List.getD_eq_getElem?_getD, hv, Option.getD_some]
  have hvb := hc.u v (List.mem_of_getElem? hv)
  rw [hvd] at hE
  by_cases h2 : u < 0 ∨ 1099511627776 < u
  · rw [if_pos h2] at hE
    obtain ⟨hn1, hn2⟩ := hno (by rw [hE]; decide)
    rw [hn2, hE, hn1]
    rcases h2 with h2 | h2
    · repeat' (first | refine go ?_ | intro _ | (apply cG; first | refine cT ?_ | refine cF ?_ | refine cS (fun _ => ?_) fun _ => ?_) | (apply gW; refine sW ?_) | (apply gI; refine sI ?_) | (apply gE; refine sE ?_) | (apply gP; refine sP ?_) | (apply gC; refine sC ?_) | (apply gD; refine sD ?_) | fail)
      refine E_res2m rfl (by rfl) Ev.pf Ev.pf ⟨_, rfl, ht0, rfl, rfl⟩ (Sub.trans ?_ hL5)
      exact Sb
    · have h3 : ¬ u < 0 := by omega
      repeat' (first | refine go ?_ | intro _ | (apply cG; first | refine cT ?_ | refine cF ?_ | refine cS (fun _ => ?_) fun _ => ?_) | (apply gW; refine sW ?_) | (apply gI; refine sI ?_) | (apply gE; refine sE ?_) | (apply gP; refine sP ?_) | (apply gC; refine sC ?_) | (apply gD; refine sD ?_) | fail)
      refine E_res2m rfl (by rfl) Ev.pf Ev.pf ⟨_, rfl, ht0, rfl, rfl⟩ (Sub.trans ?_ hL5)
      exact Sb
  rw [if_neg h2] at hE
  obtain ⟨h2a, h2b⟩ : 0 ≤ u ∧ u ≤ 1099511627776 := by omega
  clear h2
  repeat' (first | refine go ?_ | intro _ | (apply cG; first | refine cT ?_ | refine cF ?_ | refine cS (fun _ => ?_) fun _ => ?_) | (apply gW; refine sW ?_) | (apply gI; refine sI ?_) | (apply gE; refine sE ?_) | (apply gP; refine sP ?_) | (apply gC; refine sC ?_) | (apply gD; refine sD ?_) | fail)
  refine C_draw (n := 99) [cel bt [.pointer (some ⟨q, 0, none⟩)] 25, cel ba [.int .i64 (k : Int)] 3, cel q [.slice UA U2.length uc, .int .i64 (gs.length : Int), .map (some km), .map (some ks), .slice GA gs.length gc, .int .i64 tot] 64, own 3 eI (.slice UA U2.length uc) U2] [(0, 1), (1, 1), (2, 1), (3, 1), (4, 1), (5, 1), (6, 1), (7, 1), (8, 1), (9, 1), (10, 1), (11, 1), (12, 1), (13, 1), (14, 1), (15, 1)] (by kernel_rfl) (by kernel_rfl) Sb ?_
  by_cases h3 : tot - v + u > 1099511627776
  · rw [if_pos h3] at hE
    obtain ⟨hn1, hn2⟩ := hno (by rw [hE]; decide)
    rw [hn2, hE, hn1]
    repeat' (first | refine go ?_ | intro _ | (apply cG; first | refine cT ?_ | refine cF ?_ | refine cS (fun _ => ?_) fun _ => ?_) | (apply gW; refine sW ?_) | (apply gI; refine sI ?_) | (apply gE; refine sE ?_) | (apply gP; refine sP ?_) | (apply gC; refine sC ?_) | (apply gD; refine sD ?_) | fail)
    refine E_res2m rfl (by rfl) Ev.pf Ev.pf ⟨_, rfl, ht0, rfl, rfl⟩ (Sub.trans ?_ hL5)
    exact Sb
  rw [if_neg h3] at hE
  have hcu : chgU U2 (k : Int) u = U2.set k u := by unfold chgU; rw [if_pos hE, Int.toNat_natCast]
  repeat' (first | refine go ?_ | intro _ | (apply cG; first | refine cT ?_ | refine cF ?_ | refine cS (fun _ => ?_) fun _ => ?_) | (apply gW; refine sW ?_) | (apply gI; refine sI ?_) | (apply gE; refine sE ?_) | (apply gP; refine sP ?_) | (apply gC; refine sC ?_) | (apply gD; refine sD ?_) | fail)
  refine C_draw (n := 99) [cel bt [.pointer (some ⟨q, 0, none⟩)] 25, cel ba [.int .i64 (k : Int)] 3, cel q [.slice UA U2.length uc, .int .i64 (gs.length : Int), .map (some km), .map (some ks), .slice GA gs.length gc, .int .i64 tot] 64, own 3 eI (.slice UA U2.length uc) U2] [(0, 1), (1, 1), (2, 1), (3, 1), (4, 1), (5, 1), (6, 1), (7, 1), (8, 1), (9, 1)] (by kernel_rfl) (by kernel_rfl) Sb ?_
  by_cases h4 : u = v
  · have hn0 : chgN U2 G.length (k : Int) u = 0 := by
      unfold chgN
      rw [if_neg fun h => h.2 (by rw [hvd, h4])]
    have hcu2 : chgU U2 (k : Int) u = U2 := by
      rw [hcu, h4]
      refine List.ext_getElem? fun j => ?_
      rw [List.getElem?_set]
      split
      · rename_i e
        subst e
        split
        · exact hv.symm
        · rename_i e2
          exact absurd (List.getElem?_eq_some_iff.1 hv).1 e2
      · rfl
    rw [hE, hn0, hcu2]
    repeat' (first | refine go ?_ | intro _ | (apply cG; first | refine cT ?_ | refine cF ?_ | refine cS (fun _ => ?_) fun _ => ?_) | (apply gW; refine sW ?_) | (apply gI; refine sI ?_) | (apply gE; refine sE ?_) | (apply gP; refine sP ?_) | (apply gC; refine sC ?_) | (apply gD; refine sD ?_) | fail)
    refine E_res2m rfl (by rfl) Ev.pf Ev.pf ⟨_, rfl, ht0, rfl, rfl⟩ (Sub.trans ?_ hL5)
    exact Sb
  have hnn : chgN U2 G.length (k : Int) u = 1 + (G.length : Int) := by
    unfold chgN
    rw [if_pos ⟨hE, by rw [hvd]; exact fun e => h4 e.symm⟩]
  rw [hE, hnn, hcu]
  repeat' (first | refine go ?_ | intro _ | (apply cG; first | refine cT ?_ | refine cF ?_ | refine cS (fun _ => ?_) fun _ => ?_) | (apply gW; refine sW ?_) | (apply gI; refine sI ?_) | (apply gE; refine sE ?_) | (apply gP; refine sP ?_) | (apply gC; refine sC ?_) | (apply gD; refine sD ?_) | fail)
  refine C_draw (n := 99) [cel bt [.pointer (some ⟨q, 0, none⟩)] 25, cel ba [.int .i64 (k : Int)] 3, cel q [.slice UA U2.length uc, .int .i64 (gs.length : Int), .map (some km), .map (some ks), .slice GA gs.length gc, .int .i64 tot] 64, own 3 eI (.slice UA U2.length uc) U2] [(0, 1), (1, 1), (2, 1), (3, 1), (4, 1), (5, 1), (6, 1), (7, 1), (8, 1), (9, 0), (10, 0)] (by kernel_rfl) (by kernel_rfl) Sb ?_
  repeat' (first | refine go ?_ | intro _ | (apply cG; first | refine cT ?_ | refine cF ?_ | refine cS (fun _ => ?_) fun _ => ?_) | (apply gW; refine sW ?_) | (apply gI; refine sI ?_) | (apply gE; refine sE ?_) | (apply gP; refine sP ?_) | (apply gC; refine sC ?_) | (apply gD; refine sD ?_) | fail)
  rename_i bb
  refine C_draw (n := 17) [cel bt [.pointer (some ⟨q, 0, none⟩)] 25, cel ba [.int .i64 (k : Int)] 3, cel bb [.int .i64 (u - v)] 3, cel q [.slice UA U2.length uc, .int .i64 (gs.length : Int), .map (some km), .map (some ks), .slice GA gs.length gc, .int .i64 tot] 64, owX UA U2.length uc] [(0, 1), (1, 1), (2, 1), (3, 1), (4, 1), (5, 1), (6, 1), (7, 1), (8, 1), (9, 1), (10, 1), (11, 1), (12, 1), (13, 1), (14, 0), (15, 1), (16, 1), (17, 0)] (by kernel_rfl) (by kernel_rfl) (Sub.trans (B := own 3 eI (.slice UA U2.length uc) U2 :: cel bt [.pointer (some ⟨q, 0, none⟩)] 25 :: cel ba [.int .i64 (k : Int)] 3 :: cel bb [.int .i64 (u - v)] 3 :: cel q [.slice UA U2.length uc, .int .i64 (gs.length : Int), .map (some km), .map (some ks), .slice GA gs.length gc, .int .i64 tot] 64 :: []) Sb (Sub.trans sub_owX Sb)) ?_
  repeat' (first | refine go ?_ | intro _ | (apply cG; first | refine cT ?_ | refine cF ?_ | refine cS (fun _ => ?_) fun _ => ?_) | (apply gW; refine sW ?_) | (apply gI; refine sI ?_) | (apply gE; refine sE ?_) | (apply gP; refine sP ?_) | (apply gC; refine sC ?_) | (apply gD; refine sD ?_) | fail)
  refine D_op rfl ?_; refine X_s (sv_idxX (A := UA) (n := U2.length) (c := uc) (j := k) (by repeat (first | exact .head _ | refine .tail _ ?_)) Ev.pf Ev.pf (by omega) (by omega) (by omega)) ?_
  repeat' (first | refine go ?_ | intro _ | (apply cG; first | refine cT ?_ | refine cF ?_ | refine cS (fun _ => ?_) fun _ => ?_) | (apply gW; refine sW ?_) | (apply gI; refine sI ?_) | (apply gE; refine sE ?_) | (apply gP; refine sP ?_) | (apply gC; refine sC ?_) | (apply gD; refine sD ?_) | fail)
  refine D_op rfl ?_; refine X_d (dy_storeE (f := Value.int .i64) (hf := fun _ => rfl) (n := U2.length) (c := uc) u (hy := by rfl) (hj := by omega)) ?_; rintro _ _ ⟨rfl, rfl⟩; (try simp only [List.set_cons_succ, List.set_cons_zero]); refine ⟨.inr (Sub.trans (B := own 3 eI (.slice UA U2.length uc) (U2.set k u) :: cel bt [.pointer (some ⟨q, 0, none⟩)] 25 :: cel ba [.int .i64 (k : Int)] 3 :: cel bb [.int .i64 (u - v)] 3 :: cel q [.slice UA U2.length uc, .int .i64 (gs.length : Int), .map (some km), .map (some ks), .slice GA gs.length gc, .int .i64 tot] 64 :: []) Sb (Sub.trans sub_owX Sb)), D_n ?_⟩
  repeat' (first | refine go ?_ | intro _ | (apply cG; first | refine cT ?_ | refine cF ?_ | refine cS (fun _ => ?_) fun _ => ?_) | (apply gW; refine sW ?_) | (apply gI; refine sI ?_) | (apply gE; refine sE ?_) | (apply gP; refine sP ?_) | (apply gC; refine sC ?_) | (apply gD; refine sD ?_) | fail)
  rename_i cn
  refine O_d (dy_call ArgsI.pf (by first | exact rfl | trivial | (intro a b; rfl)) (coarsest_ct)) ?_; rintro _ _ ⟨_, ⟨bx, T, rfl, rfl⟩, rfl⟩; refine O_n ?_
  repeat' (first | refine go ?_ | intro _ | (apply cG; first | refine cT ?_ | refine cF ?_ | refine cS (fun _ => ?_) fun _ => ?_) | (apply gW; refine sW ?_) | (apply gI; refine sI ?_) | (apply gE; refine sE ?_) | (apply gP; refine sP ?_) | (apply gC; refine sC ?_) | (apply gD; refine sD ?_) | fail)
  have hks : keyS gs gs.length = keyS (gsF G G.length) G.length := by rw [hgl, hg2]
  refine C_rangeS Ev.pf eg3 (coarsest_gives (q := q) (bx := bx) (UA := UA) (GA := GA) (nu := U2.length) (uc := uc) (gc := gc) (km := .map (some km)) (ks := .map (some ks)) (gs := gs) (tot := tot + (u - v)) (T := T) (E0 := rd eI (.slice GA gs.length gc) gs :: mapx kpr mS km mm :: cel bt [.pointer (some ⟨q, 0, none⟩)] 25 :: cel ba [.int .i64 (k : Int)] 3 :: cel bb [.int .i64 (u - v)] 3 :: own 3 eI (.slice UA U2.length uc) (U2.set k u) :: L) (.head _) (fun g hg => by have := hgb g hg; omega) (by omega)) (fun _ _ => rfl) (fun pre => [chD ks cn F G (k : Int) (u - v) sl pre]) (Sub.trans (B := mapx kpr mI ks sl :: cel cn [.int .i64 1] 3 :: cel bx [.pointer (some ⟨q, 0, none⟩)] T :: cel q [.slice UA U2.length uc, .int .i64 (gs.length : Int), .map (some km), .map (some ks), .slice GA gs.length gc, .int .i64 (tot + (u - v))] 64 :: rd eI (.slice GA gs.length gc) gs :: mapx kpr mS km mm :: cel bt [.pointer (some ⟨q, 0, none⟩)] 25 :: cel ba [.int .i64 (k : Int)] 3 :: cel bb [.int .i64 (u - v)] 3 :: own 3 eI (.slice UA U2.length uc) (U2.set k u) :: L) Sb (sub_chD (pre := []) (sl := sl) (fun y => by simp))) ?_ ?_
  · intro g D rec rec' pre y post uu hx
    simp only [zip1, List.setIfInBounds_toArray, List.set_cons_zero, List.set_cons_succ, List.cons_append, List.nil_append]
    obtain ⟨e1, he1, he2, he3, he4⟩ := hkey (y := y) (by rw [← hks, hx]; simp)
    have hnd : y ∉ pre := fun h => by
      have := keyS_nodup (gs := gs) (n := gs.length)
      rw [hx] at this
      exact (List.nodup_append.1 this).2.2 y h y (.head _) rfl
    obtain ⟨ys, yg⟩ := y
    simp only [kpr] at *
    repeat' (first | refine go ?_ | intro _ | (apply cG; first | refine cT ?_ | refine cF ?_ | refine cS (fun _ => ?_) fun _ => ?_) | (apply gW; refine sW ?_) | (apply gI; refine sI ?_) | (apply gE; refine sE ?_) | (apply gP; refine sP ?_) | (apply gC; refine sC ?_) | (apply gD; refine sD ?_) | fail)
    rename_i ck
    refine E_sub (S := blk g rec :: cel ck [.int .i64 ys, .int .i64 yg] 43 :: blk D (.deferred (some [])) :: chD ks cn F G (k : Int) (u - v) sl pre :: cel bx [.pointer (some ⟨q, 0, none⟩)] T :: cel q [.slice UA U2.length uc, .int .i64 (gs.length : Int), .map (some km), .map (some ks), .slice GA gs.length gc, .int .i64 (tot + (u - v))] 64 :: rd eI (.slice GA gs.length gc) gs :: mapx kpr mS km mm :: cel bt [.pointer (some ⟨q, 0, none⟩)] 25 :: cel ba [.int .i64 (k : Int)] 3 :: cel bb [.int .i64 (u - v)] 3 :: own 3 eI (.slice UA U2.length uc) (U2.set k u) :: L) Sb ?_
    refine ⟨fun w s => ⟨rfl, _, s, ?_⟩⟩
    clear s w
    refine CI_open (κ := List ((Int × Int) × Int)) (φ := fun s => ChOk F G (k : Int) (u - v) sl pre s) (LI := fun s => mapx kpr mI ks s :: cel cn [.int .i64 (1 + (((pre).filter (hitB F G (k : Int))).length : Int))] 3 :: blk g rec' :: cel ck [.int .i64 ys, .int .i64 yg] 43 :: blk D (.deferred (some [])) :: cel bx [.pointer (some ⟨q, 0, none⟩)] T :: cel q [.slice UA U2.length uc, .int .i64 (gs.length : Int), .map (some km), .map (some ks), .slice GA gs.length gc, .int .i64 (tot + (u - v))] 64 :: rd eI (.slice GA gs.length gc) gs :: mapx kpr mS km mm :: cel bt [.pointer (some ⟨q, 0, none⟩)] 25 :: cel ba [.int .i64 (k : Int)] 3 :: cel bb [.int .i64 (u - v)] 3 :: own 3 eI (.slice UA U2.length uc) (U2.set k u) :: L) (fun w s => St.chD_ ((show Sub _ (chD ks cn F G (k : Int) (u - v) sl pre :: blk g rec' :: cel ck [.int .i64 ys, .int .i64 yg] 43 :: blk D (.deferred (some [])) :: cel bx [.pointer (some ⟨q, 0, none⟩)] T :: cel q [.slice UA U2.length uc, .int .i64 (gs.length : Int), .map (some km), .map (some ks), .slice GA gs.length gc, .int .i64 (tot + (u - v))] 64 :: rd eI (.slice GA gs.length gc) gs :: mapx kpr mS km mm :: cel bt [.pointer (some ⟨q, 0, none⟩)] 25 :: cel ba [.int .i64 (k : Int)] 3 :: cel bb [.int .i64 (u - v)] 3 :: own 3 eI (.slice UA U2.length uc) (U2.set k u) :: L) from Sb).st s)) ?_
    intro s1 hs1
    refine CI_sub (sub_mS (y := (ys, yg)) (by repeat (first | exact .head _ | refine .tail _ ?_)) he1) ?_
    refine CI_fact (fun w s => rd_form (.head _) s) ?_
    rintro ⟨A3, c3, e3⟩
    rw [e3]
    have hve : mS.val e1 = .slice A3 e1.2.length c3 := e3
    obtain ⟨ms, hms⟩ : ∃ ms, e1.2 = ms := ⟨_, rfl⟩
    rw [hms] at he2 hve ⊢
    have hmF := mbrF_len (F := F) (G := G) (s := ys) (g := yg)
    have hmI := mbrN_in (F := F) (G := G) (a := ys) (b := yg) (n := F.length)
    have hms2 : mbrN F G ys yg F.length = ms := he2.symm
    rw [hms2] at hmI
    rw [← he2] at he3 hmF he4
    have hw : gvX (ys, yg) s1 = some (sumAt U2 ms) := by
      rw [hs1, if_neg fun h => hnd h.1]
      exact he4
    have hwb := sumAt_bd hc.u hmI (by rw [hFl]; exact Nat.le_refl _) (by omega)
    obtain ⟨cnt, hcnt⟩ : ∃ n, (pre.filter (hitB F G (k : Int))).length = n := ⟨_, rfl⟩
    have hcl : cnt ≤ G.length := by
      have h1 := hits_keyS hc (k := k) (by omega) (Nat.le_refl G.length)
      rw [← hks, hx, List.filter_append, List.length_append, hcnt] at h1
      omega
    rw [hcnt]
    have hcs : ((pre ++ [(ys, yg)]).filter (hitB F G (k : Int))).length = cnt + (if hitB F G (k : Int) (ys, yg) = true then 1 else 0) := by
      rw [List.filter_append, List.length_append, hcnt]
      congr 1
      cases hh : hitB F G (k : Int) (ys, yg)
      · rw [List.filter_cons_of_neg (by rw [hh]; decide)]
        rfl
      · rw [List.filter_cons_of_pos hh]
        rfl
    have hhit : hitB F G (k : Int) (ys, yg) = memB ms (k : Int) := by
      unfold hitB
      rw [he2]
    repeat' (first | refine go ?_ | intro _ | (apply cG; first | refine cT ?_ | refine cF ?_ | refine cS (fun _ => ?_) fun _ => ?_) | (apply gW; refine sW ?_) | (apply gI; refine sI ?_) | (apply gE; refine sE ?_) | (apply gP; refine sP ?_) | (apply gC; refine sC ?_) | (apply gD; refine sD ?_) | fail)
    refine CI_draw (n := 99) [rd eI (.slice A3 ms.length c3) ms, cel bt [.pointer (some ⟨q, 0, none⟩)] 25, cel q [.slice UA U2.length uc, .int .i64 (gs.length : Int), .map (some km), .map (some ks), .slice GA gs.length gc, .int .i64 (tot + (u - v))] 64, cel ck [.int .i64 ys, .int .i64 yg] 43, cel ba [.int .i64 (k : Int)] 3, mapx kpr mS km mm] [(0, 1), (1, 1), (2, 1), (3, 1), (4, 1), (5, 1), (6, 1), (7, 0)] (by kernel_rfl) (by kernel_rfl) Sb ?_
    repeat' (first | refine go ?_ | intro _ | (apply cG; first | refine cT ?_ | refine cF ?_ | refine cS (fun _ => ?_) fun _ => ?_) | (apply gW; refine sW ?_) | (apply gI; refine sI ?_) | (apply gE; refine sE ?_) | (apply gP; refine sP ?_) | (apply gC; refine sC ?_) | (apply gD; refine sD ?_) | fail)
    refine D_op rfl ?_; refine X_s (sv_lookN (K := kpr) (R := mS) (k := (ys, yg)) (by repeat (first | exact .head _ | refine .tail _ ?_)) Ev.pf Ev.pf he1) ?_
    simp only [Option.map_some, Option.getD_some]
    rw [hve]
    repeat' (first | refine go ?_ | intro _ | (apply cG; first | refine cT ?_ | refine cF ?_ | refine cS (fun _ => ?_) fun _ => ?_) | (apply gW; refine sW ?_) | (apply gI; refine sI ?_) | (apply gE; refine sE ?_) | (apply gP; refine sP ?_) | (apply gC; refine sC ?_) | (apply gD; refine sD ?_) | fail)
    refine D_op rfl ?_; refine X_d (dy_call ArgsI.pf (by first | exact rfl | trivial | (intro a b; rfl)) (Con29_ct (l := ms) (v := (k : Int)) (.inl (.head _)) (by omega))) ?_; rintro _ _ ⟨_, ⟨rfl, hLL⟩, rfl⟩; replace hLL := hLL.symm; subst hLL; refine ⟨(by first | exact .inl rfl | exact .inr Sb), D_n ?_⟩
    cases hmk : memB ms (k : Int) with
    | false =>
      rw [hmk] at hhit
      rw [if_neg (by rw [hhit]; decide), Nat.add_zero] at hcs
      repeat' (first | refine go ?_ | intro _ | (apply cG; first | refine cT ?_ | refine cF ?_ | refine cS (fun _ => ?_) fun _ => ?_) | (apply gW; refine sW ?_) | (apply gI; refine sI ?_) | (apply gE; refine sE ?_) | (apply gP; refine sP ?_) | (apply gC; refine sC ?_) | (apply gD; refine sD ?_) | fail)
      refine E_sub (S := mapx kpr mI ks s1 :: cel cn [.int .i64 (1 + (((pre ++ [(ys, yg)]).filter (hitB F G (k : Int))).length : Int))] 3 :: blk g rec' :: blk D (.deferred (some [])) :: cel bx [.pointer (some ⟨q, 0, none⟩)] T :: cel q [.slice UA U2.length uc, .int .i64 (gs.length : Int), .map (some km), .map (some ks), .slice GA gs.length gc, .int .i64 (tot + (u - v))] 64 :: rd eI (.slice GA gs.length gc) gs :: mapx kpr mS km mm :: cel bt [.pointer (some ⟨q, 0, none⟩)] 25 :: cel ba [.int .i64 (k : Int)] 3 :: cel bb [.int .i64 (u - v)] 3 :: own 3 eI (.slice UA U2.length uc) (U2.set k u) :: L) (by rw [hcs]; exact Sb) ?_
      refine E_sub (sub_chD (F := F) (G := G) (k := (k : Int)) (by_ := u - v) (sl0 := sl) (pre := pre ++ [(ys, yg)]) (sl := s1) (fun y => ?_)) ?_
      · rw [hs1]
        by_cases hy : y = (ys, yg)
        · rw [if_neg (fun h => by rw [hy, hhit] at h; exact absurd h.2 (by decide)), if_neg (fun h => by rw [hy, hhit] at h; exact absurd h.2 (by decide))]
        · by_cases h2 : y ∈ pre ∧ hitB F G (k : Int) y = true
          · rw [if_pos h2, if_pos ⟨List.mem_append.2 (.inl h2.1), h2.2⟩]
          · rw [if_neg h2, if_neg fun h => h2 ⟨(List.mem_append.1 h.1).elim id fun e => absurd (List.mem_singleton.1 e) hy, h.2⟩]
      refine E_sub (S := blk g rec' :: blk D (.deferred (some [])) :: chD ks cn F G (k : Int) (u - v) sl (pre ++ [(ys, yg)]) :: cel bx [.pointer (some ⟨q, 0, none⟩)] T :: cel q [.slice UA U2.length uc, .int .i64 (gs.length : Int), .map (some km), .map (some ks), .slice GA gs.length gc, .int .i64 (tot + (u - v))] 64 :: rd eI (.slice GA gs.length gc) gs :: mapx kpr mS km mm :: cel bt [.pointer (some ⟨q, 0, none⟩)] 25 :: cel ba [.int .i64 (k : Int)] 3 :: cel bb [.int .i64 (u - v)] 3 :: own 3 eI (.slice UA U2.length uc) (U2.set k u) :: L) Sb ?_
      exact ⟨fun w s => ⟨rfl, s⟩⟩
    | true =>
      rw [hmk] at hhit
      rw [if_pos hhit] at hcs
      have hw2 : (gvX (ys, yg) s1).getD 0 = sumAt U2 ms := by rw [hw]; rfl
      obtain ⟨w0, hw0⟩ : ∃ w0, sumAt U2 ms = w0 := ⟨_, rfl⟩
      rw [hw0] at hw2 hwb hw he4
      repeat' (first | refine go ?_ | intro _ | (apply cG; first | refine cT ?_ | refine cF ?_ | refine cS (fun _ => ?_) fun _ => ?_) | (apply gW; refine sW ?_) | (apply gI; refine sI ?_) | (apply gE; refine sE ?_) | (apply gP; refine sP ?_) | (apply gC; refine sC ?_) | (apply gD; refine sD ?_) | fail)
      refine CI_draw (n := 10) [mapz kpr mI ks (ys, yg) 0 w0, cel bt [.pointer (some ⟨q, 0, none⟩)] 25, cel q [.slice UA U2.length uc, .int .i64 (gs.length : Int), .map (some km), .map (some ks), .slice GA gs.length gc, .int .i64 (tot + (u - v))] 64, cel ck [.int .i64 ys, .int .i64 yg] 43, cel bb [.int .i64 (u - v)] 3] [(0, 1), (1, 1), (2, 1), (3, 1), (4, 1), (5, 1), (6, 1), (7, 1), (8, 0), (9, 1), (10, 0)] (by kernel_rfl) (by kernel_rfl) (Sub.trans (B := mapx kpr mI ks s1 :: cel bt [.pointer (some ⟨q, 0, none⟩)] 25 :: cel q [.slice UA U2.length uc, .int .i64 (gs.length : Int), .map (some km), .map (some ks), .slice GA gs.length gc, .int .i64 (tot + (u - v))] 64 :: cel ck [.int .i64 ys, .int .i64 yg] 43 :: cel bb [.int .i64 (u - v)] 3 :: []) Sb (by rw [← hw2]; exact sub_mapz)) ?_
      repeat' (first | refine go ?_ | intro _ | (apply cG; first | refine cT ?_ | refine cF ?_ | refine cS (fun _ => ?_) fun _ => ?_) | (apply gW; refine sW ?_) | (apply gI; refine sI ?_) | (apply gE; refine sE ?_) | (apply gP; refine sP ?_) | (apply gC; refine sC ?_) | (apply gD; refine sD ?_) | fail)
      refine D_op rfl ?_; refine X_s (sv_lookz (K := kpr) (R := mI) (k := (ys, yg)) (z := 0) (.head _) Ev.pf Ev.pf rfl) ?_
      have hmi : mI.val w0 = .int .i64 w0 := rfl
      rw [hmi]
      repeat' (first | refine go ?_ | intro _ | (apply cG; first | refine cT ?_ | refine cF ?_ | refine cS (fun _ => ?_) fun _ => ?_) | (apply gW; refine sW ?_) | (apply gI; refine sI ?_) | (apply gE; refine sE ?_) | (apply gP; refine sP ?_) | (apply gC; refine sC ?_) | (apply gD; refine sD ?_) | fail)
      refine D_op rfl ?_; refine X_d (dy_ment (K := kpr) (R := mI) (k := (ys, yg)) 0 (i := 1) rfl Ev.pf Ev.pf rfl rfl (fun _ _ _ => trivial)) ?_; rintro _ _ ⟨st2, rfl, rfl⟩; (try simp only [List.set_cons_succ, List.set_cons_zero]); refine ⟨.inr (Sub.trans (B := mape kpr mI ks (ensX (ys, yg) 0 s1) (ys, yg) st2 :: cel bt [.pointer (some ⟨q, 0, none⟩)] 25 :: cel q [.slice UA U2.length uc, .int .i64 (gs.length : Int), .map (some km), .map (some ks), .slice GA gs.length gc, .int .i64 (tot + (u - v))] 64 :: cel ck [.int .i64 ys, .int .i64 yg] 43 :: cel bb [.int .i64 (u - v)] 3 :: []) Sb (by rw [← hw2]; exact sub_mapz2)), D_n ?_⟩
      repeat' (first | refine go ?_ | intro _ | (apply cG; first | refine cT ?_ | refine cF ?_ | refine cS (fun _ => ?_) fun _ => ?_) | (apply gW; refine sW ?_) | (apply gI; refine sI ?_) | (apply gE; refine sE ?_) | (apply gP; refine sP ?_) | (apply gC; refine sC ?_) | (apply gD; refine sD ?_) | fail)
      refine D_op rfl ?_; refine X_d (dy_mest (K := kpr) (R := mI) (w0 + (u - v)) (i := 1) rfl Ev.pf Ev.pf Ev.pf rfl (fun _ _ _ => trivial)) ?_; rintro _ _ ⟨rfl, rfl⟩; (try simp only [List.set_cons_succ, List.set_cons_zero]); refine ⟨(by first | exact .inl rfl | exact .inr Sb), D_n ?_⟩
      rw [putX_ens]
      repeat' (first | refine go ?_ | intro _ | (apply cG; first | refine cT ?_ | refine cF ?_ | refine cS (fun _ => ?_) fun _ => ?_) | (apply gW; refine sW ?_) | (apply gI; refine sI ?_) | (apply gE; refine sE ?_) | (apply gP; refine sP ?_) | (apply gC; refine sC ?_) | (apply gD; refine sD ?_) | fail)
      refine E_sub (S := mapx kpr mI ks (putX (ys, yg) (w0 + (u - v)) s1) :: cel cn [.int .i64 (1 + (((pre ++ [(ys, yg)]).filter (hitB F G (k : Int))).length : Int))] 3 :: blk g rec' :: blk D (.deferred (some [])) :: cel bx [.pointer (some ⟨q, 0, none⟩)] T :: cel q [.slice UA U2.length uc, .int .i64 (gs.length : Int), .map (some km), .map (some ks), .slice GA gs.length gc, .int .i64 (tot + (u - v))] 64 :: rd eI (.slice GA gs.length gc) gs :: mapx kpr mS km mm :: cel bt [.pointer (some ⟨q, 0, none⟩)] 25 :: cel ba [.int .i64 (k : Int)] 3 :: cel bb [.int .i64 (u - v)] 3 :: own 3 eI (.slice UA U2.length uc) (U2.set k u) :: L) (by rw [hcs, show (1 : Int) + ((cnt + 1 : Nat) : Int) = 1 + (cnt : Int) + 1 from by omega]; exact Sb) ?_
      refine E_sub (sub_chD (F := F) (G := G) (k := (k : Int)) (by_ := u - v) (sl0 := sl) (pre := pre ++ [(ys, yg)]) (sl := putX (ys, yg) (w0 + (u - v)) s1) (fun y => ?_)) ?_
      · rw [gvX_put]
        by_cases hy : y = (ys, yg)
        · subst hy
          rw [if_pos rfl, if_pos ⟨by simp, hhit⟩, he4]
          rfl
        · rw [if_neg hy, hs1]
          by_cases h2 : y ∈ pre ∧ hitB F G (k : Int) y = true
          · rw [if_pos h2, if_pos ⟨List.mem_append.2 (.inl h2.1), h2.2⟩]
          · rw [if_neg h2, if_neg fun h => h2 ⟨(List.mem_append.1 h.1).elim id fun e => absurd (List.mem_singleton.1 e) hy, h.2⟩]
      refine E_sub (S := blk g rec' :: blk D (.deferred (some [])) :: chD ks cn F G (k : Int) (u - v) sl (pre ++ [(ys, yg)]) :: cel bx [.pointer (some ⟨q, 0, none⟩)] T :: cel q [.slice UA U2.length uc, .int .i64 (gs.length : Int), .map (some km), .map (some ks), .slice GA gs.length gc, .int .i64 (tot + (u - v))] 64 :: rd eI (.slice GA gs.length gc) gs :: mapx kpr mS km mm :: cel bt [.pointer (some ⟨q, 0, none⟩)] 25 :: cel ba [.int .i64 (k : Int)] 3 :: cel bb [.int .i64 (u - v)] 3 :: own 3 eI (.slice UA U2.length uc) (U2.set k u) :: L) Sb ?_
      exact ⟨fun w s => ⟨rfl, s⟩⟩
  · intro D
    simp only [List.cons_append, List.nil_append]
    refine EL_open (κ := List ((Int × Int) × Int)) (φ := fun s => ChOk F G (k : Int) (u - v) sl (keyS gs gs.length) s) (LI := fun s => mapx kpr mI ks s :: cel cn [.int .i64 (1 + (((keyS gs gs.length).filter (hitB F G (k : Int))).length : Int))] 3 :: blk D (.deferred (some [])) :: cel bx [.pointer (some ⟨q, 0, none⟩)] T :: cel q [.slice UA U2.length uc, .int .i64 (gs.length : Int), .map (some km), .map (some ks), .slice GA gs.length gc, .int .i64 (tot + (u - v))] 64 :: rd eI (.slice GA gs.length gc) gs :: mapx kpr mS km mm :: cel bt [.pointer (some ⟨q, 0, none⟩)] 25 :: cel ba [.int .i64 (k : Int)] 3 :: cel bb [.int .i64 (u - v)] 3 :: own 3 eI (.slice UA U2.length uc) (U2.set k u) :: L) (fun w s => St.chD_ ((show Sub _ (chD ks cn F G (k : Int) (u - v) sl (keyS gs gs.length) :: blk D (.deferred (some [])) :: cel bx [.pointer (some ⟨q, 0, none⟩)] T :: cel q [.slice UA U2.length uc, .int .i64 (gs.length : Int), .map (some km), .map (some ks), .slice GA gs.length gc, .int .i64 (tot + (u - v))] 64 :: rd eI (.slice GA gs.length gc) gs :: mapx kpr mS km mm :: cel bt [.pointer (some ⟨q, 0, none⟩)] 25 :: cel ba [.int .i64 (k : Int)] 3 :: cel bb [.int .i64 (u - v)] 3 :: own 3 eI (.slice UA U2.length uc) (U2.set k u) :: L) from Sb).st s)) ?_
    intro s1 hs1
    have hcn : ((keyS gs gs.length).filter (hitB F G (k : Int))).length = G.length := by
      rw [hks]
      exact hits_keyS hc (by omega) (Nat.le_refl _)
    rw [hcn]
    have hL6 := @tbl_sub L ⟨q, km, ks, UA, GA, uc, gc, U2.set k u, gs, mm, s1, tot + (u - v)⟩
    unfold tbc at hL6
    dsimp only at hL6
    rw [List.length_set] at hL6
    have hkl : k < U2.length := by omega
    repeat' (first | refine go ?_ | intro _ | (apply cG; first | refine cT ?_ | refine cF ?_ | refine cS (fun _ => ?_) fun _ => ?_) | (apply gW; refine sW ?_) | (apply gI; refine sI ?_) | (apply gE; refine sE ?_) | (apply gP; refine sP ?_) | (apply gC; refine sC ?_) | (apply gD; refine sD ?_) | fail)
    refine E_res2d rfl (by rfl) Ev.pf Ev.pf ⟨⟨q, km, ks, UA, GA, uc, gc, U2.set k u, gs, mm, s1, tot + (u - v)⟩, rfl, ⟨rfl, hg2, ?_, ht0.mm, fun a b => ?_⟩, rfl, rfl⟩ (Sub.trans (B := blk D (.deferred (some [])) :: cel q [.slice UA U2.length uc, .int .i64 (gs.length : Int), .map (some km), .map (some ks), .slice GA gs.length gc, .int .i64 (tot + (u - v))] 64 :: own 3 eI (.slice UA U2.length uc) (U2.set k u) :: mapx kpr mS km mm :: mapx kpr mI ks s1 :: rd eI (.slice GA gs.length gc) gs :: L) Sb (sub_skip hL6))
    · dsimp only
      rw [sumL_set hkl, htot]
      rw [Int.toNat_natCast] at hvd
      omega
    · dsimp only
      have h0 := ht0.sl a b
      dsimp only at h0
      rw [hs1, h0]
      by_cases hm0 : mbrF F G a b = []
      · rw [hm0]
        show (if _ then Option.map _ none else none) = none
        split <;> rfl
      · have hin := key_of hc hm0
        rw [← hks] at hin
        have e1 : optL (mbrF F G a b) = some (mbrF F G a b) := by unfold optL; rw [if_neg hm0]
        rw [e1, Option.map_some, Option.map_some, Option.map_some, sumAt_set hkl mbrF_asc (fun x hx => (mbrN_in (F := F) (G := G) (n := F.length) x hx).1)]
        rw [Int.toNat_natCast] at hvd
        rw [hvd]
        by_cases hh : hitB F G (k : Int) (a, b) = true
        · rw [if_pos ⟨hin, hh⟩, if_pos (of_decide_eq_true hh)]
        · rw [if_neg fun h => hh h.2, if_neg fun h => hh (decide_eq_true h), Int.add_zero]
end
end Go.Proofs.Ytlmabajgnjiigaa
namespace Go.Proofs.Ytlmabajgnjiigaa
open Go Go.RowKit
set_option linter.unusedVariables false
set_option linter.unusedSimpArgs false
section
variable {P : Program} {W0 w : World} {S : List HP} {a : Act} {d : Option Tmp} {ty : TypeId} {pos : String} {aft : Array Edge} {gd : Option (Nat × Bool)} {x y : Operand} {t u : TypeId}
theorem eqF_nil {n : Nat} {xs ys : Array Value} {w : World} : (Op.eqFields n xs ys []).run P w = .ok true w := by
  simp [Op.eqFields]
theorem eqF_cons {n : Nat} {xs ys : Array Value} {f : Field} {fs : List Field} {v v' : Value} {w : World} (hn : f.name ≠ "_") (ha : (part f.type xs f.offset).run P w = .ok v w) (hb : (part f.type ys f.offset).run P w = .ok v' w) (he : (Op.equalIn n f.type v v').run P w = .ok true w) (h : (Op.eqFields n xs ys fs).run P w = .ok true w) :
    (Op.eqFields n xs ys (f :: fs)).run P w = .ok true w := by
  simp only [Op.eqFields, if_pos hn, Sem.run_bind, ha, hb, he, Result.andThen_ok, Bool.not_true, Bool.false_eq_true, if_false]
  exact h
theorem eqA_of {n : Nat} {xs ys : Array Value} {w : World} {fs : Array Field} (hu : P.underlying t = some (.struct fs)) (hp : P.stoodInHeld t = false) (h : (Op.eqFields n xs ys fs.toList).run P w = .ok true w) : (Op.equalIn (n + 1) t (.agg xs) (.agg ys)).run P w = .ok true w := by
  have hf : P.fieldsOf t = fs := by unfold Program.fieldsOf; rw [hu]
  rw [run_equalIn_agg w n t xs ys (by rw [hf]; exact hu) hp, hf]
  exact h
theorem sv_neA {xs ys : Array Value} (hx : a.eval x = .agg xs := by exact Ev.pf) (hy : a.eval y = .agg ys := by exact Ev.pf) (hg : P.eqGuardType P.depth t = false := by kernel_rfl) (h : ∀ w, (Op.equalIn 10000 t (.agg xs) (.agg ys)).run P w = .ok true w) : SV P W0 S ⟨d, .binOp .neq t x y u, ty, pos, aft, gd⟩ a (.bool false) := ⟨fun w _ => by
  unfold execOp
  simp [hx, hy, run_eqGuard_agg (P := P) w .neq t x y xs ys hg, run_neq_struct, h]⟩
theorem sv_eqA {xs ys : Array Value} (hx : a.eval x = .agg xs := by exact Ev.pf) (hy : a.eval y = .agg ys := by exact Ev.pf) (hg : P.eqGuardType P.depth t = false := by kernel_rfl) (h : ∀ w, (Op.equalIn 10000 t (.agg xs) (.agg ys)).run P w = .ok true w) : SV P W0 S ⟨d, .binOp .eql t x y u, ty, pos, aft, gd⟩ a (.bool true) := ⟨fun w _ => by
  unfold execOp
  simp [hx, hy, run_eqGuard_agg (P := P) w .eql t x y xs ys hg, run_eql_struct, h]⟩
theorem eqI_of {n : Nat} {k k' : IntKind} {z : Int} {w : World} (h : P.underlying t = some (.int k')) : (Op.equalIn (n + 1) t (.int k z) (.int k z)).run P w = .ok true w := by
  rw [run_equalIn_int w n t k k' z z h]
  simp
end
end Go.Proofs.Ytlmabajgnjiigaa
namespace Go.Proofs.Ytlmabajgnjiigaa
open Go Go.RowKit
set_option linter.unusedVariables false
set_option linter.unusedSimpArgs false
set_option maxRecDepth 20000
set_option synthInstance.maxSize 100000
set_option synthInstance.maxHeartbeats 400000
section
variable {W0 : World} {L : List HP}
theorem eq_pr29 (x : Int × Int) (w : World) : (Op.equalIn 10000 43 (.agg #[.int .i64 x.1, .int .i64 x.2]) (.agg #[.int .i64 x.1, .int .i64 x.2])).run Try.prog w = .ok true w :=
  (eq_pr Try.underlying43 Try.underlying3 x x w).trans (by simp)
theorem samePairs_ct {A B : Option Addr} {c d : Nat} {a : List (Int × Int)} (hv : rd ePr (.slice A a.length c) a ∈ L) (hv2 : rd ePr (.slice B a.length d) a ∈ L) (hl : a.length ≤ 1000000000) :
    CT Try.prog 22 #[.slice A a.length c, .slice B a.length d] W0 L fun r L' => r = .bool true ∧ L' = L := by
  refine CT.sub ?_ (sub_dup hv)
  refine CT.sub ?_ (sub_dup (.tail _ hv2))
  refine CT_enter Try.func22 rfl ?_; (simp only [Try.ntmps22, List.size_toArray, List.length_cons, List.length_nil, Nat.reduceAdd, Nat.reduceSub, Array.replicate_succ, Array.replicate_zero, List.push_toArray, List.append_toArray, List.nil_append, List.cons_append])
  repeat' (first | refine go ?_ | intro _ | (apply cG; first | refine cT ?_ | refine cF ?_ | refine cS (fun _ => ?_) fun _ => ?_) | (apply gW; refine sW ?_) | (apply gI; refine sI ?_) | (apply gE; refine sE ?_) | (apply gP; refine sP ?_) | (apply gC; refine sC ?_) | (apply gD; refine sD ?_) | fail)
  refine C_loopS (κ := Nat) [false, false, false, false, true, true, false, false, false, false, false, true, true, true, true, true, true, true, true, true, true, true, true, true, true, true] (fun k => [(5, .int .i64 (k : Int))]) (fun k => []) (fun k => k ≤ a.length) (fun k => a.length - k) 0 (Nat.zero_le _) ⟨rfl, trivial⟩ ?_
  rintro i u hi
  ((try dsimp only); refine C_n ?_; (try simp only [Nat.reduceAdd, Nat.zero_add]))
  by_cases hil : i < a.length
  rotate_left
  · repeat' (first | refine go ?_ | intro _ | (apply cG; first | refine cT ?_ | refine cF ?_ | refine cS (fun _ => ?_) fun _ => ?_) | (apply gW; refine sW ?_) | (apply gI; refine sI ?_) | (apply gE; refine sE ?_) | (apply gP; refine sP ?_) | (apply gC; refine sC ?_) | (apply gD; refine sD ?_) | fail)
    refine E_res1 (by rfl) (by rfl) ⟨rfl, rfl⟩ Sb
  obtain ⟨x, hx⟩ : ∃ x, a[i]? = some x := ⟨_, List.getElem?_eq_getElem (by omega)⟩
  have hax : At a i x := ⟨hx⟩
  repeat' (first | refine go ?_ | intro _ | (apply cG; first | refine cT ?_ | refine cF ?_ | refine cS (fun _ => ?_) fun _ => ?_) | (apply gW; refine sW ?_) | (apply gI; refine sI ?_) | (apply gE; refine sE ?_) | (apply gP; refine sP ?_) | (apply gC; refine sC ?_) | (apply gD; refine sD ?_) | fail)
  refine C_draw (n := 99) [rd ePr (.slice A a.length c) a, rd ePr (.slice B a.length d) a] [(0, 1), (1, 1), (2, 1), (3, 1), (4, 1), (5, 1), (6, 1), (7, 1), (8, 1)] (by kernel_rfl) (by kernel_rfl) Sb ?_
  repeat' (first | refine go ?_ | intro _ | (apply cG; first | refine cT ?_ | refine cF ?_ | refine cS (fun _ => ?_) fun _ => ?_) | (apply gW; refine sW ?_) | (apply gI; refine sI ?_) | (apply gE; refine sE ?_) | (apply gP; refine sP ?_) | (apply gC; refine sC ?_) | (apply gD; refine sD ?_) | fail)
  refine D_op rfl ?_; refine X_s (sv_neA (h := fun w => eq_pr29 x w)) ?_
  repeat' (first | refine go ?_ | intro _ | (apply cG; first | refine cT ?_ | refine cF ?_ | refine cS (fun _ => ?_) fun _ => ?_) | (apply gW; refine sW ?_) | (apply gI; refine sI ?_) | (apply gE; refine sE ?_) | (apply gP; refine sP ?_) | (apply gC; refine sC ?_) | (apply gD; refine sD ?_) | fail)
  exact E_round (i + 1) hil (by omega) ⟨rfl, trivial⟩ Sb
end
end Go.Proofs.Ytlmabajgnjiigaa
