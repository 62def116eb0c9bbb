/-
  The reference's Spoilt: lengths only.
-/
import Derived.Test.YtlmabajgnjiigaaMZH
import Derived.Test.YtlmabajgnjiigaaMW
namespace Go.Proofs.Ytlmabajgnjiigaa
open Go Go.RowKit
set_option linter.unusedVariables false
set_option linter.unusedSimpArgs false
set_option maxRecDepth 20000
set_option synthInstance.maxSize 100000
set_option synthInstance.maxHeartbeats 400000
/-- if the first row has an element, all rows have -/
def RowsNe (G : List (List Int)) : Prop := ∀ x0, G[0]? = some x0 → 0 < x0.length → ∀ x ∈ G, 0 < x.length
/-- a table of few -/
structure Few (n : Nat) (U F : List Int) (G : List (List Int)) : Prop where
  u : U.length ≤ n
  f : F.length ≤ n
  g : G.length ≤ n
  r : ∀ x ∈ G, x.length ≤ n
  ne : RowsNe G
theorem RowsNe.len {G G' : List (List Int)} (h : RowsNe G) (e : G'.map List.length = G.map List.length) : RowsNe G' := by
  intro x0 h0 hp x hx
  obtain ⟨i, hi⟩ := List.getElem?_of_mem hx
  have e0 := congrArg (fun l => l[0]?) e
  have ei := congrArg (fun l => l[i]?) e
  simp only [List.getElem?_map, h0, hi, Option.map_some] at e0 ei
  obtain ⟨y0, hy0, hl0⟩ := Option.map_eq_some_iff.1 e0.symm
  obtain ⟨y, hy, hl⟩ := Option.map_eq_some_iff.1 ei.symm
  have := h y0 hy0 (by omega) y (List.mem_of_getElem? hy)
  omega
theorem RowsNe.snoc {G : List (List Int)} {a : Int} (h : RowsNe G) : RowsNe (G ++ [[a]]) := by
  intro x0 h0 hp x hx
  rcases List.mem_append.1 hx with hx | hx
  · have hG : 0 < G.length := List.length_pos_of_mem hx
    rw [List.getElem?_append_left hG] at h0
    exact h x0 h0 hp x hx
  · rw [List.mem_singleton.1 hx]
    exact Nat.succ_pos _
/-- slices beside their rows: the lengths -/
def LnOk (vs : List SlV) (ls : List (List Int)) : Prop := vs.map (fun q => q.2.1) = ls.map List.length
theorem spl_at {α : Type} {l : List α} {i : Nat} {x : α} (h : l[i]? = some x) : l = l.take i ++ x :: l.drop (i + 1) ∧ (l.take i).length = i := by
  obtain ⟨hi, hx⟩ := List.getElem?_eq_some_iff.1 h
  refine ⟨?_, by rw [List.length_take]; omega⟩
  conv => lhs; rw [← List.take_append_drop i l, List.drop_eq_getElem_cons hi, hx]
theorem LnOk.at {vs : List SlV} {ls : List (List Int)} {i : Nat} {x : List Int} (h : LnOk vs ls) (hx : ls[i]? = some x) : ∃ A c, vs[i]? = some (A, x.length, c) := by
  have e := congrArg (fun l => l[i]?) h
  simp only [List.getElem?_map, hx, Option.map_some] at e
  obtain ⟨⟨A, n, c⟩, hq, e⟩ := Option.map_eq_some_iff.1 e
  dsimp only at e
  exact ⟨A, c, by rw [hq, e]⟩
theorem CT_front {P : Program} {W0 : World} {L : List HP} {f : FuncId} {args : Array Value} {R : Value → List HP → Prop} {A : HP} (h : A ∈ L) (k : ∀ L0, L.Perm (A :: L0) → CT P f args W0 (A :: L0) R) : CT P f args W0 L R := by
  obtain ⟨s, t, e⟩ := List.append_of_mem h
  have hp : L.Perm (A :: (s ++ t)) := by rw [e]; exact List.perm_middle
  exact CT.sub (k _ hp) (sub_perm hp)
section
variable {W0 : World} {L : List HP}
set_option maxHeartbeats 4000000 in
theorem Spoilt_ct {t : RT} {G : List (List Int)} {n : Nat} {at_ how by_ : Int} (ht : RTin t L) (hxs : t.xs.map SX.b = G) (hf : Few n t.U t.F G) (hn : n ≤ 1000) (ha : I64 at_) (hh : I64 how) (hb : I64 by_) :
    CT Try.prog 23 #[.pointer (some ⟨t.p, 0, none⟩), .int .i64 at_, .int .i64 how, .int .i64 by_] W0 L fun r L' => ∃ (t' : RT) (G' : List (List Int)), r = .pointer (some ⟨t'.p, 0, none⟩) ∧ t'.xs.map SX.b = G' ∧ Few (n + 1) t'.U t'.F G' ∧ L' = cel t'.p [.slice t'.A t'.U.length t'.ca, .slice t'.B t'.F.length t'.cb, .slice t'.C t'.xs.length t'.cc] 32 :: rd eI (.slice t'.A t'.U.length t'.ca) t'.U :: rd eI (.slice t'.B t'.F.length t'.cb) t'.F :: rd (eSX eI) (.slice t'.C t'.xs.length t'.cc) t'.xs :: L := by
  obtain ⟨p, A1, B1, C1, ca, cb, cc, U, F, xs⟩ := t
  obtain ⟨h1, h2, h3, h4⟩ := ht
  obtain ⟨hfu, hff, hfg, hfr, hfn⟩ := hf
  dsimp only at h1 h2 h3 h4 hxs hfu hff ⊢
  obtain ⟨ha1, ha2⟩ := ha
  obtain ⟨hh1, hh2⟩ := hh
  obtain ⟨hb1, hb2⟩ := hb
  have hxl : xs.length = G.length := by rw [← hxs, List.length_map]
  refine CT_front h1 fun L0 hp => ?_
  have q2 : rd eI (.slice A1 U.length ca) U ∈ cel p [.slice A1 U.length ca, .slice B1 F.length cb, .slice C1 xs.length cc] 32 :: L0 := hp.mem_iff.1 h2
  have q3 : rd eI (.slice B1 F.length cb) F ∈ cel p [.slice A1 U.length ca, .slice B1 F.length cb, .slice C1 xs.length cc] 32 :: L0 := hp.mem_iff.1 h3
  have q4 : rd (eSX eI) (.slice C1 xs.length cc) xs ∈ cel p [.slice A1 U.length ca, .slice B1 F.length cb, .slice C1 xs.length cc] 32 :: L0 := hp.mem_iff.1 h4
  refine CT.sub (S := rd eI (.slice A1 U.length ca) U :: rd eI (.slice B1 F.length cb) F :: rd (eSX eI) (.slice C1 xs.length cc) xs :: cel p [.slice A1 U.length ca, .slice B1 F.length cb, .slice C1 xs.length cc] 32 :: L0) ?_ (Sub.trans (sub_dup q4) (Sub.trans (sub_dup (.tail _ q3)) (sub_dup (.tail _ (.tail _ q2)))))
  refine CT_enter Try.func23 rfl ?_; (simp only [Try.ntmps23, List.size_toArray, List.length_cons, List.length_nil, Nat.reduceAdd, Nat.reduceSub, Array.replicate_succ, Array.replicate_zero, List.push_toArray, List.append_toArray, List.nil_append, List.cons_append])
  repeat' (first | refine go ?_ | intro _ | (apply cG; first | refine cT ?_ | refine cF ?_ | refine cS (fun _ => ?_) fun _ => ?_) | (apply gW; refine sW ?_) | (apply gI; refine sI ?_) | (apply gE; refine sE ?_) | (apply gP; refine sP ?_) | (apply gC; refine sC ?_) | (apply gD; refine sD ?_) | fail)
  refine C_joinL (κ := Option Addr × Nat × Option Addr × Nat × Nat) (fun k => cel k.2.2.2.2 [.slice k.1 U.length k.2.1, .slice k.2.2.1 F.length k.2.2.2.1, .slice none 0 0] 32 :: own 3 eI (.slice k.1 U.length k.2.1) U :: own 3 eI (.slice k.2.2.1 F.length k.2.2.2.1) F :: rd eI (.slice A1 U.length ca) U :: rd eI (.slice B1 F.length cb) F :: rd (eSX eI) (.slice C1 xs.length cc) xs :: cel p [.slice A1 U.length ca, .slice B1 F.length cb, .slice C1 xs.length cc] 32 :: L0) [false, false, false, false, false, false, false, false, false, true, false, false, false, true, true, true, true, true, true, true, true, true, true, true, true, true, true, false, false, false, false, false, false, false, false, false, false, false, false, false, false, false, false, false, false, false, false, false, false, false, false, false, false, false, false, false, false, false, false, false, false, false, false, false, false, false, false, false, false, false, false, false, false, false, false, false, false, false, false, false, false, false, false, false, false, false, false, false, false, false, false, false, false, false, false, false, false, false, false, false, false, false, false, false, false, false, false, false, false, false, false, false, false, false, false, false, false, false, false, false, false, false, false, false, false, false, false, false, false, false, false, false, false, false, false, false, false, false, false, false, false, false, false, false, false, false, false, false, false, false, false, false, false, false, false, false, false, false, false, false, false, false, false, false, false, false, false, false, false, false, false, false, false, false, false, false, false, false, false, false, false, false, false, false, false, false, false, false, false, false, false, false, false, false, false] (fun k => [(9, .pointer (some ⟨k.2.2.2.2, 0, none⟩))]) (fun _ => True) ?_ ?_
  · refine C_drawU (n := 99) [cel p [.slice A1 U.length ca, .slice B1 F.length cb, .slice C1 xs.length cc] 32] (.two [(1, 1), (2, 1), (3, 1), (4, 1), (7, 1), (8, 1), (9, 1), (10, 1)] 0 (.two [] 5 (.leaf [(6, 0), (11, 0), (12, 1), (13, 0), (14, 1)]) 6 (.leaf [(5, 0), (11, 0), (12, 1), (13, 0), (14, 1)])) 6 (.leaf [(0, 0), (5, 0), (11, 0), (12, 1), (13, 0), (14, 1)])) (by kernel_rfl) (by kernel_rfl) Sb ?_
    refine DT_two ?_
    repeat' (first | refine go ?_ | intro _ | (apply cG; first | refine cT ?_ | refine cF ?_ | refine cS (fun _ => ?_) fun _ => ?_) | (apply gW; refine sW ?_) | (apply gI; refine sI ?_) | (apply gE; refine sE ?_) | (apply gP; refine sP ?_) | (apply gC; refine sC ?_) | (apply gD; refine sD ?_) | fail)
    refine E_two ?_ ?_
    · refine D_d rfl (dy_lit0 eI rfl) ?_; rintro _ _ ⟨_, rfl, rfl⟩; refine ⟨(by first | exact .inl rfl | exact .inr Sb), D_n ?_⟩
      repeat' (first | refine go ?_ | intro _ | (apply cG; first | refine cT ?_ | refine cF ?_ | refine cS (fun _ => ?_) fun _ => ?_) | (apply gW; refine sW ?_) | (apply gI; refine sI ?_) | (apply gE; refine sE ?_) | (apply gP; refine sP ?_) | (apply gC; refine sC ?_) | (apply gD; refine sD ?_) | fail)
      refine E_way (DT_two ?_)
      repeat' (first | refine go ?_ | intro _ | (apply cG; first | refine cT ?_ | refine cF ?_ | refine cS (fun _ => ?_) fun _ => ?_) | (apply gW; refine sW ?_) | (apply gI; refine sI ?_) | (apply gE; refine sE ?_) | (apply gP; refine sP ?_) | (apply gC; refine sC ?_) | (apply gD; refine sD ?_) | fail)
      refine E_two ?_ ?_
      · repeat' (first | refine go ?_ | intro _ | (apply cG; first | refine cT ?_ | refine cF ?_ | refine cS (fun _ => ?_) fun _ => ?_) | (apply gW; refine sW ?_) | (apply gI; refine sI ?_) | (apply gE; refine sE ?_) | (apply gP; refine sP ?_) | (apply gC; refine sC ?_) | (apply gD; refine sD ?_) | fail)
        refine E_way (DT_leaf ?_)
        refine D_d rfl (dy_lit0 eI rfl) ?_; rintro _ _ ⟨_, rfl, rfl⟩; refine ⟨(by first | exact .inl rfl | exact .inr Sb), D_n ?_⟩
        repeat' (first | refine go ?_ | intro _ | (apply cG; first | refine cT ?_ | refine cF ?_ | refine cS (fun _ => ?_) fun _ => ?_) | (apply gW; refine sW ?_) | (apply gI; refine sI ?_) | (apply gE; refine sE ?_) | (apply gP; refine sP ?_) | (apply gC; refine sC ?_) | (apply gD; refine sD ?_) | fail)
        rename_i w1 A3 c3 w2 A4 c4 po
        exact E_join (A3, c3, A4, c4, po) trivial ⟨rfl, trivial⟩ Sb
      · refine D_d rfl (dy_lit0 eI rfl) ?_; rintro _ _ ⟨_, rfl, rfl⟩; refine ⟨(by first | exact .inl rfl | exact .inr Sb), D_n ?_⟩
        repeat' (first | refine go ?_ | intro _ | (apply cG; first | refine cT ?_ | refine cF ?_ | refine cS (fun _ => ?_) fun _ => ?_) | (apply gW; refine sW ?_) | (apply gI; refine sI ?_) | (apply gE; refine sE ?_) | (apply gP; refine sP ?_) | (apply gC; refine sC ?_) | (apply gD; refine sD ?_) | fail)
        refine E_way (DT_leaf ?_)
        repeat' (first | refine go ?_ | intro _ | (apply cG; first | refine cT ?_ | refine cF ?_ | refine cS (fun _ => ?_) fun _ => ?_) | (apply gW; refine sW ?_) | (apply gI; refine sI ?_) | (apply gE; refine sE ?_) | (apply gP; refine sP ?_) | (apply gC; refine sC ?_) | (apply gD; refine sD ?_) | fail)
        rename_i w1 w2 A3 c3 A4 c4 po
        exact E_join (A3, c3, A4, c4, po) trivial ⟨rfl, trivial⟩ Sb
    · refine D_d rfl (dy_lit0 eI rfl) ?_; rintro _ _ ⟨_, rfl, rfl⟩; refine ⟨(by first | exact .inl rfl | exact .inr Sb), D_n ?_⟩
      repeat' (first | refine go ?_ | intro _ | (apply cG; first | refine cT ?_ | refine cF ?_ | refine cS (fun _ => ?_) fun _ => ?_) | (apply gW; refine sW ?_) | (apply gI; refine sI ?_) | (apply gE; refine sE ?_) | (apply gP; refine sP ?_) | (apply gC; refine sC ?_) | (apply gD; refine sD ?_) | fail)
      refine E_way (DT_leaf ?_)
      refine D_d rfl (dy_lit0 eI rfl) ?_; rintro _ _ ⟨_, rfl, rfl⟩; refine ⟨(by first | exact .inl rfl | exact .inr Sb), D_n ?_⟩
      repeat' (first | refine go ?_ | intro _ | (apply cG; first | refine cT ?_ | refine cF ?_ | refine cS (fun _ => ?_) fun _ => ?_) | (apply gW; refine sW ?_) | (apply gI; refine sI ?_) | (apply gE; refine sE ?_) | (apply gP; refine sP ?_) | (apply gC; refine sC ?_) | (apply gD; refine sD ?_) | fail)
      rename_i w1 w2 A3 c3 A4 c4 po
      exact E_join (A3, c3, A4, c4, po) trivial ⟨rfl, trivial⟩ Sb
  rintro ⟨A3, c3, A4, c4, po⟩ u1 _
  dsimp only
  ((try dsimp only); refine C_n ?_; (try simp only [Nat.reduceAdd, Nat.zero_add]))
  repeat' (first | refine go ?_ | intro _ | (apply cG; first | refine cT ?_ | refine cF ?_ | refine cS (fun _ => ?_) fun _ => ?_) | (apply gW; refine sW ?_) | (apply gI; refine sI ?_) | (apply gE; refine sE ?_) | (apply gP; refine sP ?_) | (apply gC; refine sC ?_) | (apply gD; refine sD ?_) | fail)
  refine C_sub (sub_rows0 (E := 3) (R := eI)) ?_
  refine C_ownnil 22 eSV ?_
  refine C_sub (S := cel po [.slice A3 U.length c3, .slice A4 F.length c4, .slice none ([] : List SlV).length 0] 32 :: own 22 eSV (.slice none 0 0) [] :: rows 3 eI [] [] :: own 3 eI (.slice A3 U.length c3) U :: own 3 eI (.slice A4 F.length c4) F :: rd eI (.slice A1 U.length ca) U :: rd eI (.slice B1 F.length cb) F :: rd (eSX eI) (.slice C1 xs.length cc) xs :: cel p [.slice A1 U.length ca, .slice B1 F.length cb, .slice C1 xs.length cc] 32 :: L0) Sb ?_
  refine C_loopS (κ := Nat × Option Addr × Nat × List SlV) [false, false, false, false, false, false, false, false, false, false, true, false, false, false, false, false, false, false, false, false, false, false, false, false, false, false, false, true, true, true, true, true, true, true, true, true, true, true, true, true, true, true, true, true, true, true, true, true, true, true, true, true, true, true, false, false, false, false, false, false, false, false, false, false, false, false, false, false, false, false, false, false, false, false, false, false, false, false, false, false, false, false, false, false, false, false, false, false, false, false, false, false, false, false, false, false, false, false, false, false, false, false, false, false, false, false, false, false, false, false, false, false, false, false, false, false, false, false, false, false, false, false, false, false, false, false, false, false, false, false, false, false, false, false, false, false, false, false, false, false, false, false, false, false, false, false, false, false, false, false, false, false, false, false, false, false, false, false, false, false, false, false, false, false, false, false, false, false, false, false, false, false, false, false, false, false, false, false, false, false, false, false, false, false, false, false, false, false, false, false, false, false, false, false, false] (fun k => [(10, .int .i64 (k.1 : Int))]) (fun k => [(0, cel po [.slice A3 U.length c3, .slice A4 F.length c4, .slice k.2.1 k.2.2.2.length k.2.2.1] 32), (1, own 22 eSV (.slice k.2.1 k.2.2.2.length k.2.2.1) k.2.2.2), (2, rows 3 eI k.2.2.2 (G.take k.1))]) (fun k => k.1 ≤ G.length ∧ LnOk k.2.2.2 (G.take k.1)) (fun k => G.length - k.1) (0, none, 0, []) ⟨Nat.zero_le _, rfl⟩ ⟨rfl, trivial⟩ ?_
  rintro ⟨s, Ag, cg, vs⟩ u2 ⟨hs, hln⟩
  dsimp only at hs hln
  dsimp only
  ((try dsimp only); refine C_n ?_; (try simp only [Nat.reduceAdd, Nat.zero_add]))
  have hvl : vs.length = s := by
    have := congrArg List.length hln
    rw [List.length_map, List.length_map, List.length_take] at this
    omega
  by_cases hsl : s < G.length
  · obtain ⟨x, hx⟩ : ∃ x, xs[s]? = some x := ⟨_, List.getElem?_eq_getElem (by omega)⟩
    have hax : At xs s x := ⟨hx⟩
    have hgx := getX hxs hx
    have hxr := hfr _ (List.mem_of_getElem? hgx)
    refine C_sub (sub_peekX (.tail _ (.tail _ (.tail _ (.tail _ (.tail _ (.tail _ (.tail _ (.head _)))))))) hx) ?_
    refine C_form (.head _) fun Ax cx hxv => ?_
    have hec : EncC (eSX eI) x [.slice Ax x.b.length cx] := ⟨fun m cs h => by rw [h.1, hxv]⟩
    rw [hxv]
    repeat' (first | refine go ?_ | intro _ | (apply cG; first | refine cT ?_ | refine cF ?_ | refine cS (fun _ => ?_) fun _ => ?_) | (apply gW; refine sW ?_) | (apply gI; refine sI ?_) | (apply gE; refine sE ?_) | (apply gP; refine sP ?_) | (apply gC; refine sC ?_) | (apply gD; refine sD ?_) | fail)
    refine C_draw (n := 18) [cel po [.slice A3 U.length c3, .slice A4 F.length c4, .slice Ag vs.length cg] 32, cel p [.slice A1 U.length ca, .slice B1 F.length cb, .slice C1 xs.length cc] 32, rd (eSX eI) (.slice C1 xs.length cc) xs] [(0, 1), (1, 1), (2, 1), (3, 1), (4, 1), (6, 1), (7, 1), (8, 1), (9, 1), (10, 1), (11, 1), (12, 1), (5, 0), (13, 0), (14, 0), (15, 0), (16, 1), (17, 1), (18, 0)] (by kernel_rfl) (by kernel_rfl) Sb ?_
    repeat' (first | refine go ?_ | intro _ | (apply cG; first | refine cT ?_ | refine cF ?_ | refine cS (fun _ => ?_) fun _ => ?_) | (apply gW; refine sW ?_) | (apply gI; refine sI ?_) | (apply gE; refine sE ?_) | (apply gP; refine sP ?_) | (apply gC; refine sC ?_) | (apply gD; refine sD ?_) | fail)
    refine D_d rfl (dy_lit0 eI rfl) ?_; rintro _ _ ⟨_, rfl, rfl⟩; refine ⟨(by first | exact .inl rfl | exact .inr Sb), D_n ?_⟩
    repeat' (first | refine go ?_ | intro _ | (apply cG; first | refine cT ?_ | refine cF ?_ | refine cS (fun _ => ?_) fun _ => ?_) | (apply gW; refine sW ?_) | (apply gI; refine sI ?_) | (apply gE; refine sE ?_) | (apply gP; refine sP ?_) | (apply gC; refine sC ?_) | (apply gD; refine sD ?_) | fail)
    rename_i w9 A5 c5
    refine D_op rfl ?_; refine X_d (dy_lit1 (R := eSV) ((A5, x.b.length, c5) : SlV) (hcs := by rfl) (hel := fun _ _ _ => by rfl)) ?_; rintro _ _ ⟨w8, rfl, rfl⟩; refine ⟨(by first | exact .inl rfl | exact .inr Sb), D_n ?_⟩
    repeat' (first | refine go ?_ | intro _ | (apply cG; first | refine cT ?_ | refine cF ?_ | refine cS (fun _ => ?_) fun _ => ?_) | (apply gW; refine sW ?_) | (apply gI; refine sI ?_) | (apply gE; refine sE ?_) | (apply gP; refine sP ?_) | (apply gC; refine sC ?_) | (apply gD; refine sD ?_) | fail)
    rename_i A6 c6
    have htk : G.take (s + 1) = G.take s ++ [x.b] := by rw [List.take_add_one, hgx]; rfl
    have hvg : vs.length = (G.take s).length := by rw [List.length_take]; omega
    refine E_round (s + 1, A6, c6, vs ++ [(A5, x.b.length, c5)]) ⟨hsl, ?_⟩ (by dsimp only; omega) ⟨rfl, trivial⟩ ?_
    · show (vs ++ [(A5, x.b.length, c5)]).map _ = _
      rw [htk, List.map_append, List.map_append, hln]
      rfl
    dsimp only
    rw [htk, List.length_append]
    exact Sub.trans (B := own 3 eI (.slice A5 x.b.length c5) x.b :: rows 3 eI vs (G.take s) :: cel po [.slice A3 U.length c3, .slice A4 F.length c4, .slice A6 (vs.length + 1) c6] 32 :: own 22 eSV (.slice A6 (vs.length + 1) c6) (vs ++ [(A5, x.b.length, c5)]) :: own 3 eI (.slice A3 U.length c3) U :: own 3 eI (.slice A4 F.length c4) F :: rd eI (.slice A1 U.length ca) U :: rd eI (.slice B1 F.length cb) F :: rd (eSX eI) (.slice C1 xs.length cc) xs :: cel p [.slice A1 U.length ca, .slice B1 F.length cb, .slice C1 xs.length cc] 32 :: L0) Sb (Sub.trans (sub_rowsSnoc hvg) Sb)
  have hsG : s = G.length := by omega
  rw [hsG, List.take_length] at hln
  rw [hsG, List.take_length]
  rw [hsG] at hvl
  clear hsl hs
  have hq5 := tdiv_bd (n := at_) (d := 5) (by decide) ha1 ha2
  have hq3 := tdiv_bd (n := at_) (d := 3) (by decide) ha1 ha2
  refine C_sub (S := cel po [.slice A3 U.length c3, .slice A4 F.length c4, .slice Ag vs.length cg] 32 :: own 22 eSV (.slice Ag vs.length cg) vs :: rows 3 eI vs G :: own 3 eI (.slice A3 U.length c3) U :: own 3 eI (.slice A4 F.length c4) F :: cel p [.slice A1 U.length ca, .slice B1 F.length cb, .slice C1 xs.length cc] 32 :: L0) Sb ?_
  repeat' (first | refine go ?_ | intro _ | (apply cG; first | refine cT ?_ | refine cF ?_ | refine cS (fun _ => ?_) fun _ => ?_) | (apply gW; refine sW ?_) | (apply gI; refine sI ?_) | (apply gE; refine sE ?_) | (apply gP; refine sP ?_) | (apply gC; refine sC ?_) | (apply gD; refine sD ?_) | fail)
  refine O_d (dy_litP (f := iv) (hf := fun _ => rfl) [by_, -1, 0, 1, 1099511627776, 1099511627777] (by rfl)) ?_; rintro _ LI' ⟨_, rfl, hLL⟩; replace hLL : LI' = own _ eI _ _ :: _ := hLL; subst hLL; refine O_n ?_
  obtain ⟨lz, hlz⟩ : ∃ lz, [by_, -1, 0, 1, 1099511627776, 1099511627777] = lz := ⟨_, rfl⟩
  have hlzl : lz.length = 6 := by rw [← hlz]; rfl
  rw [hlz]
  clear hlz
  repeat' (first | refine go ?_ | intro _ | (apply cG; first | refine cT ?_ | refine cF ?_ | refine cS (fun _ => ?_) fun _ => ?_) | (apply gW; refine sW ?_) | (apply gI; refine sI ?_) | (apply gE; refine sE ?_) | (apply gP; refine sP ?_) | (apply gC; refine sC ?_) | (apply gD; refine sD ?_) | fail)
  try rw [wr_i64 hq5.1 hq5.2]
  refine O_d (dy_call ArgsI.pf (by first | exact rfl | trivial | (intro a b; rfl)) (Around_ct (most := 6) hq5.1 hq5.2 (by decide) (by decide))) ?_; rintro _ _ ⟨_, ⟨rfl, hLL⟩, rfl⟩; replace hLL := hLL.symm; subst hLL; refine O_n ?_
  obtain ⟨k, hk, hk6⟩ : ∃ k : Nat, around (at_.tdiv 5) 6 = (k : Int) ∧ k < 6 := by
    have := around_in (n := at_.tdiv 5) (most := 6) (by decide)
    exact ⟨(around (at_.tdiv 5) 6).toNat, by omega, by omega⟩
  rw [hk]
  obtain ⟨v, hv⟩ : ∃ v, lz[k]? = some v := ⟨_, List.getElem?_eq_getElem (by omega)⟩
  have hav : At lz k v := ⟨hv⟩
  repeat' (first | refine go ?_ | intro _ | (apply cG; first | refine cT ?_ | refine cF ?_ | refine cS (fun _ => ?_) fun _ => ?_) | (apply gW; refine sW ?_) | (apply gI; refine sI ?_) | (apply gE; refine sE ?_) | (apply gP; refine sP ?_) | (apply gC; refine sC ?_) | (apply gD; refine sD ?_) | fail)
  refine O_d (dy_call ArgsI.pf (by first | exact rfl | trivial | (intro a b; rfl)) (Around_ct (most := 6) hh1 hh2 (by decide) (by decide))) ?_; rintro _ _ ⟨_, ⟨rfl, hLL⟩, rfl⟩; replace hLL := hLL.symm; subst hLL; refine O_n ?_
  have hw6 := around_in (n := how) (most := 6) (by decide)
  obtain ⟨h, hh⟩ : ∃ h, around how 6 = h := ⟨_, rfl⟩
  rw [hh] at hw6 ⊢
  repeat' (first | ((fail_if_success apply AtE); refine go ?_) | intro _ | (apply cG; first | refine cT ?_ | refine cF ?_ | refine cS (fun _ => ?_) fun _ => ?_) | (apply gW; refine sW ?_) | (apply gI; refine sI ?_) | (apply gE; refine sE ?_) | (apply gP; refine sP ?_) | (apply gC; refine sC ?_) | (apply gD; refine sD ?_) | fail)
  refine go ?_
  refine C_joinL (κ := (Option Addr × Nat × List Int) × (Option Addr × Nat × List Int) × Option Addr × Nat × List SlV × List (List Int)) (fun k => cel po [.slice k.1.1 k.1.2.2.length k.1.2.1, .slice k.2.1.1 k.2.1.2.2.length k.2.1.2.1, .slice k.2.2.1 k.2.2.2.2.1.length k.2.2.2.1] 32 :: own 3 eI (.slice k.1.1 k.1.2.2.length k.1.2.1) k.1.2.2 :: own 3 eI (.slice k.2.1.1 k.2.1.2.2.length k.2.1.2.1) k.2.1.2.2 :: own 22 eSV (.slice k.2.2.1 k.2.2.2.2.1.length k.2.2.2.1) k.2.2.2.2.1 :: rows 3 eI k.2.2.2.2.1 k.2.2.2.2.2 :: cel p [.slice A1 U.length ca, .slice B1 F.length cb, .slice C1 xs.length cc] 32 :: L0) [false, false, false, false, false, false, false, false, false, false, false, false, true, false, false, false, false, false, false, false, false, false, false, false, false, false, false, false, false, false, false, false, false, false, false, false, false, false, false, false, false, false, false, false, false, false, false, false, false, false, false, false, false, false, false, false, false, false, false, false, false, false, false, true, true, true, true, true, true, true, true, true, true, true, true, true, true, true, true, true, true, true, true, true, true, true, true, true, true, true, true, true, true, true, true, true, true, true, true, true, true, true, true, true, true, true, true, true, true, true, true, true, true, true, true, true, true, true, true, true, true, true, true, true, true, true, true, true, true, true, true, true, true, true, true, true, true, true, true, true, true, true, true, true, true, true, true, true, true, true, true, true, true, true, true, true, true, true, true, true, true, true, true, true, true, true, true, true, true, true, true, true, true, true, true, true, true, true, true, true, true, true, true, true, true, true, true, true, true, true, true, true, true, true, false] (fun k => []) (fun k => Few (n + 1) k.1.2.2 k.2.1.2.2 k.2.2.2.2.2 ∧ LnOk k.2.2.2.2.1 k.2.2.2.2.2) ?_ ?_
  · have hw7 : h = 0 ∨ h = 1 ∨ h = 2 ∨ h = 3 ∨ h = 4 ∨ h = 5 := by omega
    rcases hw7 with rfl | rfl | rfl | rfl | rfl | rfl
    · by_cases hu0 : 0 < U.length
      · repeat' (first | refine go ?_ | intro _ | (apply cG; first | refine cT ?_ | refine cF ?_ | refine cS (fun _ => ?_) fun _ => ?_) | (apply gW; refine sW ?_) | (apply gI; refine sI ?_) | (apply gE; refine sE ?_) | (apply gP; refine sP ?_) | (apply gC; refine sC ?_) | (apply gD; refine sD ?_) | fail)
        refine C_draw (n := 13) [cel po [.slice A3 U.length c3, .slice A4 F.length c4, .slice Ag vs.length cg] 32, own 3 eI (.slice A3 U.length c3) U] [(0, 1), (1, 1), (2, 1), (3, 1), (4, 1), (5, 1), (6, 1), (7, 1), (8, 1), (9, 1), (11, 1), (10, 0), (12, 1), (13, 0)] (by kernel_rfl) (by kernel_rfl) Sb ?_
        repeat' (first | refine go ?_ | intro _ | (apply cG; first | refine cT ?_ | refine cF ?_ | refine cS (fun _ => ?_) fun _ => ?_) | (apply gW; refine sW ?_) | (apply gI; refine sI ?_) | (apply gE; refine sE ?_) | (apply gP; refine sP ?_) | (apply gC; refine sC ?_) | (apply gD; refine sD ?_) | fail)
        refine D_op rfl ?_; refine X_d (dy_call ArgsI.pf (by first | exact rfl | trivial | (intro a b; rfl)) (Around_ct (most := (U.length : Int)) ha1 ha2 (by omega) (by omega))) ?_; rintro _ _ ⟨_, ⟨rfl, hLL⟩, rfl⟩; replace hLL := hLL.symm; subst hLL; refine ⟨(by first | exact .inl rfl | exact .inr Sb), D_n ?_⟩
        obtain ⟨j, hj, hjl⟩ : ∃ j : Nat, around at_ (U.length : Int) = (j : Int) ∧ j < U.length := by
          have := around_in (n := at_) (most := (U.length : Int)) (by omega)
          exact ⟨(around at_ (U.length : Int)).toNat, by omega, by omega⟩
        rw [hj]
        repeat' (first | refine go ?_ | intro _ | (apply cG; first | refine cT ?_ | refine cF ?_ | refine cS (fun _ => ?_) fun _ => ?_) | (apply gW; refine sW ?_) | (apply gI; refine sI ?_) | (apply gE; refine sE ?_) | (apply gP; refine sP ?_) | (apply gC; refine sC ?_) | (apply gD; refine sD ?_) | fail)
        refine D_op rfl ?_; refine X_d (dy_storeE (f := iv) (hf := fun _ => rfl) (n := U.length) (c := c3) v (hy := Ev.pf) (hj := by omega)) ?_; rintro _ _ ⟨rfl, hLL⟩; replace hLL := hLL.trans SAt.pf; subst hLL; refine ⟨(by first | exact .inl rfl | exact .inr Sb), D_n ?_⟩
        repeat' (first | refine go ?_ | intro _ | (apply cG; first | refine cT ?_ | refine cF ?_ | refine cS (fun _ => ?_) fun _ => ?_) | (apply gW; refine sW ?_) | (apply gI; refine sI ?_) | (apply gE; refine sE ?_) | (apply gP; refine sP ?_) | (apply gC; refine sC ?_) | (apply gD; refine sD ?_) | fail)
        refine E_join ((A3, c3, U.set j v), (A4, c4, F), Ag, cg, vs, G) ⟨⟨by simp only [List.length_set]; omega, by dsimp only; omega, by dsimp only; omega, fun x hx => Nat.le_succ_of_le (hfr x hx), hfn⟩, hln⟩ trivial ?_
        simp only [List.length_set]
        exact Sb
      · repeat' (first | refine go ?_ | intro _ | (apply cG; first | refine cT ?_ | refine cF ?_ | refine cS (fun _ => ?_) fun _ => ?_) | (apply gW; refine sW ?_) | (apply gI; refine sI ?_) | (apply gE; refine sE ?_) | (apply gP; refine sP ?_) | (apply gC; refine sC ?_) | (apply gD; refine sD ?_) | fail)
        exact E_join ((A3, c3, U), (A4, c4, F), Ag, cg, vs, G) ⟨⟨by dsimp only; omega, by dsimp only; omega, by dsimp only; omega, fun x hx => Nat.le_succ_of_le (hfr x hx), hfn⟩, hln⟩ trivial Sb
    · by_cases hu0 : 0 < F.length
      · repeat' (first | refine go ?_ | intro _ | (apply cG; first | refine cT ?_ | refine cF ?_ | refine cS (fun _ => ?_) fun _ => ?_) | (apply gW; refine sW ?_) | (apply gI; refine sI ?_) | (apply gE; refine sE ?_) | (apply gP; refine sP ?_) | (apply gC; refine sC ?_) | (apply gD; refine sD ?_) | fail)
        refine C_draw (n := 13) [cel po [.slice A3 U.length c3, .slice A4 F.length c4, .slice Ag vs.length cg] 32, own 3 eI (.slice A4 F.length c4) F] [(0, 1), (1, 1), (2, 1), (3, 1), (4, 1), (5, 1), (6, 1), (7, 1), (8, 1), (9, 1), (11, 1), (10, 0), (12, 1), (13, 0)] (by kernel_rfl) (by kernel_rfl) Sb ?_
        repeat' (first | refine go ?_ | intro _ | (apply cG; first | refine cT ?_ | refine cF ?_ | refine cS (fun _ => ?_) fun _ => ?_) | (apply gW; refine sW ?_) | (apply gI; refine sI ?_) | (apply gE; refine sE ?_) | (apply gP; refine sP ?_) | (apply gC; refine sC ?_) | (apply gD; refine sD ?_) | fail)
        refine D_op rfl ?_; refine X_d (dy_call ArgsI.pf (by first | exact rfl | trivial | (intro a b; rfl)) (Around_ct (most := (F.length : Int)) ha1 ha2 (by omega) (by omega))) ?_; rintro _ _ ⟨_, ⟨rfl, hLL⟩, rfl⟩; replace hLL := hLL.symm; subst hLL; refine ⟨(by first | exact .inl rfl | exact .inr Sb), D_n ?_⟩
        obtain ⟨j, hj, hjl⟩ : ∃ j : Nat, around at_ (F.length : Int) = (j : Int) ∧ j < F.length := by
          have := around_in (n := at_) (most := (F.length : Int)) (by omega)
          exact ⟨(around at_ (F.length : Int)).toNat, by omega, by omega⟩
        rw [hj]
        repeat' (first | refine go ?_ | intro _ | (apply cG; first | refine cT ?_ | refine cF ?_ | refine cS (fun _ => ?_) fun _ => ?_) | (apply gW; refine sW ?_) | (apply gI; refine sI ?_) | (apply gE; refine sE ?_) | (apply gP; refine sP ?_) | (apply gC; refine sC ?_) | (apply gD; refine sD ?_) | fail)
        refine D_op rfl ?_; refine X_d (dy_storeE (f := iv) (hf := fun _ => rfl) (n := F.length) (c := c4) v (hy := Ev.pf) (hj := by omega)) ?_; rintro _ _ ⟨rfl, hLL⟩; replace hLL := hLL.trans SAt.pf; subst hLL; refine ⟨(by first | exact .inl rfl | exact .inr Sb), D_n ?_⟩
        repeat' (first | refine go ?_ | intro _ | (apply cG; first | refine cT ?_ | refine cF ?_ | refine cS (fun _ => ?_) fun _ => ?_) | (apply gW; refine sW ?_) | (apply gI; refine sI ?_) | (apply gE; refine sE ?_) | (apply gP; refine sP ?_) | (apply gC; refine sC ?_) | (apply gD; refine sD ?_) | fail)
        refine E_join ((A3, c3, U), (A4, c4, F.set j v), Ag, cg, vs, G) ⟨⟨by dsimp only; omega, by simp only [List.length_set]; omega, by dsimp only; omega, fun x hx => Nat.le_succ_of_le (hfr x hx), hfn⟩, hln⟩ trivial ?_
        simp only [List.length_set]
        exact Sb
      · repeat' (first | refine go ?_ | intro _ | (apply cG; first | refine cT ?_ | refine cF ?_ | refine cS (fun _ => ?_) fun _ => ?_) | (apply gW; refine sW ?_) | (apply gI; refine sI ?_) | (apply gE; refine sE ?_) | (apply gP; refine sP ?_) | (apply gC; refine sC ?_) | (apply gD; refine sD ?_) | fail)
        exact E_join ((A3, c3, U), (A4, c4, F), Ag, cg, vs, G) ⟨⟨by dsimp only; omega, by dsimp only; omega, by dsimp only; omega, fun x hx => Nat.le_succ_of_le (hfr x hx), hfn⟩, hln⟩ trivial Sb
    · repeat' (first | refine go ?_ | intro _ | (apply cG; first | refine cT ?_ | refine cF ?_ | refine cS (fun _ => ?_) fun _ => ?_) | (apply gW; refine sW ?_) | (apply gI; refine sI ?_) | (apply gE; refine sE ?_) | (apply gP; refine sP ?_) | (apply gC; refine sC ?_) | (apply gD; refine sD ?_) | fail)
      refine O_d (dy_lit1 (R := eI) v (hcs := by rfl) (hel := fun _ _ _ => by rfl)) ?_; rintro _ _ ⟨_, rfl, rfl⟩; refine O_n ?_
      repeat' (first | refine go ?_ | intro _ | (apply cG; first | refine cT ?_ | refine cF ?_ | refine cS (fun _ => ?_) fun _ => ?_) | (apply gW; refine sW ?_) | (apply gI; refine sI ?_) | (apply gE; refine sE ?_) | (apply gP; refine sP ?_) | (apply gC; refine sC ?_) | (apply gD; refine sD ?_) | fail)
      rename_i A8 c8
      refine E_join ((A8, c8, U ++ [v]), (A4, c4, F), Ag, cg, vs, G) ⟨⟨by simp only [List.length_append, List.length_singleton]; omega, by dsimp only; omega, by dsimp only; omega, fun x hx => Nat.le_succ_of_le (hfr x hx), hfn⟩, hln⟩ trivial ?_
      simp only [List.length_append, List.length_singleton]
      exact Sb
    · repeat' (first | refine go ?_ | intro _ | (apply cG; first | refine cT ?_ | refine cF ?_ | refine cS (fun _ => ?_) fun _ => ?_) | (apply gW; refine sW ?_) | (apply gI; refine sI ?_) | (apply gE; refine sE ?_) | (apply gP; refine sP ?_) | (apply gC; refine sC ?_) | (apply gD; refine sD ?_) | fail)
      refine O_d (dy_lit1 (R := eI) 1 (hcs := by rfl) (hel := fun _ _ _ => by rfl)) ?_; rintro _ _ ⟨_, rfl, rfl⟩; refine O_n ?_
      repeat' (first | refine go ?_ | intro _ | (apply cG; first | refine cT ?_ | refine cF ?_ | refine cS (fun _ => ?_) fun _ => ?_) | (apply gW; refine sW ?_) | (apply gI; refine sI ?_) | (apply gE; refine sE ?_) | (apply gP; refine sP ?_) | (apply gC; refine sC ?_) | (apply gD; refine sD ?_) | fail)
      refine O_d (dy_lit1 (R := eI) v (hcs := by rfl) (hel := fun _ _ _ => by rfl)) ?_; rintro _ _ ⟨_, rfl, rfl⟩; refine O_n ?_
      repeat' (first | refine go ?_ | intro _ | (apply cG; first | refine cT ?_ | refine cF ?_ | refine cS (fun _ => ?_) fun _ => ?_) | (apply gW; refine sW ?_) | (apply gI; refine sI ?_) | (apply gE; refine sE ?_) | (apply gP; refine sP ?_) | (apply gC; refine sC ?_) | (apply gD; refine sD ?_) | fail)
      rename_i A8 c8 _ A9 c9
      refine E_join ((A8, c8, U ++ [1]), (A9, c9, F ++ [v]), Ag, cg, vs, G) ⟨⟨by simp only [List.length_append, List.length_singleton]; omega, by simp only [List.length_append, List.length_singleton]; omega, by dsimp only; omega, fun x hx => Nat.le_succ_of_le (hfr x hx), hfn⟩, hln⟩ trivial ?_
      simp only [List.length_append, List.length_singleton]
      exact Sb
    · by_cases hg0 : 0 < vs.length
      rotate_left
      · repeat' (first | refine go ?_ | intro _ | (apply cG; first | refine cT ?_ | refine cF ?_ | refine cS (fun _ => ?_) fun _ => ?_) | (apply gW; refine sW ?_) | (apply gI; refine sI ?_) | (apply gE; refine sE ?_) | (apply gP; refine sP ?_) | (apply gC; refine sC ?_) | (apply gD; refine sD ?_) | fail)
        refine E_join ((A3, c3, U), (A4, c4, F), Ag, cg, vs, G) ⟨⟨by dsimp only; omega, by dsimp only; omega, by dsimp only; omega, fun x hx => Nat.le_succ_of_le (hfr x hx), hfn⟩, hln⟩ trivial Sb
      obtain ⟨x0, hx0⟩ : ∃ x0, G[0]? = some x0 := ⟨_, List.getElem?_eq_getElem (by omega)⟩
      obtain ⟨q0, hq0, hq0l⟩ : ∃ q0 : SlV, vs[0]? = some q0 ∧ q0.2.1 = x0.length := by
        obtain ⟨A0, c0, hq0⟩ := hln.at hx0
        exact ⟨_, hq0, rfl⟩
      have hat0 : At vs 0 q0 := ⟨hq0⟩
      have hx0r := hfr x0 (List.mem_of_getElem? hx0)
      by_cases hn0 : 0 < x0.length
      rotate_left
      · repeat' (first | refine go ?_ | intro _ | (apply cG; first | refine cT ?_ | refine cF ?_ | refine cS (fun _ => ?_) fun _ => ?_) | (apply gW; refine sW ?_) | (apply gI; refine sI ?_) | (apply gE; refine sE ?_) | (apply gP; refine sP ?_) | (apply gC; refine sC ?_) | (apply gD; refine sD ?_) | fail)
        refine E_join ((A3, c3, U), (A4, c4, F), Ag, cg, vs, G) ⟨⟨by dsimp only; omega, by dsimp only; omega, by dsimp only; omega, fun x hx => Nat.le_succ_of_le (hfr x hx), hfn⟩, hln⟩ trivial Sb
      repeat' (first | refine go ?_ | intro _ | (apply cG; first | refine cT ?_ | refine cF ?_ | refine cS (fun _ => ?_) fun _ => ?_) | (apply gW; refine sW ?_) | (apply gI; refine sI ?_) | (apply gE; refine sE ?_) | (apply gP; refine sP ?_) | (apply gC; refine sC ?_) | (apply gD; refine sD ?_) | fail)
      refine O_d (dy_call ArgsI.pf (by first | exact rfl | trivial | (intro a b; rfl)) (Around_ct (most := (vs.length : Int)) ha1 ha2 (by omega) (by omega))) ?_; rintro _ _ ⟨_, ⟨rfl, hLL⟩, rfl⟩; replace hLL := hLL.symm; subst hLL; refine O_n ?_
      obtain ⟨m, hm, hml⟩ : ∃ m : Nat, around at_ (vs.length : Int) = (m : Int) ∧ m < vs.length := by
        have := around_in (n := at_) (most := (vs.length : Int)) (by omega)
        exact ⟨(around at_ (vs.length : Int)).toNat, by omega, by omega⟩
      rw [hm]
      obtain ⟨y, hy⟩ : ∃ y, G[m]? = some y := ⟨_, List.getElem?_eq_getElem (by omega)⟩
      obtain ⟨Aq, cq, hqi⟩ := hln.at hy
      have hyl := hfr y (List.mem_of_getElem? hy)
      have hy0 := hfn x0 hx0 hn0 y (List.mem_of_getElem? hy)
      have hatm : At vs m (Aq, y.length, cq) := ⟨hqi⟩
      repeat' (first | refine go ?_ | intro _ | (apply cG; first | refine cT ?_ | refine cF ?_ | refine cS (fun _ => ?_) fun _ => ?_) | (apply gW; refine sW ?_) | (apply gI; refine sI ?_) | (apply gE; refine sE ?_) | (apply gP; refine sP ?_) | (apply gC; refine sC ?_) | (apply gD; refine sD ?_) | fail)
      obtain ⟨hs1, hl1⟩ := spl_at hqi
      obtain ⟨hs2, hl2⟩ := spl_at hy
      obtain ⟨d1, hd1⟩ : ∃ d1, vs.take m = d1 := ⟨_, rfl⟩
      obtain ⟨d2, hd2⟩ : ∃ d2, vs.drop (m + 1) = d2 := ⟨_, rfl⟩
      obtain ⟨l1, hl1'⟩ : ∃ l1, G.take m = l1 := ⟨_, rfl⟩
      obtain ⟨l2, hl2'⟩ : ∃ l2, G.drop (m + 1) = l2 := ⟨_, rfl⟩
      rw [hd1, hd2] at hs1
      rw [hl1', hl2'] at hs2
      rw [hd1] at hl1
      rw [hl1'] at hl2
      have hrw : rows 3 eI vs G = rows 3 eI (d1 ++ (Aq, y.length, cq) :: d2) (l1 ++ y :: l2) := by rw [← hs1, ← hs2]
      refine C_sub (S := own 3 eI (.slice Aq y.length cq) y :: cel po [.slice A3 U.length c3, .slice A4 F.length c4, .slice Ag vs.length cg] 32 :: own 22 eSV (.slice Ag vs.length cg) vs :: rows 3 eI (d1 ++ d2) (l1 ++ l2) :: own 3 eI (.slice A3 U.length c3) U :: own 3 eI (.slice A4 F.length c4) F :: cel p [.slice A1 U.length ca, .slice B1 F.length cb, .slice C1 xs.length cc] 32 :: L0) ?_ ?_
      · rw [hrw]
        exact Sub.trans (B := rows 3 eI (d1 ++ (Aq, y.length, cq) :: d2) (l1 ++ y :: l2) :: cel po [.slice A3 U.length c3, .slice A4 F.length c4, .slice Ag vs.length cg] 32 :: own 22 eSV (.slice Ag vs.length cg) vs :: own 3 eI (.slice A3 U.length c3) U :: own 3 eI (.slice A4 F.length c4) F :: cel p [.slice A1 U.length ca, .slice B1 F.length cb, .slice C1 xs.length cc] 32 :: L0) Sb (Sub.trans (sub_rowsOut (by omega)) Sb)
      refine C_draw (n := 20) [cel po [.slice A3 U.length c3, .slice A4 F.length c4, .slice Ag vs.length cg] 32, own 22 eSV (.slice Ag vs.length cg) vs, own 3 eI (.slice Aq y.length cq) y] [(0, 1), (1, 1), (2, 1), (3, 1), (4, 1), (5, 1), (6, 1), (7, 1), (8, 1), (9, 1), (10, 1), (11, 1), (12, 1), (13, 1), (14, 1), (15, 1), (16, 1), (18, 1), (17, 0), (19, 1), (20, 0)] (by kernel_rfl) (by kernel_rfl) Sb ?_
      repeat' (first | refine go ?_ | intro _ | (apply cG; first | refine cT ?_ | refine cF ?_ | refine cS (fun _ => ?_) fun _ => ?_) | (apply gW; refine sW ?_) | (apply gI; refine sI ?_) | (apply gE; refine sE ?_) | (apply gP; refine sP ?_) | (apply gC; refine sC ?_) | (apply gD; refine sD ?_) | fail)
      rw [wr_i64 hq3.1 hq3.2]
      refine D_op rfl ?_; refine X_d (dy_call ArgsI.pf (by first | exact rfl | trivial | (intro a b; rfl)) (Around_ct (most := (y.length : Int)) hq3.1 hq3.2 (by omega) (by omega))) ?_; rintro _ _ ⟨_, ⟨rfl, hLL⟩, rfl⟩; replace hLL := hLL.symm; subst hLL; refine ⟨(by first | exact .inl rfl | exact .inr Sb), D_n ?_⟩
      obtain ⟨j, hj, hjl⟩ : ∃ j : Nat, around (at_.tdiv 3) (y.length : Int) = (j : Int) ∧ j < y.length := by
        have := around_in (n := at_.tdiv 3) (most := (y.length : Int)) (by omega)
        exact ⟨(around (at_.tdiv 3) (y.length : Int)).toNat, by omega, by omega⟩
      rw [hj]
      repeat' (first | refine go ?_ | intro _ | (apply cG; first | refine cT ?_ | refine cF ?_ | refine cS (fun _ => ?_) fun _ => ?_) | (apply gW; refine sW ?_) | (apply gI; refine sI ?_) | (apply gE; refine sE ?_) | (apply gP; refine sP ?_) | (apply gC; refine sC ?_) | (apply gD; refine sD ?_) | fail)
      apply gI
      refine sI (r := j) ?_ ⟨by omega, by show (j : Int) < (y.length : Int); omega, Int.toNat_natCast _⟩
      repeat' (first | refine go ?_ | intro _ | (apply cG; first | refine cT ?_ | refine cF ?_ | refine cS (fun _ => ?_) fun _ => ?_) | (apply gW; refine sW ?_) | (apply gI; refine sI ?_) | (apply gE; refine sE ?_) | (apply gP; refine sP ?_) | (apply gC; refine sC ?_) | (apply gD; refine sD ?_) | fail)
      refine D_op rfl ?_; refine X_d (dy_storeE (f := iv) (hf := fun _ => rfl) (n := y.length) (c := cq) v (hy := Ev.pf) (hj := by omega)) ?_; rintro _ _ ⟨rfl, hLL⟩; replace hLL := hLL.trans SAt.pf; subst hLL; refine ⟨(by first | exact .inl rfl | exact .inr Sb), D_n ?_⟩
      repeat' (first | refine go ?_ | intro _ | (apply cG; first | refine cT ?_ | refine cF ?_ | refine cS (fun _ => ?_) fun _ => ?_) | (apply gW; refine sW ?_) | (apply gI; refine sI ?_) | (apply gE; refine sE ?_) | (apply gP; refine sP ?_) | (apply gC; refine sC ?_) | (apply gD; refine sD ?_) | fail)
      have hmap : (l1 ++ y.set j v :: l2).map List.length = G.map List.length := by
        conv => rhs; rw [hs2]
        simp
      have hlk : LnOk vs (l1 ++ y.set j v :: l2) := by
        unfold LnOk at hln ⊢
        rw [hmap, hln]
      refine E_join ((A3, c3, U), (A4, c4, F), Ag, cg, vs, l1 ++ y.set j v :: l2) ⟨⟨by dsimp only; omega, by dsimp only; omega, ?_, ?_, hfn.len hmap⟩, hlk⟩ trivial ?_
      · have := congrArg List.length hmap
        simp only [List.length_map] at this
        dsimp only
        omega
      · intro z hz
        have h1 : z.length ∈ (l1 ++ y.set j v :: l2).map List.length := List.mem_map.2 ⟨z, hz, rfl⟩
        rw [hmap] at h1
        obtain ⟨z2, hz2, he⟩ := List.mem_map.1 h1
        have := hfr z2 hz2
        omega
      dsimp only
      rw [show rows 3 eI vs (l1 ++ y.set j v :: l2) = rows 3 eI (d1 ++ (Aq, y.length, cq) :: d2) (l1 ++ y.set j v :: l2) from by rw [← hs1]]
      exact Sub.trans (B := own 3 eI (.slice Aq y.length cq) (y.set j v) :: rows 3 eI (d1 ++ d2) (l1 ++ l2) :: cel po [.slice A3 U.length c3, .slice A4 F.length c4, .slice Ag vs.length cg] 32 :: own 22 eSV (.slice Ag vs.length cg) vs :: own 3 eI (.slice A3 U.length c3) U :: own 3 eI (.slice A4 F.length c4) F :: cel p [.slice A1 U.length ca, .slice B1 F.length cb, .slice C1 xs.length cc] 32 :: L0) Sb (Sub.trans (sub_rowsIn (by omega)) Sb)
    · repeat' (first | refine go ?_ | intro _ | (apply cG; first | refine cT ?_ | refine cF ?_ | refine cS (fun _ => ?_) fun _ => ?_) | (apply gW; refine sW ?_) | (apply gI; refine sI ?_) | (apply gE; refine sE ?_) | (apply gP; refine sP ?_) | (apply gC; refine sC ?_) | (apply gD; refine sD ?_) | fail)
      refine O_d (dy_lit1 (R := eI) by_ (hcs := by rfl) (hel := fun _ _ _ => by rfl)) ?_; rintro _ _ ⟨_, rfl, rfl⟩; refine O_n ?_
      rename_i g1
      refine O_d (dy_lit1 (R := eSV) ((some ⟨g1, 0, none⟩, 1, 1) : SlV) (hcs := by rfl) (hel := fun _ _ _ => by rfl)) ?_; rintro _ _ ⟨g2, rfl, rfl⟩; refine O_n ?_
      repeat' (first | refine go ?_ | intro _ | (apply cG; first | refine cT ?_ | refine cF ?_ | refine cS (fun _ => ?_) fun _ => ?_) | (apply gW; refine sW ?_) | (apply gI; refine sI ?_) | (apply gE; refine sE ?_) | (apply gP; refine sP ?_) | (apply gC; refine sC ?_) | (apply gD; refine sD ?_) | fail)
      rename_i A8 c8
      refine E_join ((A3, c3, U), (A4, c4, F), A8, c8, vs ++ [(some ⟨g1, 0, none⟩, 1, 1)], G ++ [[by_]]) ⟨⟨by dsimp only; omega, by dsimp only; omega, by simp only [List.length_append, List.length_singleton]; omega, ?_, hfn.snoc⟩, ?_⟩ trivial ?_
      · intro z hz
        rcases List.mem_append.1 hz with hz | hz
        · have := hfr z hz; omega
        · rw [List.mem_singleton.1 hz]; exact Nat.succ_le_succ (Nat.zero_le _)
      · show (vs ++ [((some ⟨g1, 0, none⟩, 1, 1) : SlV)]).map _ = _
        rw [List.map_append, List.map_append, hln]
        rfl
      dsimp only
      rw [List.length_append]
      exact Sub.trans (B := own 3 eI (.slice (some ⟨g1, 0, none⟩) 1 1) [by_] :: rows 3 eI vs G :: own 22 eSV (.slice A8 (vs.length + 1) c8) (vs ++ [(some ⟨g1, 0, none⟩, 1, 1)]) :: cel po [.slice A3 U.length c3, .slice A4 F.length c4, .slice A8 (vs.length + 1) c8] 32 :: own 3 eI (.slice A3 U.length c3) U :: own 3 eI (.slice A4 F.length c4) F :: cel p [.slice A1 U.length ca, .slice B1 F.length cb, .slice C1 xs.length cc] 32 :: L0) Sb (Sub.trans (sub_rowsSnoc hvl) Sb)
  rintro ⟨⟨A5, c5, U'⟩, ⟨A6, c6, F'⟩, A7, c7, vs', G'⟩ u3 ⟨hfw, hlk⟩
  dsimp only at hfw hlk
  dsimp only
  ((try dsimp only); refine C_n ?_; (try simp only [Nat.reduceAdd, Nat.zero_add]))
  have hvg : vs'.length = G'.length := by
    have := congrArg List.length hlk
    simpa only [List.length_map] using this
  refine C_sub (S := rows 3 eI vs' G' :: own 22 eSV (.slice A7 vs'.length c7) vs' :: own 3 eI (.slice A5 U'.length c5) U' :: own 3 eI (.slice A6 F'.length c6) F' :: cel po [.slice A5 U'.length c5, .slice A6 F'.length c6, .slice A7 vs'.length c7] 32 :: cel p [.slice A1 U.length ca, .slice B1 F.length cb, .slice C1 xs.length cc] 32 :: L0) Sb ?_
  refine C_frzRows hvg ?_
  refine C_sub sub_faOwn ?_
  refine C_frz 0 ?_
  refine C_frz 1 ?_
  refine C_frz 2 ?_
  refine C_openX (.head _) fun xs' hxs' => ?_
  have hxl' : vs'.length = xs'.length := by rw [hvg, ← hxs', List.length_map]
  repeat' (first | refine go ?_ | intro _ | (apply cG; first | refine cT ?_ | refine cF ?_ | refine cS (fun _ => ?_) fun _ => ?_) | (apply gW; refine sW ?_) | (apply gI; refine sI ?_) | (apply gE; refine sE ?_) | (apply gP; refine sP ?_) | (apply gC; refine sC ?_) | (apply gD; refine sD ?_) | fail)
  rw [hxl']
  refine E_res1 (by rfl) (by rfl) ⟨⟨po, A5, A6, A7, c5, c6, c7, U', F', xs'⟩, G', rfl, hxs', hfw, rfl⟩ ?_
  exact Sub.trans (B := cel po [.slice A5 U'.length c5, .slice A6 F'.length c6, .slice A7 xs'.length c7] 32 :: rd eI (.slice A5 U'.length c5) U' :: rd eI (.slice A6 F'.length c6) F' :: rd (eSX eI) (.slice A7 xs'.length c7) xs' :: cel p [.slice A1 U.length ca, .slice B1 F.length cb, .slice C1 xs.length cc] 32 :: L0) Sb (sub_skip (sub_skip (sub_skip (sub_skip (sub_perm hp.symm)))))
end
end Go.Proofs.Ytlmabajgnjiigaa
