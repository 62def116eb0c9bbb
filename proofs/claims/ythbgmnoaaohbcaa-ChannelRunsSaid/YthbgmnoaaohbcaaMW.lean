/-
  Plain: an end and its reference; walks: same, SameLists.
-/
import Derived.Test.YthbgmnoaaohbcaaMV
namespace Go.Proofs.Ythbgmnoaaohbcaa
open Go Go.RowKit
set_option linter.unusedVariables false
set_option linter.unusedSimpArgs false
set_option maxRecDepth 20000
set_option synthInstance.maxSize 100000
set_option synthInstance.maxHeartbeats 400000
def kb (h : List (Int × SB)) : List (Int × List UInt8) := h.map fun p => (p.1, p.2.b)
theorem posM_kb {k : Int} : ∀ {h h' : List (Int × SB)} {i : Nat}, kb h = kb h' → (posM k h i).map (fun q => (q.1, q.2.b)) = (posM k h' i).map fun q => (q.1, q.2.b)
  | [], [], i, _ => rfl
  | [], _ :: _, i, e => by simp [kb] at e
  | _ :: _, [], i, e => by simp [kb] at e
  | x :: h, y :: h', i, e => by
    simp only [kb, List.map_cons, List.cons.injEq, Prod.mk.injEq] at e
    obtain ⟨⟨e1, e2⟩, e3⟩ := e
    unfold posM
    rw [e1]
    split
    · simp [e2]
    · exact posM_kb e3
theorem posM_kb_none {k : Int} {h h' : List (Int × SB)} (e : kb h = kb h') (hn : posM k h 0 = none) : posM k h' 0 = none := by
  have := posM_kb (k := k) (i := 0) e
  rw [hn] at this
  cases hp : posM k h' 0 with
  | none => rfl
  | some q => rw [hp] at this; cases this
theorem posM_kb_some {k : Int} {h h' : List (Int × SB)} {q : Nat × SB} (e : kb h = kb h') (hn : posM k h 0 = some q) : ∃ q', posM k h' 0 = some q' ∧ q'.1 = q.1 ∧ q'.2.b = q.2.b := by
  have := posM_kb (k := k) (i := 0) e
  rw [hn] at this
  cases hp : posM k h' 0 with
  | none => rw [hp] at this; cases this
  | some q' =>
    rw [hp] at this
    simp only [Option.map_some, Option.some.injEq, Prod.mk.injEq] at this
    exact ⟨q', rfl, this.1.symm, this.2.symm⟩
theorem kb_len {h h' : List (Int × SB)} (e : kb h = kb h') : h.length = h'.length := by
  have := congrArg List.length e
  simpa [kb] using this
theorem kb_del {k : Int} {h h' : List (Int × SB)} (e : kb h = kb h') : kb (delM k h) = kb (delM k h') := by
  unfold delM
  cases hp : posM k h 0 with
  | none => rw [posM_kb_none e hp]; exact e
  | some q =>
    obtain ⟨q', h1, h2, _⟩ := posM_kb_some e hp
    rw [h1]
    dsimp only
    unfold kb
    rw [erase_map, erase_map, h2]
    show (kb h).eraseIdx _ = (kb h').eraseIdx _
    rw [e]
theorem drain_kb : ∀ (n : Nat) (g : Int) (h h' : List (Int × SB)), kb h = kb h' → (drain n g h).1 = (drain n g h').1 ∧ kb (drain n g h).2.1 = kb (drain n g h').2.1 ∧ (drain n g h).2.2 = (drain n g h').2.2
  | 0, g, h, h', e => ⟨rfl, e, rfl⟩
  | n + 1, g, h, h', e => by
    cases hp : posM (g + 1) h 0 with
    | none =>
      rw [drain_none hp, drain_none (posM_kb_none e hp)]
      exact ⟨rfl, e, rfl⟩
    | some q =>
      obtain ⟨q', h1, h2, h3⟩ := posM_kb_some e hp
      rw [drain_some hp, drain_some h1]
      obtain ⟨a, b, c⟩ := drain_kb n (g + 1) _ _ (kb_del (k := g + 1) e)
      exact ⟨a, b, by dsimp only; rw [h3, c]⟩
theorem drain_rest : ∀ (n : Nat) (g : Int) (h : List (Int × SB)), h.length ≤ n → posM ((drain n g h).1 + 1) (drain n g h).2.1 0 = none
  | 0, g, h, hn => by
    obtain rfl : h = [] := List.length_eq_zero_iff.1 (by omega)
    rfl
  | n + 1, g, h, hn => by
    cases hp : posM (g + 1) h 0 with
    | none => rw [drain_none hp]; exact hp
    | some q =>
      have := delM_len hp
      rw [drain_some hp]
      exact drain_rest n (g + 1) _ (by omega)
theorem drain_cnt : ∀ (n : Nat) (g : Int) (h : List (Int × SB)), (drain n g h).1 + (drain n g h).2.1.length = g + h.length ∧ g ≤ (drain n g h).1
  | 0, g, h => ⟨rfl, Int.le_refl _⟩
  | n + 1, g, h => by
    cases hp : posM (g + 1) h 0 with
    | none => rw [drain_none hp]; exact ⟨rfl, Int.le_refl _⟩
    | some q =>
      have := delM_len hp
      obtain ⟨a, b⟩ := drain_cnt n (g + 1) (delM (g + 1) h)
      rw [drain_some hp]
      exact ⟨by dsimp only; omega, by dsimp only; omega⟩
/-- an end, and the reference's that has gone the same way -/
structure Rel (e f : PE) : Prop where
  w : e.w = f.w
  acked : e.acked = f.acked
  got : e.got = f.got
  ow : e.ow = f.ow
  wait : e.wait = f.wait.drop f.acked.toNat
  a0 : 0 ≤ f.acked
  a1 : f.acked ≤ f.wait.length
  g0 : 0 ≤ f.got
  held : kb e.held = kb f.held
  rest : posM (e.got + 1) e.held 0 = none
theorem Rel.send {e f : PE} {b : List UInt8} (h : Rel e f) : Rel { e with wait := e.wait ++ [b] } { f with wait := f.wait ++ [b] } :=
  ⟨h.w, h.acked, h.got, h.ow, by
    have h1 := h.a1
    show e.wait ++ [b] = (f.wait ++ [b]).drop f.acked.toNat
    rw [h.wait, List.drop_append_of_le_length (by omega)], h.a0, by have := h.a1; show f.acked ≤ _; rw [List.length_append]; push_cast; omega, h.g0, h.held, h.rest⟩
theorem Rel.out {e f : PE} {q : Bool} (h : Rel e f) : Rel { e with ow := q } { f with ow := q } := ⟨h.w, h.acked, h.got, rfl, h.wait, h.a0, h.a1, h.g0, h.held, h.rest⟩
theorem Rel.inn {e f : PE} {s a : Int} {x y : SB} (h : Rel e f) (hx : x.b = y.b) : Rel (inP e s a x).1 (fInP f s a y).1 ∧ (inP e s a x).2 = (fInP f s a y).2 := by
  have hwl : e.wait.length = f.wait.length - f.acked.toNat := by rw [h.wait, List.length_drop]
  have ha0 := h.a0
  have ha1 := h.a1
  have hak := h.acked
  have hgk := h.got
  have hcc : canP e s a x.b ↔ (0 ≤ s ∧ 0 ≤ a ∧ y.b.length ≤ 65536 ∧ (0 < s ∨ y.b.length = 0)) ∧ a ≤ f.wait.length ∧ s ≤ f.got + 16 := by
    unfold canP
    rw [hx, hgk]
    constructor
    · rintro ⟨h1, h2, h3⟩
      exact ⟨h1, by omega, h3⟩
    · rintro ⟨h1, h2, h3⟩
      exact ⟨h1, by omega, h3⟩
  by_cases hc : canP e s a x.b
  · have hf := hcc.1 hc
    rw [inP, if_pos hc, fInP, if_pos hf]
    have hw2 : e.wait.drop (a - e.acked).toNat = f.wait.drop (max f.acked a).toNat := by
      rw [h.wait, List.drop_drop]
      congr 1
      omega
    have hmx : max e.acked a = max f.acked a := by rw [hak]
    have hm1 : max f.acked a ≤ f.wait.length := by have := hf.2.1; omega
    by_cases hs : s = 0
    · rw [if_pos hs, if_pos hs]
      exact ⟨⟨h.w, hmx, hgk, h.ow, hw2, by dsimp only; omega, hm1, h.g0, h.held, h.rest⟩, rfl⟩
    · rw [if_neg hs, if_neg hs]
      cases hp : posM s e.held 0 with
      | some q =>
        obtain ⟨q', h1, _, _⟩ := posM_kb_some h.held hp
        have hf2 : 0 ≤ findP s f.held := by unfold findP; rw [h1]; dsimp only; omega
        have hH : heldP e s x = e.held := by unfold heldP; rw [if_neg (fun hh => by rw [hp] at hh; cases hh.2)]
        rw [if_pos (.inr hf2), hH, drain_none h.rest]
        exact ⟨⟨h.w, hmx, hgk, rfl, hw2, by dsimp only; omega, hm1, h.g0, h.held, h.rest⟩, rfl⟩
      | none =>
        by_cases hsg : s ≤ f.got
        · have hH : heldP e s x = e.held := by unfold heldP; rw [if_neg (fun hh => by have := hh.1; omega)]
          rw [if_pos (.inl hsg), hH, drain_none h.rest]
          exact ⟨⟨h.w, hmx, hgk, rfl, hw2, by dsimp only; omega, hm1, h.g0, h.held, h.rest⟩, rfl⟩
        · have hf2 : findP s f.held = -1 := by unfold findP; rw [posM_kb_none h.held hp]
          have hH : heldP e s x = e.held ++ [(s, x)] := by unfold heldP; rw [if_pos ⟨by omega, hp⟩]
          rw [if_neg (by rw [hf2]; rintro (hh | hh); exact hsg hh; exact absurd hh (by decide)), hH]
          have hk : kb (e.held ++ [(s, x)]) = kb (f.held ++ [(s, y)]) := by
            unfold kb
            rw [List.map_append, List.map_append]
            show kb e.held ++ _ = kb f.held ++ _
            rw [h.held]
            simp [hx]
          have hl : (e.held ++ [(s, x)]).length = f.held.length + 1 := by rw [List.length_append, kb_len h.held]; rfl
          rw [hl, hgk]
          obtain ⟨b1, b2, b3⟩ := drain_kb (f.held.length + 1) f.got _ _ hk
          have hr := drain_rest (f.held.length + 1) f.got (e.held ++ [(s, x)]) (by omega)
          have hcnt := drain_cnt (f.held.length + 1) f.got (f.held ++ [(s, y)])
          have hg0 := h.g0
          exact ⟨⟨h.w, hmx, b1, rfl, hw2, by dsimp only; omega, hm1, by dsimp only; omega, b2, hr⟩, b3⟩
  · rw [inP, if_neg hc, fInP, if_neg (fun hh => hc (hcc.2 hh))]
    exact ⟨h, rfl⟩
theorem inP_cnt {e : PE} {s a : Int} {x : SB} : (inP e s a x).1.got + (inP e s a x).1.held.length ≤ e.got + e.held.length + 1 ∧ (inP e s a x).1.w = e.w := by
  unfold inP
  split
  · split
    · exact ⟨by dsimp only; omega, rfl⟩
    · obtain ⟨h1, h2⟩ := drain_cnt (heldP e s x).length e.got (heldP e s x)
      have hH : (heldP e s x).length ≤ e.held.length + 1 := by
        unfold heldP
        split
        · simp
        · omega
      exact ⟨by dsimp only; omega, rfl⟩
  · exact ⟨by dsimp only; omega, rfl⟩
theorem fInP_wait {f : PE} {s a : Int} {x : SB} : (fInP f s a x).1.wait = f.wait := by
  unfold fInP
  split
  · split
    · rfl
    · split <;> rfl
  · rfl
section
variable {W0 : World} {L : List HP}
theorem getBK {l' : List SB} {l : List (List UInt8)} {i : Nat} {x : SB} (h : l'.map SB.b = l) (hx : l'[i]? = some x) : l[i]? = some x.b := by
  rw [← h, List.getElem?_map, hx]; rfl
theorem fSameLists_ct {va vb : Value} {la lb : List (List UInt8)} {q : Bool} (ha : rd (eSl eB) va la ∈ L) (hb : rd (eSl eB) vb lb ∈ L) (hla : la.length ≤ 10000000) (hlb : lb.length ≤ 10000000) (hla2 : ∀ x ∈ la, x.length ≤ 10000000) (hlb2 : ∀ x ∈ lb, x.length ≤ 10000000) (hq : decide (la = lb) = q) :
    CT Try.prog 18 #[va, vb] W0 L fun r L' => r = .bool q ∧ L' = L := by
  refine CT_openS ha fun la' ha' => ?_
  refine CT_openS (.tail _ hb) fun lb' hb' => ?_
  refine CT_fact (fun w s => ((Src.sl (.inl (.tail _ (.head _))) s).form)) ?_
  rintro ⟨Aa, ca, rfl, hca⟩
  refine CT_fact (fun w s => ((Src.sl (.inl (.head _)) s).form)) ?_
  rintro ⟨Ab, cb, rfl, hcb⟩
  have hal : la'.length = la.length := by rw [← ha', List.length_map]
  have hbl : lb'.length = lb.length := by rw [← hb', List.length_map]
  refine CT_enter Try.func18 rfl ?_; (simp only [Try.ntmps18, List.size_toArray, List.length_cons, List.length_nil, Nat.reduceAdd, Nat.reduceSub, Array.replicate_succ, Array.replicate_zero, List.push_toArray, List.append_toArray, List.nil_append, List.cons_append])
  by_cases hlen : la'.length = lb'.length
  rotate_left
  · have hqf : q = false := by rw [← hq]; exact decide_eq_false fun h => hlen (by rw [hal, hbl, h])
    subst hqf
    repeat' (first | refine go ?_ | intro _ | (apply cG; first | refine cT ?_ | refine cF ?_ | refine cS (fun _ => ?_) fun _ => ?_) | (apply gW; refine sW ?_) | (apply gI; refine sI ?_) | (apply gE; refine sE ?_) | (apply gP; refine sP ?_) | (apply gC; refine sC ?_) | (apply gD; refine sD ?_) | fail)
    refine E_res1 (by rfl) (by rfl) ⟨rfl, rfl⟩ Sb
  repeat' (first | refine go ?_ | intro _ | (apply cG; first | refine cT ?_ | refine cF ?_ | refine cS (fun _ => ?_) fun _ => ?_) | (apply gW; refine sW ?_) | (apply gI; refine sI ?_) | (apply gE; refine sE ?_) | (apply gP; refine sP ?_) | (apply gC; refine sC ?_) | (apply gD; refine sD ?_) | fail)
  refine C_loopS (κ := Nat) [false, false, false, false, true, true, false, false, false, false, false, true, true, true, true, true, true, true, true, true, true, true, true, true, true, true, true] (fun k => [(5, .int .i64 (k : Int))]) (fun k => []) (fun k => k ≤ la'.length ∧ ∀ j < k, la[j]? = lb[j]?) (fun k => la'.length - k) 0 ⟨Nat.zero_le _, fun j hj => absurd hj (Nat.not_lt_zero _)⟩ ⟨rfl, trivial⟩ ?_
  rintro i u ⟨hi, hsame⟩
  ((try dsimp only); refine C_n ?_; (try simp only [Nat.reduceAdd, Nat.zero_add]))
  by_cases hlt : i < la'.length
  · obtain ⟨x, hx⟩ : ∃ x, la'[i]? = some x := ⟨_, List.getElem?_eq_getElem hlt⟩
    obtain ⟨y, hy⟩ : ∃ y, lb'[i]? = some y := ⟨_, List.getElem?_eq_getElem (by omega)⟩
    have hax : At la' i x := ⟨hx⟩
    have hay : At lb' i y := ⟨hy⟩
    have hxb := getBK ha' hx
    have hyb := getBK hb' hy
    have hxl := hla2 _ (List.mem_of_getElem? hxb)
    have hyl := hlb2 _ (List.mem_of_getElem? hyb)
    repeat' (first | refine go ?_ | intro _ | (apply cG; first | refine cT ?_ | refine cF ?_ | refine cS (fun _ => ?_) fun _ => ?_) | (apply gW; refine sW ?_) | (apply gI; refine sI ?_) | (apply gE; refine sE ?_) | (apply gP; refine sP ?_) | (apply gC; refine sC ?_) | (apply gD; refine sD ?_) | fail)
    refine C_sub (sub_peekSB (v := .slice Aa la'.length ca) (by repeat (first | exact .head _ | refine .tail _ ?_)) hx) ?_
    refine C_sub (sub_peekSB (v := .slice Ab lb'.length cb) (by repeat (first | exact .head _ | refine .tail _ ?_)) hy) ?_
    obtain ⟨s, hs⟩ : ∃ s, decide (x.b = y.b) = s := ⟨_, rfl⟩
    refine C_draw (n := 99) [rd eB y.v y.b, rd eB x.v x.b, rd eSB (.slice Ab lb'.length cb) lb', rd eSB (.slice Aa la'.length ca) la'] [(0, 1), (1, 1), (2, 1), (3, 1), (4, 1), (5, 1), (6, 1), (7, 1), (8, 0), (9, 1)] (by kernel_rfl) (by kernel_rfl) Sb ?_
    repeat' (first | refine go ?_ | intro _ | (apply cG; first | refine cT ?_ | refine cF ?_ | refine cS (fun _ => ?_) fun _ => ?_) | (apply gW; refine sW ?_) | (apply gI; refine sI ?_) | (apply gE; refine sE ?_) | (apply gP; refine sP ?_) | (apply gC; refine sC ?_) | (apply gD; refine sD ?_) | fail)
    refine D_op rfl ?_; refine X_d (dy_call ArgsI.pf (by first | exact rfl | trivial | (intro a b; rfl)) (SameBytes_ct (la := x.b) (lb := y.b) (.inl (by repeat (first | exact .head _ | refine .tail _ ?_))) (.inl (by repeat (first | exact .head _ | refine .tail _ ?_))) (by omega) (by omega) hs)) ?_; rintro _ _ ⟨_, ⟨rfl, hLL⟩, rfl⟩; replace hLL := hLL.symm; subst hLL; refine ⟨(by first | exact .inl rfl | exact .inr Sb), D_n ?_⟩
    cases s
    · have hqf : q = false := by
        rw [← hq]
        refine decide_eq_false fun h => ?_
        rw [h, hyb] at hxb
        have : y.b = x.b := by simpa using hxb
        exact of_decide_eq_false hs this.symm
      subst hqf
      repeat' (first | refine go ?_ | intro _ | (apply cG; first | refine cT ?_ | refine cF ?_ | refine cS (fun _ => ?_) fun _ => ?_) | (apply gW; refine sW ?_) | (apply gI; refine sI ?_) | (apply gE; refine sE ?_) | (apply gP; refine sP ?_) | (apply gC; refine sC ?_) | (apply gD; refine sD ?_) | fail)
      refine E_res1 (by rfl) (by rfl) ⟨rfl, rfl⟩ Sb
    · have hxy := of_decide_eq_true hs
      repeat' (first | refine go ?_ | intro _ | (apply cG; first | refine cT ?_ | refine cF ?_ | refine cS (fun _ => ?_) fun _ => ?_) | (apply gW; refine sW ?_) | (apply gI; refine sI ?_) | (apply gE; refine sE ?_) | (apply gP; refine sP ?_) | (apply gC; refine sC ?_) | (apply gD; refine sD ?_) | fail)
      exact E_round (i + 1) ⟨hlt, fun j hj => by
        rcases Nat.lt_or_ge j i with h | h
        · exact hsame j h
        · obtain rfl : j = i := by omega
          rw [hxb, hyb, hxy]⟩ (by show la'.length - (i + 1) < la'.length - i; omega) ⟨rfl, trivial⟩ Sb
  · have hqt : q = true := by
      rw [← hq]
      refine decide_eq_true (List.ext_getElem? fun j => ?_)
      rcases Nat.lt_or_ge j i with h | h
      · exact hsame j h
      · rw [List.getElem?_eq_none (by omega), List.getElem?_eq_none (by omega)]
    subst hqt
    repeat' (first | refine go ?_ | intro _ | (apply cG; first | refine cT ?_ | refine cF ?_ | refine cS (fun _ => ?_) fun _ => ?_) | (apply gW; refine sW ?_) | (apply gI; refine sI ?_) | (apply gE; refine sE ?_) | (apply gP; refine sP ?_) | (apply gC; refine sC ?_) | (apply gD; refine sD ?_) | fail)
    refine E_res1 (by rfl) (by rfl) ⟨rfl, rfl⟩ Sb
theorem same_ct {va vb : Value} {la lb : List PK} (ha : rd ePK va la ∈ L) (hb : rd ePK vb lb ∈ L) (hl : la.length ≤ 10000000) (he : la.map PK.p = lb.map PK.p) (hbl : ∀ x ∈ la, x.b.length ≤ 1000000) :
    CT Try.prog 17 #[va, vb] W0 L fun r L' => r = .bool true ∧ L' = L := by
  refine CT_fact (fun w s => ((Src.sl (.inl ha) s).form)) ?_
  rintro ⟨Aa, ca, rfl, hca⟩
  refine CT_fact (fun w s => ((Src.sl (.inl hb) s).form)) ?_
  rintro ⟨Ab, cb, rfl, hcb⟩
  have hll : la.length = lb.length := by have := congrArg List.length he; simpa using this
  refine CT_enter Try.func17 rfl ?_; (simp only [Try.ntmps17, List.size_toArray, List.length_cons, List.length_nil, Nat.reduceAdd, Nat.reduceSub, Array.replicate_succ, Array.replicate_zero, List.push_toArray, List.append_toArray, List.nil_append, List.cons_append])
  refine C_sub ((sub_dup hb).trans (sub_dup (.tail _ ha))) ?_
  repeat' (first | refine go ?_ | intro _ | (apply cG; first | refine cT ?_ | refine cF ?_ | refine cS (fun _ => ?_) fun _ => ?_) | (apply gW; refine sW ?_) | (apply gI; refine sI ?_) | (apply gE; refine sE ?_) | (apply gP; refine sP ?_) | (apply gC; refine sC ?_) | (apply gD; refine sD ?_) | fail)
  refine C_loopS (κ := Nat) [false, false, false, false, true, true, false, false, false, false, false, true, true, true, true, true, true, true, true, true, true, true, true, true, true, true, true, true] (fun k => [(5, .int .i64 (k : Int))]) (fun k => []) (fun k => k ≤ la.length) (fun k => la.length - k) 0 (Nat.zero_le _) ⟨rfl, trivial⟩ ?_
  rintro i u hi
  ((try dsimp only); refine C_n ?_; (try simp only [Nat.reduceAdd, Nat.zero_add]))
  by_cases hlt : i < la.length
  · obtain ⟨x, hx⟩ : ∃ x, la[i]? = some x := ⟨_, List.getElem?_eq_getElem hlt⟩
    obtain ⟨y, hy⟩ : ∃ y, lb[i]? = some y := ⟨_, List.getElem?_eq_getElem (by omega)⟩
    have hxy : x.p = y.p := by
      have h1 : (la.map PK.p)[i]? = some x.p := by rw [List.getElem?_map, hx]; rfl
      rw [he, List.getElem?_map, hy] at h1
      simpa using h1.symm
    have hxl := hbl x (List.mem_of_getElem? hx)
    refine C_sub (sub_peekP' (v := .slice Aa la.length ca) (l := la) (j := i) (x := x) (by repeat (first | exact .head _ | refine .tail _ ?_)) hx) ?_
    refine C_sub (sub_peekP' (v := .slice Ab lb.length cb) (l := lb) (j := i) (x := y) (by repeat (first | exact .head _ | refine .tail _ ?_)) hy) ?_
    refine C_fact (fun w s => (Src.sl (.inl (.tail _ (.head _))) s : Sl _ eB x.v x.b).form) ?_
    rintro ⟨Ax, cx, hfx, _⟩
    refine C_fact (fun w s => (Src.sl (.inl (.head _)) s : Sl _ eB y.v y.b).form) ?_
    rintro ⟨Ay, cy, hfy, _⟩
    obtain ⟨xs, xa, xv, xb⟩ := x
    obtain ⟨ys, ya, yv, yb⟩ := y
    simp only [PK.p, Prod.mk.injEq] at hxy
    obtain ⟨rfl, rfl, rfl⟩ := hxy
    dsimp only at hfx hfy hxl
    subst hfx
    subst hfy
    dsimp only
    have hax : At la i ⟨xs, xa, .slice Ax xb.length cx, xb⟩ := ⟨hx⟩
    have hay : At lb i ⟨xs, xa, .slice Ay xb.length cy, xb⟩ := ⟨hy⟩
    repeat' (first | refine go ?_ | intro _ | (apply cG; first | refine cT ?_ | refine cF ?_ | refine cS (fun _ => ?_) fun _ => ?_) | (apply gW; refine sW ?_) | (apply gI; refine sI ?_) | (apply gE; refine sE ?_) | (apply gP; refine sP ?_) | (apply gC; refine sC ?_) | (apply gD; refine sD ?_) | fail)
    refine C_draw (n := 99) [rd eB (.slice Ay xb.length cy) xb, rd eB (.slice Ax xb.length cx) xb, rd ePK (.slice Aa la.length ca) la, rd ePK (.slice Ab lb.length cb) lb] [(0, 1), (1, 1), (2, 1), (3, 1), (5, 1), (6, 1), (7, 1), (8, 1), (4, 0), (9, 0), (10, 1)] (by kernel_rfl) (by kernel_rfl) Sb ?_
    repeat' (first | refine go ?_ | intro _ | (apply cG; first | refine cT ?_ | refine cF ?_ | refine cS (fun _ => ?_) fun _ => ?_) | (apply gW; refine sW ?_) | (apply gI; refine sI ?_) | (apply gE; refine sE ?_) | (apply gP; refine sP ?_) | (apply gC; refine sC ?_) | (apply gD; refine sD ?_) | fail)
    refine D_op rfl ?_; refine X_d (dy_call ArgsI.pf (by first | exact rfl | trivial | (intro a b; rfl)) (plain_ct)) ?_; rintro _ _ ⟨_, ⟨rfl, hLL⟩, rfl⟩; replace hLL := hLL.symm; subst hLL; refine ⟨(by first | exact .inl rfl | exact .inr Sb), D_n ?_⟩
    repeat' (first | refine go ?_ | intro _ | (apply cG; first | refine cT ?_ | refine cF ?_ | refine cS (fun _ => ?_) fun _ => ?_) | (apply gW; refine sW ?_) | (apply gI; refine sI ?_) | (apply gE; refine sE ?_) | (apply gP; refine sP ?_) | (apply gC; refine sC ?_) | (apply gD; refine sD ?_) | fail)
    refine D_op rfl ?_; refine X_d (dy_call ArgsI.pf (by first | exact rfl | trivial | (intro a b; rfl)) (fSame_ct (x := xb) (y := xb) (q := true) (.inl (.tail _ (.head _))) (.inl (.head _)) hxl hxl (decide_eq_true ⟨rfl, rfl, rfl⟩))) ?_; rintro _ _ ⟨_, ⟨rfl, hLL⟩, rfl⟩; replace hLL := hLL.symm; subst hLL; refine ⟨(by first | exact .inl rfl | exact .inr Sb), D_n ?_⟩
    repeat' (first | refine go ?_ | intro _ | (apply cG; first | refine cT ?_ | refine cF ?_ | refine cS (fun _ => ?_) fun _ => ?_) | (apply gW; refine sW ?_) | (apply gI; refine sI ?_) | (apply gE; refine sE ?_) | (apply gP; refine sP ?_) | (apply gC; refine sC ?_) | (apply gD; refine sD ?_) | fail)
    exact E_round (i + 1) hlt (by show la.length - (i + 1) < la.length - i; omega) ⟨rfl, trivial⟩ Sb
  obtain rfl : i = la.length := by omega
  repeat' (first | refine go ?_ | intro _ | (apply cG; first | refine cT ?_ | refine cF ?_ | refine cS (fun _ => ?_) fun _ => ?_) | (apply gW; refine sW ?_) | (apply gI; refine sI ?_) | (apply gE; refine sE ?_) | (apply gP; refine sP ?_) | (apply gC; refine sC ?_) | (apply gD; refine sD ?_) | fail)
  refine E_res1 (by rfl) (by rfl) ⟨rfl, rfl⟩ Sb
end
end Go.Proofs.Ythbgmnoaaohbcaa
namespace Go.Proofs.Ythbgmnoaaohbcaa
open Go Go.RowKit
set_option linter.unusedVariables false
set_option linter.unusedSimpArgs false
theorem outP_b {w acked got : Int} {wait : List (List UInt8)} {ow : Bool} {m : Nat} (h : ∀ y ∈ wait, y.length ≤ m) {p : Int × Int × List UInt8} (hp : p ∈ outP w acked got wait ow) : p.2.2.length ≤ m := by
  unfold outP at hp
  split at hp
  · simp only [List.mem_cons, List.not_mem_nil, or_false] at hp
    subst hp
    exact Nat.zero_le _
  · obtain ⟨j, b, h1, rfl⟩ := pkL_mem hp
    exact h b (List.mem_of_mem_take (List.mem_of_getElem? h1))
theorem u8_any2 (z : Int) : ∃ b : UInt8, IntKind.u8.wrap z = (b.toNat : Int) := by
  have h0 : 0 ≤ IntKind.u8.wrap z ∧ IntKind.u8.wrap z < 256 := by
    rw [show IntKind.u8.wrap z = z % 256 from IntKind.wrap_u8 z]
    omega
  refine ⟨UInt8.ofNat (IntKind.u8.wrap z).toNat, ?_⟩
  rw [UInt8.toNat_ofNat']
  omega
theorem drain_bl {M : Nat} : ∀ (n : Nat) (g : Int) (h : List (Int × SB)), (∀ p ∈ h, p.2.b.length ≤ M) → (∀ p ∈ (drain n g h).2.1, p.2.b.length ≤ M) ∧ (∀ y ∈ (drain n g h).2.2, y.length ≤ M) ∧ (drain n g h).2.2.length ≤ h.length
  | 0, g, h, hb => ⟨hb, (fun y hy => by cases hy), Nat.zero_le _⟩
  | n + 1, g, h, hb => by
    cases hp : posM (g + 1) h 0 with
    | none =>
      rw [drain_none hp]
      exact ⟨hb, (fun y hy => by cases hy), Nat.zero_le _⟩
    | some q =>
      have hl := delM_len hp
      have hq := hb _ (List.mem_of_getElem? (posM_mem hp))
      obtain ⟨a, b, c⟩ := drain_bl n (g + 1) (delM (g + 1) h) (fun p hp2 => hb p (by
        unfold delM at hp2
        rw [hp] at hp2
        exact List.mem_of_mem_eraseIdx hp2))
      rw [drain_some hp]
      refine ⟨a, fun y hy => ?_, by dsimp only; rw [List.length_cons]; omega⟩
      rcases List.mem_cons.1 hy with rfl | hy
      · exact hq
      · exact b y hy
theorem inP_bl {e : PE} {s a : Int} {x : SB} {M : Nat} (hb : ∀ p ∈ e.held, p.2.b.length ≤ M) (hx : x.b.length ≤ M) : (∀ p ∈ (inP e s a x).1.held, p.2.b.length ≤ M) ∧ (∀ y ∈ (inP e s a x).2, y.length ≤ M) ∧ (inP e s a x).2.length ≤ e.held.length + 1 := by
  unfold inP
  split
  · split
    · exact ⟨hb, (fun y hy => by cases hy), Nat.zero_le _⟩
    · have hH : (∀ p ∈ heldP e s x, p.2.b.length ≤ M) ∧ (heldP e s x).length ≤ e.held.length + 1 := by
        unfold heldP
        split
        · refine ⟨fun p hp => ?_, by simp⟩
          rcases List.mem_append.1 hp with h | h
          · exact hb p h
          · simp only [List.mem_cons, List.not_mem_nil, or_false] at h
            subst h
            exact hx
        · exact ⟨hb, Nat.le_succ _⟩
      obtain ⟨h1, h2, h3⟩ := drain_bl (heldP e s x).length e.got (heldP e s x) hH.1
      exact ⟨h1, h2, by have := hH.2; dsimp only; omega⟩
  · exact ⟨hb, (fun y hy => by cases hy), Nat.zero_le _⟩
/-- where the loop of ChannelRuns stands -/
structure RS where
  i : Nat
  e0 : PE
  e1 : PE
  f0 : PE
  f1 : PE
  link : List PK
  la : Option Addr
  lc : Nat
  to : List Int
  ta : Option Addr
  tc : Nat
structure RI (m : Nat) (k : RS) : Prop where
  i : k.i ≤ m
  r0 : Rel k.e0 k.f0
  r1 : Rel k.e1 k.f1
  w0 : 1 ≤ k.e0.w ∧ k.e0.w ≤ 16
  w1 : 1 ≤ k.e1.w ∧ k.e1.w ≤ 16
  n0 : k.f0.wait.length ≤ k.i
  n1 : k.f1.wait.length ≤ k.i
  b0 : ∀ x ∈ k.f0.wait, x.length ≤ 2
  b1 : ∀ x ∈ k.f1.wait, x.length ≤ 2
  c0 : k.e0.got + k.e0.held.length ≤ k.i
  c1 : k.e1.got + k.e1.held.length ≤ k.i
  tl : k.to.length = k.link.length
  ll : k.link.length ≤ 16 * k.i
  tt : ∀ t ∈ k.to, t = 0 ∨ t = 1
  lb : ∀ x ∈ k.link, x.b.length ≤ 2
  hb0 : ∀ p ∈ k.e0.held, p.2.b.length ≤ 2
  hb1 : ∀ p ∈ k.e1.held, p.2.b.length ≤ 2
theorem RI.good0 {m : Nat} {k : RS} (h : RI m k) (hm : m ≤ 80) : k.e0.good := by
  have a1 := h.r0.acked
  have a2 := h.r0.a0
  have a3 := h.r0.a1
  have a4 := h.n0
  have a5 := h.i
  have a6 := h.c0
  have a7 := h.r0.g0
  have a8 := h.r0.got
  exact ⟨by omega, by omega, by omega, by omega, by rw [h.r0.wait, List.length_drop]; omega, by omega⟩
theorem RI.wl0 {m : Nat} {k : RS} (h : RI m k) : k.e0.wait.length ≤ k.i := by have := h.n0; rw [h.r0.wait, List.length_drop]; omega
theorem RI.wb0 {m : Nat} {k : RS} (h : RI m k) : ∀ x ∈ k.e0.wait, x.length ≤ 65536 := fun x hx => by
  rw [h.r0.wait] at hx
  have := h.b0 x (List.mem_of_mem_drop hx)
  omega
theorem RI.good1 {m : Nat} {k : RS} (h : RI m k) (hm : m ≤ 80) : k.e1.good := by
  have a1 := h.r1.acked
  have a2 := h.r1.a0
  have a3 := h.r1.a1
  have a4 := h.n1
  have a5 := h.i
  have a6 := h.c1
  have a7 := h.r1.g0
  have a8 := h.r1.got
  exact ⟨by omega, by omega, by omega, by omega, by rw [h.r1.wait, List.length_drop]; omega, by omega⟩
theorem RI.wl1 {m : Nat} {k : RS} (h : RI m k) : k.e1.wait.length ≤ k.i := by have := h.n1; rw [h.r1.wait, List.length_drop]; omega
theorem RI.wb1 {m : Nat} {k : RS} (h : RI m k) : ∀ x ∈ k.e1.wait, x.length ≤ 65536 := fun x hx => by
  rw [h.r1.wait] at hx
  have := h.b1 x (List.mem_of_mem_drop hx)
  omega
theorem RI.step {m : Nat} {i : Nat} {e0 e1 f0 f1 : PE} {link : List PK} {la : Option Addr} {lc : Nat} {to : List Int} {ta : Option Addr} {tc : Nat} (h : RI m ⟨i, e0, e1, f0, f1, link, la, lc, to, ta, tc⟩) (hi : i + 1 ≤ m) : RI m ⟨i + 1, e0, e1, f0, f1, link, la, lc, to, ta, tc⟩ := by
  obtain ⟨_, r0, r1, w0, w1, n0, n1, b0, b1, c0, c1, tl, ll, tt, lb, hb0, hb1⟩ := h
  dsimp only at *
  exact ⟨hi, r0, r1, w0, w1, by dsimp only; omega, by dsimp only; omega, b0, b1, by dsimp only; omega, by dsimp only; omega, tl, by dsimp only; omega, tt, lb, hb0, hb1⟩
theorem RI.send0 {m : Nat} {i : Nat} {e0 e1 f0 f1 : PE} {link : List PK} {la : Option Addr} {lc : Nat} {to : List Int} {ta : Option Addr} {tc : Nat} (h : RI m ⟨i, e0, e1, f0, f1, link, la, lc, to, ta, tc⟩) (hi : i + 1 ≤ m) {b : List UInt8} (hb : b.length ≤ 2) : RI m ⟨i + 1, { e0 with wait := e0.wait ++ [b] }, e1, { f0 with wait := f0.wait ++ [b] }, f1, link, la, lc, to, ta, tc⟩ := by
  obtain ⟨_, r0, r1, w0, w1, n0, n1, b0, b1, c0, c1, tl, ll, tt, lb, hb0, hb1⟩ := h
  dsimp only at *
  exact ⟨hi, r0.send, r1, w0, w1, by dsimp only; rw [List.length_append, List.length_singleton]; omega, by dsimp only; omega, (fun x hx => by
    rcases List.mem_append.1 hx with h | h
    · exact b0 x h
    · simp only [List.mem_cons, List.not_mem_nil, or_false] at h
      subst h
      exact hb), b1, by dsimp only; omega, by dsimp only; omega, tl, by dsimp only; omega, tt, lb, hb0, hb1⟩
theorem RI.out0 {m : Nat} {i : Nat} {e0 e1 f0 f1 : PE} {link : List PK} {la : Option Addr} {lc : Nat} {to : List Int} {ta : Option Addr} {tc : Nat} (h : RI m ⟨i, e0, e1, f0, f1, link, la, lc, to, ta, tc⟩) (hi : i + 1 ≤ m) {l : List PK} (hl : l.length ≤ 16) (hlb : ∀ x ∈ l, x.b.length ≤ 2) {A A' : Option Addr} {c c' : Nat} : RI m ⟨i + 1, { e0 with ow := false }, e1, { f0 with ow := false }, f1, link ++ l, A, c, to ++ List.replicate l.length 1, A', c'⟩ := by
  obtain ⟨_, r0, r1, w0, w1, n0, n1, b0, b1, c0, c1, tl, ll, tt, lb, hb0, hb1⟩ := h
  dsimp only at *
  refine ⟨hi, r0.out, r1, w0, w1, by dsimp only; omega, by dsimp only; omega, b0, b1, by dsimp only; omega, by dsimp only; omega, by simp [tl], by dsimp only; rw [List.length_append]; omega, fun t ht => ?_, fun x hx => ?_, hb0, hb1⟩
  · rcases List.mem_append.1 ht with h | h
    · exact tt t h
    · exact .inr (List.mem_replicate.1 h).2
  · rcases List.mem_append.1 hx with h | h
    · exact lb x h
    · exact hlb x h
theorem RI.in0 {m : Nat} {i : Nat} {e0 e1 f0 f1 : PE} {link : List PK} {la : Option Addr} {lc : Nat} {to : List Int} {ta : Option Addr} {tc : Nat} (h : RI m ⟨i, e0, e1, f0, f1, link, la, lc, to, ta, tc⟩) (hi : i + 1 ≤ m) {s a : Int} {x y : SB} (hxy : x.b = y.b) (hxl : x.b.length ≤ 2) : RI m ⟨i + 1, (inP e0 s a x).1, e1, (fInP f0 s a y).1, f1, link, la, lc, to, ta, tc⟩ ∧ (inP e0 s a x).2 = (fInP f0 s a y).2 ∧ (inP e0 s a x).2.length ≤ i + 1 ∧ ∀ z ∈ (inP e0 s a x).2, z.length ≤ 2 := by
  obtain ⟨_, r0, r1, w0, w1, n0, n1, b0, b1, c0, c1, tl, ll, tt, lb, hb0, hb1⟩ := h
  dsimp only at *
  obtain ⟨q1, q2⟩ := r0.inn (s := s) (a := a) hxy
  obtain ⟨q3, q4⟩ := inP_cnt (e := e0) (s := s) (a := a) (x := x)
  obtain ⟨q5, q6, q7⟩ := inP_bl (s := s) (a := a) hb0 hxl
  exact ⟨⟨hi, q1, r1, by dsimp only; rw [q4]; exact w0, w1, by dsimp only; rw [fInP_wait]; omega, by dsimp only; omega, by dsimp only; rw [fInP_wait]; exact b0, b1, by dsimp only; omega, by dsimp only; omega, tl, by dsimp only; omega, tt, lb, q5, hb1⟩, q2, by have := r0.g0; have := r0.got; omega, q6⟩
theorem RI.send1 {m : Nat} {i : Nat} {e0 e1 f0 f1 : PE} {link : List PK} {la : Option Addr} {lc : Nat} {to : List Int} {ta : Option Addr} {tc : Nat} (h : RI m ⟨i, e0, e1, f0, f1, link, la, lc, to, ta, tc⟩) (hi : i + 1 ≤ m) {b : List UInt8} (hb : b.length ≤ 2) : RI m ⟨i + 1, e0, { e1 with wait := e1.wait ++ [b] }, f0, { f1 with wait := f1.wait ++ [b] }, link, la, lc, to, ta, tc⟩ := by
  obtain ⟨_, r0, r1, w0, w1, n0, n1, b0, b1, c0, c1, tl, ll, tt, lb, hb0, hb1⟩ := h
  dsimp only at *
  exact ⟨hi, r0, r1.send, w0, w1, by dsimp only; omega, by dsimp only; rw [List.length_append, List.length_singleton]; omega, b0, (fun x hx => by
    rcases List.mem_append.1 hx with h | h
    · exact b1 x h
    · simp only [List.mem_cons, List.not_mem_nil, or_false] at h
      subst h
      exact hb), by dsimp only; omega, by dsimp only; omega, tl, by dsimp only; omega, tt, lb, hb0, hb1⟩
theorem RI.out1 {m : Nat} {i : Nat} {e0 e1 f0 f1 : PE} {link : List PK} {la : Option Addr} {lc : Nat} {to : List Int} {ta : Option Addr} {tc : Nat} (h : RI m ⟨i, e0, e1, f0, f1, link, la, lc, to, ta, tc⟩) (hi : i + 1 ≤ m) {l : List PK} (hl : l.length ≤ 16) (hlb : ∀ x ∈ l, x.b.length ≤ 2) {A A' : Option Addr} {c c' : Nat} : RI m ⟨i + 1, e0, { e1 with ow := false }, f0, { f1 with ow := false }, link ++ l, A, c, to ++ List.replicate l.length 0, A', c'⟩ := by
  obtain ⟨_, r0, r1, w0, w1, n0, n1, b0, b1, c0, c1, tl, ll, tt, lb, hb0, hb1⟩ := h
  dsimp only at *
  refine ⟨hi, r0, r1.out, w0, w1, by dsimp only; omega, by dsimp only; omega, b0, b1, by dsimp only; omega, by dsimp only; omega, by simp [tl], by dsimp only; rw [List.length_append]; omega, fun t ht => ?_, fun x hx => ?_, hb0, hb1⟩
  · rcases List.mem_append.1 ht with h | h
    · exact tt t h
    · exact .inl (List.mem_replicate.1 h).2
  · rcases List.mem_append.1 hx with h | h
    · exact lb x h
    · exact hlb x h
theorem RI.in1 {m : Nat} {i : Nat} {e0 e1 f0 f1 : PE} {link : List PK} {la : Option Addr} {lc : Nat} {to : List Int} {ta : Option Addr} {tc : Nat} (h : RI m ⟨i, e0, e1, f0, f1, link, la, lc, to, ta, tc⟩) (hi : i + 1 ≤ m) {s a : Int} {x y : SB} (hxy : x.b = y.b) (hxl : x.b.length ≤ 2) : RI m ⟨i + 1, e0, (inP e1 s a x).1, f0, (fInP f1 s a y).1, link, la, lc, to, ta, tc⟩ ∧ (inP e1 s a x).2 = (fInP f1 s a y).2 ∧ (inP e1 s a x).2.length ≤ i + 1 ∧ ∀ z ∈ (inP e1 s a x).2, z.length ≤ 2 := by
  obtain ⟨_, r0, r1, w0, w1, n0, n1, b0, b1, c0, c1, tl, ll, tt, lb, hb0, hb1⟩ := h
  dsimp only at *
  obtain ⟨q1, q2⟩ := r1.inn (s := s) (a := a) hxy
  obtain ⟨q3, q4⟩ := inP_cnt (e := e1) (s := s) (a := a) (x := x)
  obtain ⟨q5, q6, q7⟩ := inP_bl (s := s) (a := a) hb1 hxl
  exact ⟨⟨hi, r0, q1, w0, by dsimp only; rw [q4]; exact w1, by dsimp only; omega, by dsimp only; rw [fInP_wait]; omega, b0, by dsimp only; rw [fInP_wait]; exact b1, by dsimp only; omega, by dsimp only; omega, tl, by dsimp only; omega, tt, lb, hb0, q5⟩, q2, by have := r1.g0; have := r1.got; omega, q6⟩
end Go.Proofs.Ythbgmnoaaohbcaa
