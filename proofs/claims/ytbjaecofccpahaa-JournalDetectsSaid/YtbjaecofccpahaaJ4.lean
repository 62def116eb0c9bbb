/-
  Walks: journal's iterator and Scan.
-/
import Derived.Test.YtbjaecofccpahaaJ3
import Derived.Test.YtbjaecofccpahaaRf
namespace Go.Proofs.Ytbjaecofccpahaa
open Go Go.RowKit
set_option linter.unusedVariables false
set_option linter.unusedSimpArgs false
set_option maxRecDepth 20000
set_option synthInstance.maxSize 100000
set_option synthInstance.maxHeartbeats 400000
def lastP (p : Nat) (ys : List (List UInt8 × Nat)) : Nat := ys.foldl (fun _ y => y.2) p
theorem lastP_snoc (p : Nat) (ys : List (List UInt8 × Nat)) (y : List UInt8 × Nat) : lastP p (ys ++ [y]) = y.2 := by unfold lastP; rw [List.foldl_append]; rfl
def scanY : Nat → Nat → List UInt8 → Nat → List (List UInt8 × Nat)
  | 0, _, _, _ => []
  | n + 1, i, b, p => if p < b.length ∧ isF (i : Int) (b.drop p) = true then (recF (b.drop p), p + (frameF (i : Int) (recF (b.drop p))).length) :: scanY n (i + 1) b (p + (frameF (i : Int) (recF (b.drop p))).length) else []
theorem scanY_scanF : ∀ (n i : Nat) (b : List UInt8) (p : Nat) (xs : List (List UInt8)) (N : Nat), scanF n (i : Int) (b.drop p) = (xs, N) → (scanY n i b p).map Prod.fst = xs ∧ lastP p (scanY n i b p) = p + N
  | 0, i, b, p, xs, N, h => by
    simp only [scanF, Prod.mk.injEq] at h
    obtain ⟨rfl, rfl⟩ := h
    exact ⟨rfl, rfl⟩
  | n + 1, i, b, p, xs, N, h => by
    by_cases hp : p < b.length
    rotate_left
    · rw [List.drop_of_length_le (by omega), scanF_nil] at h
      simp only [Prod.mk.injEq] at h
      obtain ⟨rfl, rfl⟩ := h
      rw [scanY, if_neg (fun h => hp h.1)]
      exact ⟨rfl, rfl⟩
    have hne : b.drop p ≠ [] := by
      intro h
      have := congrArg List.length h
      rw [List.length_drop, List.length_nil] at this
      omega
    by_cases hf : isF (i : Int) (b.drop p) = true
    · rw [scanF_yes hne hf, List.drop_drop] at h
      obtain ⟨L, hL⟩ : ∃ L, (frameF (i : Int) (recF (b.drop p))).length = L := ⟨_, rfl⟩
      rw [hL] at h
      obtain ⟨xs', N', h'⟩ : ∃ xs' N', scanF n ((i + 1 : Nat) : Int) (b.drop (p + L)) = (xs', N') := ⟨_, _, rfl⟩
      have hc : ((i : Int) + 1) = ((i + 1 : Nat) : Int) := by push_cast; rfl
      rw [hc, h'] at h
      simp only [Prod.mk.injEq] at h
      obtain ⟨rfl, rfl⟩ := h
      have ih := scanY_scanF n (i + 1) b (p + L) xs' N' h'
      rw [scanY, if_pos ⟨hp, hf⟩, hL]
      refine ⟨by rw [List.map_cons, ih.1], ?_⟩
      have : lastP p ((recF (b.drop p), p + L) :: scanY n (i + 1) b (p + L)) = lastP (p + L) (scanY n (i + 1) b (p + L)) := rfl
      rw [this, ih.2]; omega
    · rw [scanF_no (by simpa using hf)] at h
      simp only [Prod.mk.injEq] at h
      obtain ⟨rfl, rfl⟩ := h
      rw [scanY, if_neg (fun h => hf h.2)]
      exact ⟨rfl, rfl⟩
theorem scanF_le : ∀ (n : Nat) (i : Int) (b : List UInt8), (scanF n i b).1.length ≤ n
  | 0, _, _ => Nat.le_refl _
  | n + 1, i, b => by
    rw [scanF]
    split
    · exact Nat.zero_le _
    · split
      · have := scanF_le n (i + 1) (b.drop (frameF i (recF b)).length)
        rw [List.length_cons]; omega
      · exact Nat.zero_le _
section
variable {W0 : World} {L : List HP}
/-- a variable that holds a list of slices -/
def bxS (c : Nat) (l : List (List UInt8)) : HP := ex fun v => sp [cel c [v] 27, own 23 (eSl eB) v l]
theorem bxS_open {ops : Array Oper} {Q : Exit → Act → World → Prop} {rest : List Oper} {a : Act} {p : Nat} {l : List (List UInt8)} (k : ∀ A c, OL Try.prog W0 (cel p [.slice A l.length c] 27 :: own 23 (eSl eB) (.slice A l.length c) l :: L) ops Q rest a) : OL Try.prog W0 (bxS p l :: L) ops Q rest a := by
  refine ⟨fun w st => ?_⟩
  obtain ⟨v, h⟩ := st.ex_
  have h := h.open_
  obtain ⟨A, c, rfl, hc⟩ := (h.rdo (.tail _ (.head _))).form
  exact (k A c).run w h
theorem bxS_openE {Q : Exit → Act → World → Prop} {e : Exit} {a : Act} {p : Nat} {l : List (List UInt8)} (k : ∀ A c, EL W0 (cel p [.slice A l.length c] 27 :: own 23 (eSl eB) (.slice A l.length c) l :: L) Q e a) : EL W0 (bxS p l :: L) Q e a := by
  refine ⟨fun w st => ?_⟩
  obtain ⟨v, h⟩ := st.ex_
  have h := h.open_
  obtain ⟨A, c, rfl, hc⟩ := (h.rdo (.tail _ (.head _))).form
  exact (k A c).run w h
theorem bxS_sub {p : Nat} {v : Value} {l : List (List UInt8)} : Sub (cel p [v] 27 :: own 23 (eSl eB) v l :: L) (bxS p l :: L) := (sub_close (Ls := [cel p [v] 27, own 23 (eSl eB) v l])).trans (sub_ex (F := fun v => sp [cel p [v] 27, own 23 (eSl eB) v l]) v)
theorem records_any {W0 w : World} {L : List HP} (hS : St W0 w L) {A : Option Addr} {n c : Nat} :
    Calls Try.prog 51 #[.slice A n c] w fun e w' => ∃ b, e = .returned (.func (.func 67) #[] #[.pointer (some ⟨b, 0, none⟩)]) ∧ St W0 w' (cel b [.slice A n c] 23 :: L) := by
  go_enter Try.func51, Try.ntmps51
  go_wp2_with ((with_reducible refine g_box ?_); refine wl_box hS (by rfl) (by rfl) ?_; clear hS; intro b w' hS)
  go_ret
  exact ⟨_, rfl, hS⟩
theorem records_ct {A : Option Addr} {n c : Nat} : CT Try.prog 51 #[.slice A n c] W0 L fun r L' => ∃ p, r = .func (.func 67) #[] #[.pointer (some ⟨p, 0, none⟩)] ∧ L' = cel p [.slice A n c] 23 :: L :=
  ⟨fun w s => (records_any s).mono fun e w' ⟨b, he, hs⟩ => ⟨_, _, he, ⟨b, rfl, rfl⟩, hs⟩⟩
theorem records1_gives {A : Option Addr} {c p : Nat} {b : List UInt8} {E0 : List HP} (hb : rd eB (.slice A b.length c) b ∈ E0) (hl : b.length ≤ 1000000) (hc : b.length ≤ c) :
    GivesR Try.prog 67 #[.pointer (some ⟨p, 0, none⟩)] (fun (y : List UInt8 × Nat) (k : Value) => #[k, .int .i64 (y.2 : Int)]) (fun y k => [rd eB k y.1]) (scanY b.length 0 b 0) (cel p [.slice A b.length c] 23 :: E0) := by
  intro l W0 J hround
  obtain ⟨ys, hys⟩ : ∃ ys, scanY b.length 0 b 0 = ys := ⟨_, rfl⟩
  rw [hys] at hround ⊢
  have hbm : ∀ {X : HP}, rd eB (.slice A b.length c) b ∈ X :: cel p [.slice A b.length c] 23 :: E0 := fun {X} => .tail _ (.tail _ hb)
  refine CT_enter Try.func67 rfl ?_; (simp only [Try.ntmps67, List.size_toArray, List.length_cons, List.length_nil, Nat.reduceAdd, Nat.reduceSub, Array.replicate_succ, Array.replicate_zero, List.push_toArray, List.append_toArray, List.nil_append, List.cons_append])
  refine C_sub (sub_dup hbm) ?_
  repeat' (first | refine go ?_ | intro _ | (apply cG; first | refine cT ?_ | refine cF ?_ | refine cS (fun _ => ?_) fun _ => ?_) | (apply gW; refine sW ?_) | (apply gI; refine sI ?_) | (apply gE; refine sE ?_) | (apply gP; refine sP ?_) | (apply gC; refine sC ?_) | (apply gD; refine sD ?_) | fail)
  refine C_loopS (κ := List (List UInt8 × Nat) × List (List UInt8 × Nat)) [false, false, false, true, true, true, true, true, true, true, true, true, true, true, true, true, true, true, true, true, true, true, true, true, true, true, true, true, true, true, true, true, true, true, true] (fun k => [(3, .int .i64 (lastP 0 k.1 : Int)), (4, .int .i64 (k.1.length : Int))]) (fun k => [(1, J k.1)]) (fun k => ys = k.1 ++ k.2 ∧ k.2 = scanY (b.length - k.1.length) k.1.length b (lastP 0 k.1) ∧ k.1.length ≤ lastP 0 k.1 ∧ lastP 0 k.1 ≤ b.length) (fun k => b.length - k.1.length) ([], ys) ⟨rfl, hys.symm, Nat.zero_le _, Nat.zero_le _⟩ ⟨rfl, rfl, trivial⟩ ?_
  rintro ⟨pre, post⟩ u ⟨h1, h2, h3, h4⟩
  dsimp only at h1 h2 h3 h4
  obtain ⟨q, hq⟩ : ∃ q, lastP 0 pre = q := ⟨_, rfl⟩
  rw [hq] at h2 h3 h4 ⊢
  ((try dsimp only); refine C_n ?_; (try simp only [Nat.reduceAdd, Nat.zero_add]))
  by_cases hlt : q < b.length
  · obtain ⟨ok, hok⟩ : ∃ ok, isF (pre.length : Int) (b.drop q) = ok := ⟨_, rfl⟩
    obtain ⟨x, hx⟩ : ∃ x, recF (b.drop q) = x := ⟨_, rfl⟩
    have hxl := recF_len (b.drop q)
    rw [hx, List.length_drop] at hxl
    have hd : (b.drop q).take (b.length - q) = b.drop q := List.take_of_length_le (by rw [List.length_drop]; omega)
    have hfl := frameF_len (i := (pre.length : Int)) (x := x) (by omega) (by omega) (by omega)
    have hmin := frameF_min (pre.length : Int) x
    repeat' (first | refine go ?_ | intro _ | (apply cG; first | refine cT ?_ | refine cF ?_ | refine cS (fun _ => ?_) fun _ => ?_) | (apply gW; refine sW ?_) | (apply gI; refine sI ?_) | (apply gE; refine sE ?_) | (apply gP; refine sP ?_) | (apply gC; refine sC ?_) | (apply gD; refine sD ?_) | fail)
    rw [hd]
    refine O_d (dy_call ArgsI.pf (by first | exact rfl | trivial | (intro a b; rfl)) (record_ct (.head _) (by rw [List.length_drop]; omega) hx)) ?_; rintro _ _ ⟨_, ⟨A1, c1, rfl, rfl⟩, rfl⟩; refine O_n ?_
    refine O_frz 0 ?_
    repeat' (first | refine go ?_ | intro _ | (apply cG; first | refine cT ?_ | refine cF ?_ | refine cS (fun _ => ?_) fun _ => ?_) | (apply gW; refine sW ?_) | (apply gI; refine sI ?_) | (apply gE; refine sE ?_) | (apply gP; refine sP ?_) | (apply gC; refine sC ?_) | (apply gD; refine sD ?_) | fail)
    refine O_d (dy_call ArgsI.pf (by first | exact rfl | trivial | (intro a b; rfl)) (Frame_ct (x := x) (.inl (.head _)) (by omega) (by omega) (by omega))) ?_; rintro _ _ ⟨_, ⟨A2, c2, rfl, rfl⟩, rfl⟩; refine O_n ?_
    repeat' (first | refine go ?_ | intro _ | (apply cG; first | refine cT ?_ | refine cF ?_ | refine cS (fun _ => ?_) fun _ => ?_) | (apply gW; refine sW ?_) | (apply gI; refine sI ?_) | (apply gE; refine sE ?_) | (apply gP; refine sP ?_) | (apply gC; refine sC ?_) | (apply gD; refine sD ?_) | fail)
    rw [hd]
    refine O_d (dy_call ArgsI.pf (by first | exact rfl | trivial | (intro a b; rfl)) (HasPrefix_ct (la := b.drop q) (lb := frameF (pre.length : Int) x) (q := ok) (.head _) Sc.pf (by rw [← hok, ← hx]; rfl))) ?_; rintro _ _ ⟨_, ⟨rfl, hLL⟩, rfl⟩; replace hLL := hLL.symm; subst hLL; refine O_n ?_
    obtain ⟨m, hm⟩ : ∃ m, b.length - pre.length = m + 1 := ⟨b.length - pre.length - 1, by omega⟩
    rw [hm, scanY] at h2
    cases ok
    · rw [if_neg (fun h => by rw [hok] at h; exact absurd h.2 (by decide))] at h2
      subst h2
      rw [List.append_nil] at h1
      subst h1
      repeat' (first | refine go ?_ | intro _ | (apply cG; first | refine cT ?_ | refine cF ?_ | refine cS (fun _ => ?_) fun _ => ?_) | (apply gW; refine sW ?_) | (apply gI; refine sI ?_) | (apply gE; refine sE ?_) | (apply gP; refine sP ?_) | (apply gC; refine sC ?_) | (apply gD; refine sD ?_) | fail)
      refine E_sub (S := J ys :: cel p [.slice A b.length c] 23 :: E0) Sb ?_
      refine E_end0 (by first | exact .inl rfl | exact .inr rfl) (by rfl) (by rfl) rfl
    · rw [if_pos ⟨hlt, hok⟩, hx] at h2
      have hfq : (frameF (pre.length : Int) x).length + q ≤ b.length := by
        obtain ⟨t, ht⟩ := isF_iff.1 hok
        rw [hx] at ht
        have := congrArg List.length ht
        rw [List.length_append, List.length_drop] at this
        omega
      repeat' (first | ((fail_if_success apply AtE); refine go ?_) | intro _ | (apply cG; first | refine cT ?_ | refine cF ?_ | refine cS (fun _ => ?_) fun _ => ?_) | (apply gW; refine sW ?_) | (apply gI; refine sI ?_) | (apply gE; refine sE ?_) | (apply gP; refine sP ?_) | (apply gC; refine sC ?_) | (apply gD; refine sD ?_) | fail)
      refine go ?_
      repeat' (first | ((fail_if_success apply AtE); refine go ?_) | intro _ | (apply cG; first | refine cT ?_ | refine cF ?_ | refine cS (fun _ => ?_) fun _ => ?_) | (apply gW; refine sW ?_) | (apply gI; refine sI ?_) | (apply gE; refine sE ?_) | (apply gP; refine sP ?_) | (apply gC; refine sC ?_) | (apply gD; refine sD ?_) | fail)
      refine go ?_
      repeat' (first | ((fail_if_success apply AtE); refine go ?_) | intro _ | (apply cG; first | refine cT ?_ | refine cF ?_ | refine cS (fun _ => ?_) fun _ => ?_) | (apply gW; refine sW ?_) | (apply gI; refine sI ?_) | (apply gE; refine sE ?_) | (apply gP; refine sP ?_) | (apply gC; refine sC ?_) | (apply gD; refine sD ?_) | fail)
      refine go ?_
      refine go ?_
      refine C_sub (S := rd eB (.slice A1 x.length c1) x :: J pre :: cel p [.slice A b.length c] 23 :: E0) Sb ?_
      refine C_yield2 (l := l) (v1 := .slice A1 x.length c1) (v2 := .int .i64 ((q + (frameF (pre.length : Int) x).length : Nat) : Int)) (L' := J (pre ++ [(x, q + (frameF (pre.length : Int) x).length)]) :: cel p [.slice A b.length c] 23 :: E0)
        Ev.pf Put.pf Ev.pf Put.pf Ev.pf Put.pf Put.pf Put.pf Ev.pf Ev.pf (Eq.trans Ev.pf (by push_cast; rfl)) Ev.pf ?_ ?_
      · intro w hw
        exact hround pre (x, q + (frameF (pre.length : Int) x).length) _ (.slice A1 x.length c1) w (by rw [h1, h2]) hw
      refine E_sub (sub_dup hbm) ?_
      repeat' (first | refine go ?_ | intro _ | (apply cG; first | refine cT ?_ | refine cF ?_ | refine cS (fun _ => ?_) fun _ => ?_) | (apply gW; refine sW ?_) | (apply gI; refine sI ?_) | (apply gE; refine sE ?_) | (apply gP; refine sP ?_) | (apply gC; refine sC ?_) | (apply gD; refine sD ?_) | fail)
      have hlp : lastP 0 (pre ++ [(x, q + (frameF (pre.length : Int) x).length)]) = q + (frameF (pre.length : Int) x).length := lastP_snoc _ _ _
      have hpl : (pre ++ [(x, q + (frameF (pre.length : Int) x).length)]).length = pre.length + 1 := by rw [List.length_append]; rfl
      have hm' : b.length - (pre.length + 1) = m := by omega
      exact E_round (pre ++ [(x, q + (frameF (pre.length : Int) x).length)], scanY m (pre.length + 1) b (q + (frameF (pre.length : Int) x).length)) ⟨by rw [h1, h2, List.append_assoc]; rfl, by dsimp only; rw [hlp, hpl, hm'], by dsimp only; rw [hlp, hpl]; omega, by dsimp only; rw [hlp]; omega⟩ (by dsimp only; rw [hpl]; omega) ⟨by dsimp only; rw [hlp]; push_cast; rfl, by dsimp only; rw [hpl]; push_cast; rfl, trivial⟩ Sb
  · obtain rfl : q = b.length := by omega
    have h2' : post = [] := by
      rw [h2]
      cases b.length - pre.length with
      | zero => rfl
      | succ n => rw [scanY, if_neg (fun h => hlt h.1)]
    subst h2'
    rw [List.append_nil] at h1
    subst h1
    repeat' (first | refine go ?_ | intro _ | (apply cG; first | refine cT ?_ | refine cF ?_ | refine cS (fun _ => ?_) fun _ => ?_) | (apply gW; refine sW ?_) | (apply gI; refine sI ?_) | (apply gE; refine sE ?_) | (apply gP; refine sP ?_) | (apply gC; refine sC ?_) | (apply gD; refine sD ?_) | fail)
    refine E_sub (S := J ys :: cel p [.slice A b.length c] 23 :: E0) Sb ?_
    refine E_end0 (by first | exact .inl rfl | exact .inr rfl) (by rfl) (by rfl) rfl
theorem Scan_ct {v : Value} {b : List UInt8} {xs : List (List UInt8)} {N : Nat} (hb : rd eB v b ∈ L) (hl : b.length ≤ 1000000) (h : scanF b.length 0 b = (xs, N)) :
    CT Try.prog 25 #[v] W0 L fun r L' => ∃ A c, r = .tuple #[.slice A xs.length c, .int .i64 (N : Int)] ∧ L' = own 23 (eSl eB) (.slice A xs.length c) xs :: L := by
  refine CT_fact (fun w s => ((Src.sl (.inl hb) s).form)) ?_
  rintro ⟨Aa, ca, rfl, hca⟩
  obtain ⟨hm1, hm2⟩ := scanY_scanF b.length 0 b 0 xs N (by rw [List.drop_zero]; exact h)
  refine CT_enterM Try.func25 rfl ?_; (simp only [Try.ntmps25, List.size_toArray, List.length_cons, List.length_nil, Nat.reduceAdd, Nat.reduceSub, Array.replicate_succ, Array.replicate_zero, List.push_toArray, List.append_toArray, List.nil_append, List.cons_append])
  repeat' (first | refine go ?_ | intro _ | (apply cG; first | refine cT ?_ | refine cF ?_ | refine cS (fun _ => ?_) fun _ => ?_) | (apply gW; refine sW ?_) | (apply gI; refine sI ?_) | (apply gE; refine sE ?_) | (apply gP; refine sP ?_) | (apply gC; refine sC ?_) | (apply gD; refine sD ?_) | fail)
  refine O_d (dy_call ArgsI.pf (by first | exact rfl | trivial | (intro a b; rfl)) (records_ct)) ?_; rintro _ _ ⟨_, ⟨p, rfl, rfl⟩, rfl⟩; refine O_n ?_
  repeat' (first | refine go ?_ | intro _ | (apply cG; first | refine cT ?_ | refine cF ?_ | refine cS (fun _ => ?_) fun _ => ?_) | (apply gW; refine sW ?_) | (apply gI; refine sI ?_) | (apply gE; refine sE ?_) | (apply gP; refine sP ?_) | (apply gC; refine sC ?_) | (apply gD; refine sD ?_) | fail)
  rename_i c1 c2
  refine C_ownnil 23 (eSl eB) ?_
  refine C_sub (S := cel c1 [.slice none 0 0] 27 :: own 23 (eSl eB) (.slice none 0 0) [] :: cel c2 [.int .i64 0] 3 :: cel p [.slice Aa b.length ca] 23 :: L) Sb ?_
  refine C_rangeR Ev.pf (by first | exact rfl | trivial | (intro a b; rfl)) (records1_gives (p := p) hb hl hca) (fun _ _ => rfl) (fun pre => [bxS c1 (pre.map Prod.fst), cel c2 [.int .i64 (lastP 0 pre : Int)] 3]) bxS_sub ?_ ?_
  · intro l D rec pre y post k hx
    simp only [zip2, List.setIfInBounds_toArray, List.set_cons_zero, List.set_cons_succ]
    refine ⟨_, fun W K hK => wpIn_seq (wpIn_assignG Ev.pf Put.pf (fun _ _ h => h) (wpIn_assignG Ev.pf Put.pf (fun _ _ h => h) hK)), ?_⟩
    simp only [List.cons_append, List.nil_append]
    refine CI.run ?_
    refine CI_block (CI_seq (CI_region (fun _ _ h => by cases h.1) rfl ?_))
    refine O_sub (S := bxS c1 (pre.map Prod.fst) :: rd eB k y.1 :: cel c2 [.int .i64 (lastP 0 pre : Int)] 3 :: blk l rec :: blk D (.deferred (some [])) :: cel p [.slice Aa b.length ca] 23 :: L) Sb ?_
    refine bxS_open fun A5 c5 => ?_
    have hpl : (pre.map Prod.fst).length ≤ 1000000 := by
      have e1 := congrArg List.length hm1
      have e2 := scanF_le b.length 0 b
      rw [h] at e2
      dsimp only at e2
      rw [hx, List.length_map, List.length_append] at e1
      rw [List.length_map]
      omega
    obtain ⟨out, hout⟩ : ∃ out, pre.map Prod.fst = out := ⟨_, rfl⟩
    rw [hout] at hpl ⊢
    refine O_fact (fun w s => ((Src.sl (.inl (.tail _ (.tail _ (.head _)))) s).form)) ?_
    rintro ⟨A6, c6, rfl, hc6⟩
    repeat' (first | refine go ?_ | intro _ | (apply cG; first | refine cT ?_ | refine cF ?_ | refine cS (fun _ => ?_) fun _ => ?_) | (apply gW; refine sW ?_) | (apply gI; refine sI ?_) | (apply gE; refine sE ?_) | (apply gP; refine sP ?_) | (apply gC; refine sC ?_) | (apply gD; refine sD ?_) | fail)
    refine O_d (dy_litS (R := eSl eB) [y.1] [.slice A6 y.1.length c6] (by rfl) (fun m h hs => ⟨⟨_, rfl, rd_mem hs (by repeat (first | exact .head _ | refine .tail _ ?_))⟩, trivial⟩)) ?_; rintro _ _ ⟨_, rfl, rfl⟩; refine O_n ?_
    refine O_d dy_append ?_; rintro _ _ ⟨A7, c7, rfl, rfl⟩; refine O_n ?_
    repeat' (first | refine go ?_ | intro _ | (apply cG; first | refine cT ?_ | refine cF ?_ | refine cS (fun _ => ?_) fun _ => ?_) | (apply gW; refine sW ?_) | (apply gI; refine sI ?_) | (apply gE; refine sE ?_) | (apply gP; refine sP ?_) | (apply gC; refine sC ?_) | (apply gD; refine sD ?_) | fail)
    refine EI_then ?_
    refine CI_region (fun _ _ h => by cases h.1) rfl ?_
    repeat' (first | refine go ?_ | intro _ | (apply cG; first | refine cT ?_ | refine cF ?_ | refine cS (fun _ => ?_) fun _ => ?_) | (apply gW; refine sW ?_) | (apply gI; refine sI ?_) | (apply gE; refine sE ?_) | (apply gP; refine sP ?_) | (apply gC; refine sC ?_) | (apply gD; refine sD ?_) | fail)
    have e1 : (pre ++ [y]).map Prod.fst = out ++ [y.1] := by rw [List.map_append, hout]; rfl
    rw [e1, lastP_snoc]
    refine E_sub (S := cel c1 [.slice A7 (out.length + 1) c7] 27 :: own 23 (eSl eB) (.slice A7 (out.length + 1) c7) (out ++ [y.1]) :: blk l rec :: blk D (.deferred (some [])) :: cel c2 [.int .i64 (y.2 : Int)] 3 :: cel p [.slice Aa b.length ca] 23 :: L) Sb ?_
    refine E_sub bxS_sub ?_
    refine E_sub (S := blk l rec :: blk D (.deferred (some [])) :: bxS c1 (out ++ [y.1]) :: cel c2 [.int .i64 (y.2 : Int)] 3 :: cel p [.slice Aa b.length ca] 23 :: L) Sb ?_
    exact ⟨fun w s => ⟨rfl, s⟩⟩
  · intro D
    simp only [List.cons_append, List.nil_append]
    rw [hm1, hm2, Nat.zero_add]
    refine E_sub (S := bxS c1 xs :: cel c2 [.int .i64 (N : Int)] 3 :: blk D (.deferred (some [])) :: L) Sb ?_
    refine bxS_openE fun A8 c8 => ?_
    repeat' (first | refine go ?_ | intro _ | (apply cG; first | refine cT ?_ | refine cF ?_ | refine cS (fun _ => ?_) fun _ => ?_) | (apply gW; refine sW ?_) | (apply gI; refine sI ?_) | (apply gE; refine sE ?_) | (apply gP; refine sP ?_) | (apply gC; refine sC ?_) | (apply gD; refine sD ?_) | fail)
    refine C_draw (n := 99) [cel c1 [.slice A8 xs.length c8] 27, cel c2 [.int .i64 (N : Int)] 3] [(0, 1), (1, 1), (2, 1), (3, 1)] (by kernel_rfl) (by kernel_rfl) Sb ?_
    repeat' (first | refine go ?_ | intro _ | (apply cG; first | refine cT ?_ | refine cF ?_ | refine cS (fun _ => ?_) fun _ => ?_) | (apply gW; refine sW ?_) | (apply gI; refine sI ?_) | (apply gE; refine sE ?_) | (apply gP; refine sP ?_) | (apply gC; refine sC ?_) | (apply gD; refine sD ?_) | fail)
    refine E_res2d rfl (by rfl) Ev.pf Ev.pf ⟨_, _, rfl, rfl⟩ Sb
end
end Go.Proofs.Ytbjaecofccpahaa
