/-
  Walks: the program's search.
-/
import Derived.Test.YteeapkfakehocaaMQ
import Derived.Test.YteeapkfakehocaaMR
import Derived.Test.YteeapkfakehocaaMS
namespace Go.Proofs.Yteeapkfakehocaa
open Go Go.RowKit
set_option linter.unusedVariables false
set_option linter.unusedSimpArgs false
set_option maxRecDepth 20000
set_option synthInstance.maxSize 100000
set_option synthInstance.maxHeartbeats 400000
def stepP (t : List BX) (fuel : Int) (ls : List AK) (w : Int) (now : List Int) (bx : List BX) (s : SrS) (c : Int × BX) : Option SrS := if freeF c.2 bx then enterP t fuel ls w (now ++ [c.1]) (bx ++ [c.2]) s else some s
theorem enterP_cons {t : List BX} {fuel : Int} {a : AK} {ls : List AK} {w : Int} {now : List Int} {bx : List BX} {s : SrS} : enterP t fuel (a :: ls) w now bx s = if (s.steps : Int) + 1 > fuel then none else if w + restF (a :: ls) ≤ s.most then some ⟨s.best, s.most, s.steps + 1⟩ else match foldO (stepP t fuel ls (w + a.g) now bx) (choF a t) ⟨s.best, s.most, s.steps + 1⟩ with
    | some s' => enterP t fuel ls w (now ++ [-1]) bx s'
    | none => none := rfl
theorem foldO_steps {t : List BX} {fuel : Int} {ls : List AK} {w : Int} {now : List Int} {bx : List BX} {B : Nat} (h : ∀ (now : List Int) (bx : List BX) (s s' : SrS), enterP t fuel ls w now bx s = some s' → s'.steps ≤ s.steps + B) : ∀ (cs : List (Int × BX)) (s s' : SrS), foldO (stepP t fuel ls w now bx) cs s = some s' → s'.steps ≤ s.steps + cs.length * B
  | [], s, s', e => by
    have := Option.some.inj e
    subst this
    omega
  | c :: cs, s, s', e => by
    unfold foldO at e
    rw [List.length_cons, Nat.succ_mul]
    cases hc : stepP t fuel ls w now bx s c with
    | none => rw [hc] at e; cases e
    | some s1 =>
      rw [hc] at e
      have h1 := foldO_steps h cs s1 s' e
      have h2 : s1.steps ≤ s.steps + B := by
        unfold stepP at hc
        split at hc
        · exact h _ _ _ _ hc
        · have := Option.some.inj hc
          subst this
          omega
      omega
theorem enterP_steps {t : List BX} {fuel : Int} : ∀ (ls : List AK) (w : Int) (now : List Int) (bx : List BX) (s s' : SrS), enterP t fuel ls w now bx s = some s' → s'.steps ≤ s.steps + stepsB ls.length
  | [], w, now, bx, s, s', e => by
    unfold enterP at e
    have := Option.some.inj e
    subst this
    split <;> exact Nat.le_refl _
  | a :: ls, w, now, bx, s, s', e => by
    rw [enterP_cons] at e
    rw [List.length_cons]
    show _ ≤ s.steps + (1 + 5 * stepsB ls.length)
    split at e
    · cases e
    split at e
    · have := Option.some.inj e
      subst this
      dsimp only
      omega
    cases hc : foldO (stepP t fuel ls (w + a.g) now bx) (choF a t) ⟨s.best, s.most, s.steps + 1⟩ with
    | none => rw [hc] at e; cases e
    | some s1 =>
      rw [hc] at e
      have h1 := foldO_steps (fun now bx s s' => enterP_steps ls (w + a.g) now bx s s') (choF a t) _ _ hc
      have h2 := enterP_steps ls w (now ++ [-1]) bx s1 s' e
      have h3 := Nat.mul_le_mul_right (stepsB ls.length) (cho_len a t)
      dsimp only at h1
      omega
section
variable {W0 : World} {L : List HP}
theorem CloneI_ct {A : Option Addr} {c : Nat} {l : List Int} (hv : Src L eI (.slice A l.length c) l) (hl : l.length ≤ 100000000) :
    CT Try.prog 41 #[.slice A l.length c] W0 L fun r L' => ∃ A2 c2, r = .slice A2 l.length c2 ∧ L' = own 3 eI (.slice A2 l.length c2) l :: L := by
  cases A with
  | none =>
    refine CT_fact (fun w s => (hv.sl s).nil_of) ?_
    rintro rfl
    refine CT_enter Try.func41 rfl ?_; (simp only [Try.ntmps41, List.size_toArray, List.length_cons, List.length_nil, Nat.reduceAdd, Nat.reduceSub, Array.replicate_succ, Array.replicate_zero, List.push_toArray, List.append_toArray, List.nil_append, List.cons_append])
    repeat' (first | refine go ?_ | intro _ | (apply cG; first | refine cT ?_ | refine cF ?_ | refine cS (fun _ => ?_) fun _ => ?_) | (apply gW; refine sW ?_) | (apply gI; refine sI ?_) | (apply gE; refine sE ?_) | (apply gP; refine sP ?_) | (apply gC; refine sC ?_) | (apply gD; refine sD ?_) | fail)
    refine E_ownnil 3 eI ?_
    refine E_end1 (by rfl) (by rfl) Ev.pf ⟨none, 0, rfl, rfl⟩
  | some ad =>
    have hv : Sc L (.slice (some ad) l.length c) eI l := ⟨hv⟩
    refine CT_enter Try.func41 rfl ?_; (simp only [Try.ntmps41, List.size_toArray, List.length_cons, List.length_nil, Nat.reduceAdd, Nat.reduceSub, Array.replicate_succ, Array.replicate_zero, List.push_toArray, List.append_toArray, List.nil_append, List.cons_append])
    repeat' (first | refine go ?_ | intro _ | (apply cG; first | refine cT ?_ | refine cF ?_ | refine cS (fun _ => ?_) fun _ => ?_) | (apply gW; refine sW ?_) | (apply gI; refine sI ?_) | (apply gE; refine sE ?_) | (apply gP; refine sP ?_) | (apply gC; refine sC ?_) | (apply gD; refine sD ?_) | fail)
    refine O_d (dy_lit0 eI rfl) ?_; rintro _ _ ⟨_, rfl, rfl⟩; refine O_n ?_
    repeat' (first | refine go ?_ | intro _ | (apply cG; first | refine cT ?_ | refine cF ?_ | refine cS (fun _ => ?_) fun _ => ?_) | (apply gW; refine sW ?_) | (apply gI; refine sI ?_) | (apply gE; refine sE ?_) | (apply gP; refine sP ?_) | (apply gC; refine sC ?_) | (apply gD; refine sD ?_) | fail)
    refine E_end1 (by rfl) (by rfl) Ev.pf ⟨_, _, rfl, rfl⟩
/-- what the search leaves -/
def EnR (l : List AK) (fuel : Int) (rs : List Value) (Al Ap : Option Addr) (cl cp bl bm bn bb bs bf br bq bp be : Nat) (now : List Int) (L : List HP) (q : Option SrS) (r : Value) (L' : List HP) : Prop := match q with
  | some s' => r = .bool true ∧ ∃ (An' : Option Addr) (cn' : Nat) (nowl : List Int) (Ab' : Option Addr) (cb' : Nat) (Aq' : Option Addr) (nq' cq' : Nat), now.length ≤ nowl.length ∧ nowl.length ≤ l.length ∧ nowl.take now.length = now ∧ L' = cel bl [.slice Al l.length cl] 27 :: cel bm [.int .i64 s'.most] 3 :: cel bn [.slice An' nowl.length cn'] 22 :: cel bb [.slice Ab' s'.best.length cb'] 22 :: cel bs [.int .i64 (s'.steps : Int)] 3 :: cel bf [.int .i64 fuel] 3 :: cel br rs 74 :: cel bq [.slice Aq' nq' cq'] 42 :: cel bp [.slice Ap l.length cp] 75 :: cel be [.func (.func 40) #[] #[.pointer (some ⟨bl, 0, none⟩), .pointer (some ⟨bm, 0, none⟩), .pointer (some ⟨bn, 0, none⟩), .pointer (some ⟨bb, 0, none⟩), .pointer (some ⟨bs, 0, none⟩), .pointer (some ⟨bf, 0, none⟩), .pointer (some ⟨br, 0, none⟩), .pointer (some ⟨bq, 0, none⟩), .pointer (some ⟨bp, 0, none⟩), .pointer (some ⟨be, 0, none⟩)]] 77 :: own 3 eI (.slice An' nowl.length cn') nowl :: rd eI (.slice Ab' s'.best.length cb') s'.best :: L
  | none => r = .bool false ∧ L' = L
section
variable {l : List AK} {t : List BX} {fuel : Int} {rs : List Value} {Al Ap : Option Addr} {cl cp bl bm bn bb bs bf br bq bp be : Nat}
theorem enter_ct (hl : l.length ≤ 7) (hg : ∀ a ∈ l, a.good) (hrs : ∀ j ≤ l.length, rs[j]? = some (.int .i64 (restF (l.drop j)))) (hf : I64 fuel) : ∀ (ls : List AK) (i : Nat) (L : List HP), l.drop i = ls → i + ls.length = l.length → rd eAK (.slice Al l.length cl) l ∈ L → rd (eSl eCH) (.slice Ap l.length cp) (l.map fun a => choF a t) ∈ L →
    ∀ (w : Int) (now : List Int) (bx : List BX) (s : SrS) (An : Option Addr) (cn : Nat) (Ab : Option Addr) (cb : Nat) (Aq : Option Addr) (cq : Nat), now.length = i → bx.length ≤ i → (bx = [] → Aq = none) → bx.length ≤ cq → 0 ≤ w → w + restF ls ≤ 100000000 → s.steps + stepsB ls.length ≤ 10000000 →
    CT Try.prog 40 (#[.int .i64 (i : Int), .int .i64 w] ++ #[.pointer (some ⟨bl, 0, none⟩), .pointer (some ⟨bm, 0, none⟩), .pointer (some ⟨bn, 0, none⟩), .pointer (some ⟨bb, 0, none⟩), .pointer (some ⟨bs, 0, none⟩), .pointer (some ⟨bf, 0, none⟩), .pointer (some ⟨br, 0, none⟩), .pointer (some ⟨bq, 0, none⟩), .pointer (some ⟨bp, 0, none⟩), .pointer (some ⟨be, 0, none⟩)]) W0 (cel bl [.slice Al l.length cl] 27 :: cel bm [.int .i64 s.most] 3 :: cel bn [.slice An now.length cn] 22 :: cel bb [.slice Ab s.best.length cb] 22 :: cel bs [.int .i64 (s.steps : Int)] 3 :: cel bf [.int .i64 fuel] 3 :: cel br rs 74 :: cel bq [.slice Aq bx.length cq] 42 :: cel bp [.slice Ap l.length cp] 75 :: cel be [.func (.func 40) #[] #[.pointer (some ⟨bl, 0, none⟩), .pointer (some ⟨bm, 0, none⟩), .pointer (some ⟨bn, 0, none⟩), .pointer (some ⟨bb, 0, none⟩), .pointer (some ⟨bs, 0, none⟩), .pointer (some ⟨bf, 0, none⟩), .pointer (some ⟨br, 0, none⟩), .pointer (some ⟨bq, 0, none⟩), .pointer (some ⟨bp, 0, none⟩), .pointer (some ⟨be, 0, none⟩)]] 77 :: own 3 eI (.slice An now.length cn) now :: rd eI (.slice Ab s.best.length cb) s.best :: rd eBX (.slice Aq bx.length cq) bx :: L) (EnR l fuel rs Al Ap cl cp bl bm bn bb bs bf br bq bp be now L (enterP t fuel ls w now bx s))
  | [], i, L, hd, hi, hvl, hvp, w, now, bx, s, An, cn, Ab, cb, Aq, cq, hn, hb, hq, hqc, hw, hwr, hst => by
    obtain rfl : i = l.length := by simpa using hi
    unfold EnR enterP
    by_cases hws : w > s.most
    · rw [if_pos hws]
      dsimp only
      refine CT_enter Try.func40 rfl ?_; (simp only [Try.ntmps40, List.size_toArray, List.length_cons, List.length_nil, Nat.reduceAdd, Nat.reduceSub, Array.replicate_succ, Array.replicate_zero, List.push_toArray, List.append_toArray, List.nil_append, List.cons_append])
      repeat' (first | refine go ?_ | intro _ | (apply cG; first | refine cT ?_ | refine cF ?_ | refine cS (fun _ => ?_) fun _ => ?_) | (apply gW; refine sW ?_) | (apply gI; refine sI ?_) | (apply gE; refine sE ?_) | (apply gP; refine sP ?_) | (apply gC; refine sC ?_) | (apply gD; refine sD ?_) | fail)
      rw [← hn]
      refine O_d (dy_call ArgsI.pf (by first | exact rfl | trivial | (intro a b; rfl)) (CloneI_ct (l := now) Sc.pf (by omega))) ?_; rintro _ _ ⟨_, ⟨A2, c2, rfl, rfl⟩, rfl⟩; refine O_n ?_
      repeat' (first | refine go ?_ | intro _ | (apply cG; first | refine cT ?_ | refine cF ?_ | refine cS (fun _ => ?_) fun _ => ?_) | (apply gW; refine sW ?_) | (apply gI; refine sI ?_) | (apply gE; refine sE ?_) | (apply gP; refine sP ?_) | (apply gC; refine sC ?_) | (apply gD; refine sD ?_) | fail)
      refine E_frz 0 ?_
      refine E_res1 (by rfl) (by rfl) ⟨rfl, An, cn, now, A2, c2, Aq, bx.length, cq, Nat.le_refl _, by omega, List.take_length, rfl⟩ Sb
    · rw [if_neg hws]
      dsimp only
      refine CT_enter Try.func40 rfl ?_; (simp only [Try.ntmps40, List.size_toArray, List.length_cons, List.length_nil, Nat.reduceAdd, Nat.reduceSub, Array.replicate_succ, Array.replicate_zero, List.push_toArray, List.append_toArray, List.nil_append, List.cons_append])
      repeat' (first | refine go ?_ | intro _ | (apply cG; first | refine cT ?_ | refine cF ?_ | refine cS (fun _ => ?_) fun _ => ?_) | (apply gW; refine sW ?_) | (apply gI; refine sI ?_) | (apply gE; refine sE ?_) | (apply gP; refine sP ?_) | (apply gC; refine sC ?_) | (apply gD; refine sD ?_) | fail)
      refine E_res1 (by rfl) (by rfl) ⟨rfl, An, cn, now, Ab, cb, Aq, bx.length, cq, Nat.le_refl _, by omega, List.take_length, rfl⟩ Sb
  | a :: ls, i, L, hd, hi, hvl, hvp, w, now, bx, s, An, cn, Ab, cb, Aq, cq, hn, hb, hq, hqc, hw, hwr, hst => by
    have hlt : i < l.length := by rw [List.length_cons] at hi; omega
    have hli : l[i]? = some a := by
      have := congrArg List.head? hd
      rw [List.head?_drop] at this
      exact this
    have hal : At l i a := ⟨hli⟩
    have hgr := hrs i (by omega)
    rw [hd] at hgr
    have hga : GA rs i (.int .i64 (restF (a :: ls))) := ⟨hgr⟩
    have hag := (hg a (List.mem_of_getElem? hli)).2.2.2.2
    have hsb : stepsB (a :: ls).length = 1 + 5 * stepsB ls.length := rfl
    rw [hsb] at hst
    have hrn : 0 ≤ restF ls := restF_nn fun b hb => by
      have : b ∈ l := List.mem_of_mem_drop (i := i) (by rw [hd]; exact .tail _ hb)
      have := (hg b this).2.2.2.2
      omega
    have hrc := restF_cons (a := a) (ls := ls)
    rw [hrc] at hwr hga
    have hfu := hf
    rw [enterP_cons, hrc]
    have hst1 : ((s.steps : Int) + 1) = ((s.steps + 1 : Nat) : Int) := by omega
    refine CT.sub ?_ (sub_dup (.tail _ (.tail _ (.tail _ (.tail _ (.tail _ (.tail _ (.tail _ (.tail _ (.tail _ (.tail _ (.tail _ (.tail _ (.tail _ hvl))))))))))))))
    refine CT.sub ?_ (sub_dup (.tail _ (.tail _ (.tail _ (.tail _ (.tail _ (.tail _ (.tail _ (.tail _ (.tail _ (.tail _ (.tail _ (.tail _ (.tail _ (.tail _ hvp)))))))))))))))
    by_cases h1 : (s.steps : Int) + 1 > fuel
    · rw [if_pos h1]
      unfold EnR
      dsimp only
      refine CT_enter Try.func40 rfl ?_; (simp only [Try.ntmps40, List.size_toArray, List.length_cons, List.length_nil, Nat.reduceAdd, Nat.reduceSub, Array.replicate_succ, Array.replicate_zero, List.push_toArray, List.append_toArray, List.nil_append, List.cons_append])
      repeat' (first | refine go ?_ | intro _ | (apply cG; first | refine cT ?_ | refine cF ?_ | refine cS (fun _ => ?_) fun _ => ?_) | (apply gW; refine sW ?_) | (apply gI; refine sI ?_) | (apply gE; refine sE ?_) | (apply gP; refine sP ?_) | (apply gC; refine sC ?_) | (apply gD; refine sD ?_) | fail)
      refine E_res1 (by rfl) (by rfl) ⟨rfl, rfl⟩ Sb
    rw [if_neg h1]
    by_cases h2 : w + (a.g + restF ls) ≤ s.most
    · rw [if_pos h2]
      unfold EnR
      dsimp only
      refine CT_enter Try.func40 rfl ?_; (simp only [Try.ntmps40, List.size_toArray, List.length_cons, List.length_nil, Nat.reduceAdd, Nat.reduceSub, Array.replicate_succ, Array.replicate_zero, List.push_toArray, List.append_toArray, List.nil_append, List.cons_append])
      repeat' (first | refine go ?_ | intro _ | (apply cG; first | refine cT ?_ | refine cF ?_ | refine cS (fun _ => ?_) fun _ => ?_) | (apply gW; refine sW ?_) | (apply gI; refine sI ?_) | (apply gE; refine sE ?_) | (apply gP; refine sP ?_) | (apply gC; refine sC ?_) | (apply gD; refine sD ?_) | fail)
      refine C_draw (n := 99) [cel bm [.int .i64 s.most] 3, cel br rs 74] [(0, 1), (1, 1), (2, 1), (3, 1), (4, 1), (5, 1), (6, 1)] (by kernel_rfl) (by kernel_rfl) Sb ?_
      repeat' (first | refine go ?_ | intro _ | (apply cG; first | refine cT ?_ | refine cF ?_ | refine cS (fun _ => ?_) fun _ => ?_) | (apply gW; refine sW ?_) | (apply gI; refine sI ?_) | (apply gE; refine sE ?_) | (apply gP; refine sP ?_) | (apply gC; refine sC ?_) | (apply gD; refine sD ?_) | fail)
      refine D_op rfl ?_; refine X_s (sv_idxA (len := 65) (e := 3) (size := 1) (off := 0) (o2 := i) (k := .i64) (i := (i : Int)) (by kernel_rfl) (fun w => by kernel_rfl) Ev.pf Ev.pf (by omega) (by omega) (by rw [Nat.zero_add, Nat.mul_one]; exact Int.toNat_natCast _)) ?_
      repeat' (first | refine go ?_ | intro _ | (apply cG; first | refine cT ?_ | refine cF ?_ | refine cS (fun _ => ?_) fun _ => ?_) | (apply gW; refine sW ?_) | (apply gI; refine sI ?_) | (apply gE; refine sE ?_) | (apply gP; refine sP ?_) | (apply gC; refine sC ?_) | (apply gD; refine sD ?_) | fail)
      rw [hst1]
      refine E_res1 (by rfl) (by rfl) ⟨rfl, An, cn, now, Ab, cb, Aq, bx.length, cq, Nat.le_refl _, by omega, List.take_length, rfl⟩ Sb
    rw [if_neg h2]
    obtain ⟨q, hq0⟩ : ∃ q, (match foldO (stepP t fuel ls (w + a.g) now bx) (choF a t) ⟨s.best, s.most, s.steps + 1⟩ with
      | some s' => enterP t fuel ls w (now ++ [-1]) bx s'
      | none => none) = q := ⟨_, rfl⟩
    rw [hq0]
    replace hq0 := Lib.hid hq0
    refine CT_enter Try.func40 rfl ?_; (simp only [Try.ntmps40, List.size_toArray, List.length_cons, List.length_nil, Nat.reduceAdd, Nat.reduceSub, Array.replicate_succ, Array.replicate_zero, List.push_toArray, List.append_toArray, List.nil_append, List.cons_append])
    repeat' (first | refine go ?_ | intro _ | (apply cG; first | refine cT ?_ | refine cF ?_ | refine cS (fun _ => ?_) fun _ => ?_) | (apply gW; refine sW ?_) | (apply gI; refine sI ?_) | (apply gE; refine sE ?_) | (apply gP; refine sP ?_) | (apply gC; refine sC ?_) | (apply gD; refine sD ?_) | fail)
    refine C_draw (n := 99) [cel bm [.int .i64 s.most] 3, cel br rs 74] [(0, 1), (1, 1), (2, 1), (3, 1), (4, 1), (5, 1), (6, 1)] (by kernel_rfl) (by kernel_rfl) Sb ?_
    repeat' (first | refine go ?_ | intro _ | (apply cG; first | refine cT ?_ | refine cF ?_ | refine cS (fun _ => ?_) fun _ => ?_) | (apply gW; refine sW ?_) | (apply gI; refine sI ?_) | (apply gE; refine sE ?_) | (apply gP; refine sP ?_) | (apply gC; refine sC ?_) | (apply gD; refine sD ?_) | fail)
    refine D_op rfl ?_; refine X_s (sv_idxA (len := 65) (e := 3) (size := 1) (off := 0) (o2 := i) (k := .i64) (i := (i : Int)) (by kernel_rfl) (fun w => by kernel_rfl) Ev.pf Ev.pf (by omega) (by omega) (by rw [Nat.zero_add, Nat.mul_one]; exact Int.toNat_natCast _)) ?_
    repeat' (first | refine go ?_ | intro _ | (apply cG; first | refine cT ?_ | refine cF ?_ | refine cS (fun _ => ?_) fun _ => ?_) | (apply gW; refine sW ?_) | (apply gI; refine sI ?_) | (apply gE; refine sE ?_) | (apply gP; refine sP ?_) | (apply gC; refine sC ?_) | (apply gD; refine sD ?_) | fail)
    have hmp : (l.map fun a => choF a t)[i]? = some (choF a t) := by rw [List.getElem?_map, hli]; rfl
    refine O_d (dy_loadS (R := eCH) (l := l.map fun a => choF a t) (el := choF a t) (A := Ap) (n := l.length) (c := cp)) ?_; rintro _ _ ⟨A7, c7, rfl, rfl⟩; refine O_n ?_
    repeat' (first | refine go ?_ | intro _ | (apply cG; first | refine cT ?_ | refine cF ?_ | refine cS (fun _ => ?_) fun _ => ?_) | (apply gW; refine sW ?_) | (apply gI; refine sI ?_) | (apply gE; refine sE ?_) | (apply gP; refine sP ?_) | (apply gC; refine sC ?_) | (apply gD; refine sD ?_) | fail)
    have hc4 := cho_len a t
    obtain ⟨r0, hr0⟩ : ∃ r0, foldO (stepP t fuel ls (w + a.g) now bx) (choF a t) ⟨s.best, s.most, s.steps + 1⟩ = r0 := ⟨_, rfl⟩
    rw [hr0] at hq0
    replace hr0 := Lib.hid hr0
    rw [hst1]
    refine C_loopS (κ := Nat × SrS × List Int × Option Addr × Nat × Option Addr × Nat × Option Addr × Nat × Nat) [false, false, false, false, false, false, false, false, false, false, false, false, false, false, true, false, false, true, false, false, false, false, false, false, false, false, false, false, false, false, false, false, false, false, false, false, false, false, false, false, false, false, false, false, false, false, true, true, true, true, true, true, true, true, true, true, true, true, true, true, true, true, true, true, true, true, true, true, true, true, true, true, true, true, true, true, true, true, true, true, true, true, true, true, false, false, false, false, false, false, false, false, false, false, false] (fun k => [(46, .int .i64 (k.1 : Int))]) (fun k => [(4, cel bm [.int .i64 k.2.1.most] 3), (5, cel bn [.slice k.2.2.2.1 k.2.2.1.length k.2.2.2.2.1] 22), (6, cel bb [.slice k.2.2.2.2.2.1 k.2.1.best.length k.2.2.2.2.2.2.1] 22), (7, cel bs [.int .i64 (k.2.1.steps : Int)] 3), (10, cel bq [.slice k.2.2.2.2.2.2.2.1 k.2.2.2.2.2.2.2.2.1 k.2.2.2.2.2.2.2.2.2] 42), (13, own 3 eI (.slice k.2.2.2.1 k.2.2.1.length k.2.2.2.2.1) k.2.2.1), (14, rd eI (.slice k.2.2.2.2.2.1 k.2.1.best.length k.2.2.2.2.2.2.1) k.2.1.best)]) (fun k => k.1 ≤ (choF a t).length ∧ foldO (stepP t fuel ls (w + a.g) now bx) ((choF a t).drop k.1) k.2.1 = r0 ∧ i ≤ k.2.2.1.length ∧ k.2.2.1.length ≤ l.length ∧ k.2.2.1.take i = now ∧ k.2.1.steps + (4 - k.1) * stepsB ls.length + stepsB ls.length ≤ 10000000) (fun k => (choF a t).length - k.1) (0, ⟨s.best, s.most, s.steps + 1⟩, now, An, cn, Ab, cb, Aq, bx.length, cq) ⟨Nat.zero_le _, hr0.out, by dsimp only; omega, by dsimp only; omega, by rw [← hn]; exact List.take_length, by dsimp only; omega⟩ ⟨rfl, trivial⟩ ?_
    rintro ⟨k, s2, nl, An2, cn2, Ab2, cb2, Aq2, nq2, cq2⟩ u ⟨hk, hfo, hnl1, hnl2, hnt, hst2⟩
    dsimp only at hk hfo hnl1 hnl2 hnt hst2
    dsimp only
    ((try dsimp only); refine C_n ?_; (try simp only [Nat.reduceAdd, Nat.zero_add]))
    by_cases hkl : k < (choF a t).length
    rotate_left
    · have hke : k = (choF a t).length := by omega
      rw [hke, List.drop_length] at hfo
      replace hfo : some s2 = r0 := hfo
      subst hfo
      replace hq0 : enterP t fuel ls w (now ++ [-1]) bx s2 = q := hq0.out
      have hnl1' : (now ++ [-1]).length = i + 1 := by rw [List.length_append, hn]; rfl
      have hi1 : (i : Int) + 1 = ((i + 1 : Nat) : Int) := by omega
      refine C_cap 13 fun hcap => ?_
      refine C_turn 13 (fun L => sub_ownCut (k := i) hnl1) ?_
      rw [hnt]
      repeat' (first | refine go ?_ | intro _ | (apply cG; first | refine cT ?_ | refine cF ?_ | refine cS (fun _ => ?_) fun _ => ?_) | (apply gW; refine sW ?_) | (apply gI; refine sI ?_) | (apply gE; refine sE ?_) | (apply gP; refine sP ?_) | (apply gC; refine sC ?_) | (apply gD; refine sD ?_) | fail)
      refine O_s (sv_sliceH (n := nl.length) (c := cn2) (h' := i)) ?_
      repeat' (first | refine go ?_ | intro _ | (apply cG; first | refine cT ?_ | refine cF ?_ | refine cS (fun _ => ?_) fun _ => ?_) | (apply gW; refine sW ?_) | (apply gI; refine sI ?_) | (apply gE; refine sE ?_) | (apply gP; refine sP ?_) | (apply gC; refine sC ?_) | (apply gD; refine sD ?_) | fail)
      refine O_d (dy_lit1 (R := eI) (-1 : Int) (hcs := by rfl) (hel := fun _ _ _ => by rfl)) ?_; rintro _ _ ⟨_, rfl, rfl⟩; refine O_n ?_
      repeat' (first | refine go ?_ | intro _ | (apply cG; first | refine cT ?_ | refine cF ?_ | refine cS (fun _ => ?_) fun _ => ?_) | (apply gW; refine sW ?_) | (apply gI; refine sI ?_) | (apply gE; refine sE ?_) | (apply gP; refine sP ?_) | (apply gC; refine sC ?_) | (apply gD; refine sD ?_) | fail)
      rename_i A8 c8
      rw [hn, hi1]
      refine O_sub (S := cel bl [.slice Al l.length cl] 27 :: cel bm [.int .i64 s2.most] 3 :: cel bn [.slice A8 (now ++ [-1]).length c8] 22 :: cel bb [.slice Ab2 s2.best.length cb2] 22 :: cel bs [.int .i64 (s2.steps : Int)] 3 :: cel bf [.int .i64 fuel] 3 :: cel br rs 74 :: cel bq [.slice Aq bx.length cq] 42 :: cel bp [.slice Ap l.length cp] 75 :: cel be [.func (.func 40) #[] #[.pointer (some ⟨bl, 0, none⟩), .pointer (some ⟨bm, 0, none⟩), .pointer (some ⟨bn, 0, none⟩), .pointer (some ⟨bb, 0, none⟩), .pointer (some ⟨bs, 0, none⟩), .pointer (some ⟨bf, 0, none⟩), .pointer (some ⟨br, 0, none⟩), .pointer (some ⟨bq, 0, none⟩), .pointer (some ⟨bp, 0, none⟩), .pointer (some ⟨be, 0, none⟩)]] 77 :: own 3 eI (.slice A8 (now ++ [-1]).length c8) (now ++ [-1]) :: rd eI (.slice Ab2 s2.best.length cb2) s2.best :: rd eBX (.slice Aq bx.length cq) bx :: rd eCH (.slice A7 (choF a t).length c7) (choF a t) :: rd (eSl eCH) (.slice Ap l.length cp) (l.map fun a => choF a t) :: rd eAK (.slice Al l.length cl) l :: L) (by rw [hnl1']; exact Sb) ?_
      refine O_d (dy_callv Ev.pf ArgsI.pf (by simp only [List.append_toArray, List.nil_append, List.append_nil, List.cons_append] <;> exact rfl) (by first | exact rfl | trivial | (intro a b; rfl)) (enter_ct hl hg hrs hf ls (i + 1) _ (by rw [← List.drop_drop, hd]; rfl) (by rw [List.length_cons] at hi; omega) (by repeat (first | exact .head _ | refine .tail _ ?_)) (by repeat (first | exact .head _ | refine .tail _ ?_)) w (now ++ [-1]) bx s2 A8 c8 Ab2 cb2 Aq cq hnl1' (by omega) hq hqc (by omega) (by omega) (by omega))) ?_; rintro _ L9 ⟨v9, hR, rfl⟩
      rw [hq0] at hR
      cases q with
      | none =>
        obtain ⟨rfl, rfl⟩ := hR
        refine O_n ?_
        repeat' (first | refine go ?_ | intro _ | (apply cG; first | refine cT ?_ | refine cF ?_ | refine cS (fun _ => ?_) fun _ => ?_) | (apply gW; refine sW ?_) | (apply gI; refine sI ?_) | (apply gE; refine sE ?_) | (apply gP; refine sP ?_) | (apply gC; refine sC ?_) | (apply gD; refine sD ?_) | fail)
        refine E_res1 (by rfl) (by rfl) ⟨rfl, rfl⟩ Sb
      | some s3 =>
        obtain ⟨rfl, An3, cn3, nl3, Ab3, cb3, Aq3, nq3, cq3, g1, g2, g3, rfl⟩ := hR
        rw [hnl1'] at g1 g3
        have g4 : nl3.take now.length = now := by
          have := congrArg (List.take i) g3
          rw [List.take_take, List.take_append_of_le_length (by omega), Nat.min_eq_left (by omega)] at this
          rw [hn, this, ← hn, List.take_length]
        refine O_n ?_
        repeat' (first | refine go ?_ | intro _ | (apply cG; first | refine cT ?_ | refine cF ?_ | refine cS (fun _ => ?_) fun _ => ?_) | (apply gW; refine sW ?_) | (apply gI; refine sI ?_) | (apply gE; refine sE ?_) | (apply gP; refine sP ?_) | (apply gC; refine sC ?_) | (apply gD; refine sD ?_) | fail)
        refine E_res1 (by rfl) (by rfl) ⟨rfl, An3, cn3, nl3, Ab3, cb3, Aq3, nq3, cq3, by omega, g2, g4, rfl⟩ Sb
    obtain ⟨c, hck⟩ : ∃ c, (choF a t)[k]? = some c := ⟨_, List.getElem?_eq_getElem hkl⟩
    have hac : At (choF a t) k c := ⟨hck⟩
    have hdr : (choF a t).drop k = c :: (choF a t).drop (k + 1) := by
      rw [List.drop_eq_getElem_cons hkl, (List.getElem?_eq_some_iff.1 hck).2]
    rw [hdr] at hfo
    unfold foldO at hfo
    obtain ⟨m, hm⟩ : ∃ m, 4 - k = m + 1 := ⟨4 - k - 1, by omega⟩
    have hm2 : 4 - (k + 1) = m := by omega
    rw [hm, Nat.succ_mul] at hst2
    have hfr : freeF c.2 bx = !bx.any (ovF c.2) := by
      unfold freeF
      rw [List.all_eq_not_any_not]
      simp only [Bool.not_not]
    repeat' (first | refine go ?_ | intro _ | (apply cG; first | refine cT ?_ | refine cF ?_ | refine cS (fun _ => ?_) fun _ => ?_) | (apply gW; refine sW ?_) | (apply gI; refine sI ?_) | (apply gE; refine sE ?_) | (apply gP; refine sP ?_) | (apply gC; refine sC ?_) | (apply gD; refine sD ?_) | fail)
    refine O_d (dy_call ArgsI.pf (by first | exact rfl | trivial | (intro a b; rfl)) (overlaps_ct (a := c.2) (l := bx) (by repeat (first | exact .head _ | refine .tail _ ?_)) (by omega))) ?_; rintro _ _ ⟨_, ⟨rfl, hLL⟩, rfl⟩; replace hLL := hLL.symm; subst hLL; refine O_n ?_
    rename_i p17
    by_cases hfc : freeF c.2 bx = true
    rotate_left
    · have ho : bx.any (ovF c.2) = true := by
        rw [hfr] at hfc
        simpa using hfc
      have hsp : stepP t fuel ls (w + a.g) now bx s2 c = some s2 := if_neg hfc
      rw [hsp] at hfo
      rw [ho]
      repeat' (first | refine go ?_ | intro _ | (apply cG; first | refine cT ?_ | refine cF ?_ | refine cS (fun _ => ?_) fun _ => ?_) | (apply gW; refine sW ?_) | (apply gI; refine sI ?_) | (apply gE; refine sE ?_) | (apply gP; refine sP ?_) | (apply gC; refine sC ?_) | (apply gD; refine sD ?_) | fail)
      exact E_round (k + 1, s2, nl, An2, cn2, Ab2, cb2, Aq2, nq2, cq2) ⟨hkl, hfo, hnl1, hnl2, hnt, by dsimp only; rw [hm2]; omega⟩ (by dsimp only; omega) ⟨rfl, trivial⟩ Sb
    have ho : bx.any (ovF c.2) = false := by
      rw [hfr] at hfc
      simpa using hfc
    have hsp : stepP t fuel ls (w + a.g) now bx s2 c = enterP t fuel ls (w + a.g) (now ++ [c.1]) (bx ++ [c.2]) s2 := if_pos hfc
    rw [hsp] at hfo
    rw [ho]
    repeat' (first | refine go ?_ | intro _ | (apply cG; first | refine cT ?_ | refine cF ?_ | refine cS (fun _ => ?_) fun _ => ?_) | (apply gW; refine sW ?_) | (apply gI; refine sI ?_) | (apply gE; refine sE ?_) | (apply gP; refine sP ?_) | (apply gC; refine sC ?_) | (apply gD; refine sD ?_) | fail)
    refine C_cap 14 fun hcap => ?_
    refine C_turn 14 (fun L => sub_ownCut (k := i) hnl1) ?_
    rw [hnt]
    refine C_joinL (κ := Option Addr × Nat × Option Addr × Nat) (fun k => own 32 eBX (.slice k.2.2.1 (bx.length + 1) k.2.2.2) (bx ++ [c.2]) :: cel p17 [.int .i64 c.1, .int .i64 c.2.x0, .int .i64 c.2.y0, .int .i64 c.2.x1, .int .i64 c.2.y1] 81 :: rd eCH (.slice A7 (choF a t).length c7) (choF a t) :: rd (eSl eCH) (.slice Ap l.length cp) (l.map fun a => choF a t) :: rd eAK (.slice Al l.length cl) l :: cel bl [.slice Al l.length cl] 27 :: cel bm [.int .i64 s2.most] 3 :: cel bn [.slice k.1 (i + 1) k.2.1] 22 :: cel bb [.slice Ab2 s2.best.length cb2] 22 :: cel bs [.int .i64 (s2.steps : Int)] 3 :: cel bf [.int .i64 fuel] 3 :: cel br rs 74 :: cel bq [.slice k.2.2.1 (bx.length + 1) k.2.2.2] 42 :: cel bp [.slice Ap l.length cp] 75 :: cel be [.func (.func 40) #[] #[.pointer (some ⟨bl, 0, none⟩), .pointer (some ⟨bm, 0, none⟩), .pointer (some ⟨bn, 0, none⟩), .pointer (some ⟨bb, 0, none⟩), .pointer (some ⟨bs, 0, none⟩), .pointer (some ⟨bf, 0, none⟩), .pointer (some ⟨br, 0, none⟩), .pointer (some ⟨bq, 0, none⟩), .pointer (some ⟨bp, 0, none⟩), .pointer (some ⟨be, 0, none⟩)]] 77 :: own 3 eI (.slice k.1 (i + 1) k.2.1) (now ++ [c.1]) :: rd eI (.slice Ab2 s2.best.length cb2) s2.best :: rd eBX (.slice Aq bx.length cq) bx :: L) [false, false, false, false, false, false, false, false, false, false, false, false, false, false, false, false, false, false, false, false, false, false, false, false, false, false, false, false, false, false, false, false, false, false, false, false, false, false, false, false, false, false, false, false, false, false, false, false, false, false, false, false, false, false, true, true, true, true, true, true, true, true, true, true, true, true, true, true, true, true, true, false, false, false, false, false, false, false, false, false, false, false, false, false, false, false, false, false, false, false, false, false, false, false, false] (fun k => []) (fun _ => True) ?_ ?_
    · refine C_drawU (n := 17) [cel p17 [.int .i64 c.1, .int .i64 c.2.x0, .int .i64 c.2.y0, .int .i64 c.2.x1, .int .i64 c.2.y1] 81, cel bn [.slice An2 nl.length cn2] 22] (.two [(0, 1), (1, 1), (2, 1), (3, 1), (4, 1), (7, 1), (8, 1), (9, 1), (10, 1), (11, 1), (12, 1), (13, 1), (14, 1)] 5 (.two [] 6 (.leaf [(15, 0), (16, 0), (17, 0), (18, 0)]) 15 (.leaf [(6, 0), (16, 0), (17, 0), (18, 0)])) 15 (.leaf [(5, 0), (6, 0), (16, 0), (17, 0), (18, 0)])) (by kernel_rfl) (by kernel_rfl) Sb ?_
      refine DT_two ?_
      repeat' (first | refine go ?_ | intro _ | (apply cG; first | refine cT ?_ | refine cF ?_ | refine cS (fun _ => ?_) fun _ => ?_) | (apply gW; refine sW ?_) | (apply gI; refine sI ?_) | (apply gE; refine sE ?_) | (apply gP; refine sP ?_) | (apply gC; refine sC ?_) | (apply gD; refine sD ?_) | fail)
      refine D_op rfl ?_; refine X_s (sv_sliceH (n := nl.length) (c := cn2) (h' := i)) ?_
      repeat' (first | refine go ?_ | intro _ | (apply cG; first | refine cT ?_ | refine cF ?_ | refine cS (fun _ => ?_) fun _ => ?_) | (apply gW; refine sW ?_) | (apply gI; refine sI ?_) | (apply gE; refine sE ?_) | (apply gP; refine sP ?_) | (apply gC; refine sC ?_) | (apply gD; refine sD ?_) | fail)
      refine D_op rfl ?_; refine X_s (sv_sliceN3 (n := bx.length) (c := cq) (h' := bx.length) (m' := bx.length) (h3 := hqc)) ?_
      repeat' (first | refine go ?_ | intro _ | (apply cG; first | refine cT ?_ | refine cF ?_ | refine cS (fun _ => ?_) fun _ => ?_) | (apply gW; refine sW ?_) | (apply gI; refine sI ?_) | (apply gE; refine sE ?_) | (apply gP; refine sP ?_) | (apply gC; refine sC ?_) | (apply gD; refine sD ?_) | fail)
      refine E_two ?_ ?_
      · refine D_d rfl (dy_lit1 (R := eI) c.1 (hcs := by rfl) (hel := fun _ _ _ => by rfl)) ?_; rintro _ _ ⟨_, rfl, rfl⟩; refine ⟨(by first | exact .inl rfl | exact .inr Sb), D_n ?_⟩
        repeat' (first | refine go ?_ | intro _ | (apply cG; first | refine cT ?_ | refine cF ?_ | refine cS (fun _ => ?_) fun _ => ?_) | (apply gW; refine sW ?_) | (apply gI; refine sI ?_) | (apply gE; refine sE ?_) | (apply gP; refine sP ?_) | (apply gC; refine sC ?_) | (apply gD; refine sD ?_) | fail)
        refine E_way (DT_two ?_)
        repeat' (first | refine go ?_ | intro _ | (apply cG; first | refine cT ?_ | refine cF ?_ | refine cS (fun _ => ?_) fun _ => ?_) | (apply gW; refine sW ?_) | (apply gI; refine sI ?_) | (apply gE; refine sE ?_) | (apply gP; refine sP ?_) | (apply gC; refine sC ?_) | (apply gD; refine sD ?_) | fail)
        refine E_two ?_ ?_
        · repeat' (first | refine go ?_ | intro _ | (apply cG; first | refine cT ?_ | refine cF ?_ | refine cS (fun _ => ?_) fun _ => ?_) | (apply gW; refine sW ?_) | (apply gI; refine sI ?_) | (apply gE; refine sE ?_) | (apply gP; refine sP ?_) | (apply gC; refine sC ?_) | (apply gD; refine sD ?_) | fail)
          rename_i A8 c8
          rw [hn]
          refine E_way (DT_leaf ?_)
          refine D_d rfl (dy_lit1 (R := eBX) c.2 (hcs := by rfl) (hel := fun _ _ _ => by rfl)) ?_; rintro _ _ ⟨_, rfl, rfl⟩; refine ⟨(by first | exact .inl rfl | exact .inr Sb), D_n ?_⟩
          refine D_op rfl ?_; refine X_d (dy_appC (A := Aq) (n := bx.length) (c0 := cq) (R := eBX) (l := bx) (l2 := [c.2]) (.inl (by repeat (first | exact .head _ | refine .tail _ ?_))) rfl hq) ?_; rintro _ _ ⟨A9, c9, rfl, rfl⟩; refine ⟨(by first | exact .inl rfl | exact .inr Sb), D_n ?_⟩
          repeat' (first | refine go ?_ | intro _ | (apply cG; first | refine cT ?_ | refine cF ?_ | refine cS (fun _ => ?_) fun _ => ?_) | (apply gW; refine sW ?_) | (apply gI; refine sI ?_) | (apply gE; refine sE ?_) | (apply gP; refine sP ?_) | (apply gC; refine sC ?_) | (apply gD; refine sD ?_) | fail)
          exact E_join (A8, c8, A9, c9) trivial trivial
        · refine D_d rfl (dy_lit1 (R := eBX) c.2 (hcs := by rfl) (hel := fun _ _ _ => by rfl)) ?_; rintro _ _ ⟨_, rfl, rfl⟩; refine ⟨(by first | exact .inl rfl | exact .inr Sb), D_n ?_⟩
          repeat' (first | refine go ?_ | intro _ | (apply cG; first | refine cT ?_ | refine cF ?_ | refine cS (fun _ => ?_) fun _ => ?_) | (apply gW; refine sW ?_) | (apply gI; refine sI ?_) | (apply gE; refine sE ?_) | (apply gP; refine sP ?_) | (apply gC; refine sC ?_) | (apply gD; refine sD ?_) | fail)
          refine E_way (DT_leaf ?_)
          repeat' (first | refine go ?_ | intro _ | (apply cG; first | refine cT ?_ | refine cF ?_ | refine cS (fun _ => ?_) fun _ => ?_) | (apply gW; refine sW ?_) | (apply gI; refine sI ?_) | (apply gE; refine sE ?_) | (apply gP; refine sP ?_) | (apply gC; refine sC ?_) | (apply gD; refine sD ?_) | fail)
          rename_i A8 c8
          rw [hn]
          refine D_op rfl ?_; refine X_d (dy_appC (A := Aq) (n := bx.length) (c0 := cq) (R := eBX) (l := bx) (l2 := [c.2]) (.inl (by repeat (first | exact .head _ | refine .tail _ ?_))) rfl hq) ?_; rintro _ _ ⟨A9, c9, rfl, rfl⟩; refine ⟨(by first | exact .inl rfl | exact .inr Sb), D_n ?_⟩
          repeat' (first | refine go ?_ | intro _ | (apply cG; first | refine cT ?_ | refine cF ?_ | refine cS (fun _ => ?_) fun _ => ?_) | (apply gW; refine sW ?_) | (apply gI; refine sI ?_) | (apply gE; refine sE ?_) | (apply gP; refine sP ?_) | (apply gC; refine sC ?_) | (apply gD; refine sD ?_) | fail)
          exact E_join (A8, c8, A9, c9) trivial trivial
      · refine D_d rfl (dy_lit1 (R := eBX) c.2 (hcs := by rfl) (hel := fun _ _ _ => by rfl)) ?_; rintro _ _ ⟨_, rfl, rfl⟩; refine ⟨(by first | exact .inl rfl | exact .inr Sb), D_n ?_⟩
        repeat' (first | refine go ?_ | intro _ | (apply cG; first | refine cT ?_ | refine cF ?_ | refine cS (fun _ => ?_) fun _ => ?_) | (apply gW; refine sW ?_) | (apply gI; refine sI ?_) | (apply gE; refine sE ?_) | (apply gP; refine sP ?_) | (apply gC; refine sC ?_) | (apply gD; refine sD ?_) | fail)
        refine E_way (DT_leaf ?_)
        refine D_d rfl (dy_lit1 (R := eI) c.1 (hcs := by rfl) (hel := fun _ _ _ => by rfl)) ?_; rintro _ _ ⟨_, rfl, rfl⟩; refine ⟨(by first | exact .inl rfl | exact .inr Sb), D_n ?_⟩
        repeat' (first | refine go ?_ | intro _ | (apply cG; first | refine cT ?_ | refine cF ?_ | refine cS (fun _ => ?_) fun _ => ?_) | (apply gW; refine sW ?_) | (apply gI; refine sI ?_) | (apply gE; refine sE ?_) | (apply gP; refine sP ?_) | (apply gC; refine sC ?_) | (apply gD; refine sD ?_) | fail)
        rename_i A8 c8
        rw [hn]
        refine D_op rfl ?_; refine X_d (dy_appC (A := Aq) (n := bx.length) (c0 := cq) (R := eBX) (l := bx) (l2 := [c.2]) (.inl (by repeat (first | exact .head _ | refine .tail _ ?_))) rfl hq) ?_; rintro _ _ ⟨A9, c9, rfl, rfl⟩; refine ⟨(by first | exact .inl rfl | exact .inr Sb), D_n ?_⟩
        repeat' (first | refine go ?_ | intro _ | (apply cG; first | refine cT ?_ | refine cF ?_ | refine cS (fun _ => ?_) fun _ => ?_) | (apply gW; refine sW ?_) | (apply gI; refine sI ?_) | (apply gE; refine sE ?_) | (apply gP; refine sP ?_) | (apply gC; refine sC ?_) | (apply gD; refine sD ?_) | fail)
        exact E_join (A8, c8, A9, c9) trivial trivial
    rintro ⟨A8, c8, A9, c9⟩ u3 _
    ((try dsimp only); refine C_n ?_; (try simp only [Nat.reduceAdd, Nat.zero_add]))
    refine C_frz 0 ?_
    have hnl1' : (now ++ [c.1]).length = i + 1 := by rw [List.length_append, hn]; rfl
    have hbl1' : (bx ++ [c.2]).length = bx.length + 1 := by rw [List.length_append]; rfl
    have hi1 : (i : Int) + 1 = ((i + 1 : Nat) : Int) := by omega
    refine C_cap9 0 fun hcap9 => ?_
    refine C_sub (S := cel bl [.slice Al l.length cl] 27 :: cel bm [.int .i64 s2.most] 3 :: cel bn [.slice A8 (now ++ [c.1]).length c8] 22 :: cel bb [.slice Ab2 s2.best.length cb2] 22 :: cel bs [.int .i64 (s2.steps : Int)] 3 :: cel bf [.int .i64 fuel] 3 :: cel br rs 74 :: cel bq [.slice A9 (bx ++ [c.2]).length c9] 42 :: cel bp [.slice Ap l.length cp] 75 :: cel be [.func (.func 40) #[] #[.pointer (some ⟨bl, 0, none⟩), .pointer (some ⟨bm, 0, none⟩), .pointer (some ⟨bn, 0, none⟩), .pointer (some ⟨bb, 0, none⟩), .pointer (some ⟨bs, 0, none⟩), .pointer (some ⟨bf, 0, none⟩), .pointer (some ⟨br, 0, none⟩), .pointer (some ⟨bq, 0, none⟩), .pointer (some ⟨bp, 0, none⟩), .pointer (some ⟨be, 0, none⟩)]] 77 :: own 3 eI (.slice A8 (now ++ [c.1]).length c8) (now ++ [c.1]) :: rd eI (.slice Ab2 s2.best.length cb2) s2.best :: rd eBX (.slice A9 (bx ++ [c.2]).length c9) (bx ++ [c.2]) :: cel p17 [.int .i64 c.1, .int .i64 c.2.x0, .int .i64 c.2.y0, .int .i64 c.2.x1, .int .i64 c.2.y1] 81 :: rd eCH (.slice A7 (choF a t).length c7) (choF a t) :: rd (eSl eCH) (.slice Ap l.length cp) (l.map fun a => choF a t) :: rd eAK (.slice Al l.length cl) l :: rd eBX (.slice Aq bx.length cq) bx :: L) (by rw [hnl1', hbl1']; exact Sb) ?_
    refine go ?_
    refine C_draw (n := 10) [cel be [.func (.func 40) #[] #[.pointer (some ⟨bl, 0, none⟩), .pointer (some ⟨bm, 0, none⟩), .pointer (some ⟨bn, 0, none⟩), .pointer (some ⟨bb, 0, none⟩), .pointer (some ⟨bs, 0, none⟩), .pointer (some ⟨bf, 0, none⟩), .pointer (some ⟨br, 0, none⟩), .pointer (some ⟨bq, 0, none⟩), .pointer (some ⟨bp, 0, none⟩), .pointer (some ⟨be, 0, none⟩)]] 77, cel bl [.slice Al l.length cl] 27, rd eAK (.slice Al l.length cl) l] [(0, 1), (1, 1), (2, 1), (3, 1), (4, 1), (5, 1), (6, 1), (7, 1), (8, 1), (9, 1), (10, 0), (11, 2)] (by kernel_rfl) (by kernel_rfl) Sb ?_
    repeat' (first | refine go ?_ | intro _ | (apply cG; first | refine cT ?_ | refine cF ?_ | refine cS (fun _ => ?_) fun _ => ?_) | (apply gW; refine sW ?_) | (apply gI; refine sI ?_) | (apply gE; refine sE ?_) | (apply gP; refine sP ?_) | (apply gC; refine sC ?_) | (apply gD; refine sD ?_) | fail)
    rw [hi1]
    refine D_op rfl ?_; refine X_d (dy_callv Ev.pf ArgsI.pf (by simp only [List.append_toArray, List.nil_append, List.append_nil, List.cons_append] <;> exact rfl) (by first | exact rfl | trivial | (intro a b; rfl)) (enter_ct hl hg hrs hf ls (i + 1) _ (by rw [← List.drop_drop, hd]; rfl) (by rw [List.length_cons] at hi; omega) (by repeat (first | exact .head _ | refine .tail _ ?_)) (by repeat (first | exact .head _ | refine .tail _ ?_)) (w + a.g) (now ++ [c.1]) (bx ++ [c.2]) s2 A8 c8 Ab2 cb2 A9 c9 hnl1' (by rw [hbl1']; omega) (by simp) (by rw [hbl1']; exact hcap9) (by omega) (by omega) (by omega))) ?_; rintro _ L9 ⟨v9, hR, rfl⟩
    cases hq1 : enterP t fuel ls (w + a.g) (now ++ [c.1]) (bx ++ [c.2]) s2 with
    | none =>
      rw [hq1] at hR hfo
      obtain ⟨rfl, rfl⟩ := hR
      replace hfo : none = r0 := hfo
      subst hfo
      replace hq0 : none = q := hq0.out
      subst hq0
      refine ⟨(by first | exact .inl rfl | exact .inr Sb), D_n ?_⟩
      repeat' (first | refine go ?_ | intro _ | (apply cG; first | refine cT ?_ | refine cF ?_ | refine cS (fun _ => ?_) fun _ => ?_) | (apply gW; refine sW ?_) | (apply gI; refine sI ?_) | (apply gE; refine sE ?_) | (apply gP; refine sP ?_) | (apply gC; refine sC ?_) | (apply gD; refine sD ?_) | fail)
      refine E_res1 (by rfl) (by rfl) ⟨rfl, rfl⟩ Sb
    | some s3 =>
      rw [hq1] at hR hfo
      obtain ⟨rfl, An3, cn3, nl3, Ab3, cb3, Aq3, nq3, cq3, g1, g2, g3, rfl⟩ := hR
      rw [hnl1'] at g1 g3
      have hs3 := enterP_steps _ _ _ _ _ _ hq1
      have g4 : nl3.take i = now := by
        have := congrArg (List.take i) g3
        rw [List.take_take, List.take_append_of_le_length (by omega), Nat.min_eq_left (by omega)] at this
        rw [this, ← hn, List.take_length]
      refine ⟨(by first | exact .inl rfl | exact .inr Sb), D_n ?_⟩
      repeat' (first | refine go ?_ | intro _ | (apply cG; first | refine cT ?_ | refine cF ?_ | refine cS (fun _ => ?_) fun _ => ?_) | (apply gW; refine sW ?_) | (apply gI; refine sI ?_) | (apply gE; refine sE ?_) | (apply gP; refine sP ?_) | (apply gC; refine sC ?_) | (apply gD; refine sD ?_) | fail)
      exact E_round (k + 1, s3, nl3, An3, cn3, Ab3, cb3, Aq3, nq3, cq3) ⟨hkl, hfo, by dsimp only; omega, g2, g4, by dsimp only; rw [hm2]; omega⟩ (by dsimp only; omega) ⟨rfl, trivial⟩ Sb
end
end
end Go.Proofs.Yteeapkfakehocaa
