/-
  Walks of the small functions of the reference 01.
-/
import Derived.Test.YtbjaecofccpahaaTz
import Derived.Test.YtbjaecofccpahaaHp
import Derived.Outline
import Derived.Lib.Hide
import Derived.Deep.QuietTactic
import Derived.BigQuiet
namespace Go.Proofs.Ytbjaecofccpahaa
open Go Go.RowKit
set_option linter.unusedVariables false
set_option linter.unusedSimpArgs false
set_option maxRecDepth 20000
set_option synthInstance.maxSize 100000
set_option synthInstance.maxHeartbeats 400000
theorem CT.pull {P : Program} {W0 : World} {L : List HP} {f : FuncId} {args : Array Value} {A : HP} {i : Nat} {Le : List HP} {R : Value → List HP → Prop} (hi : L[i]? = some A) (h : CT P f args W0 (A :: Le) R) (he : L.eraseIdx i = Le := by exact EAt.pf) : CT P f args W0 L R := by subst he; exact CT.at_ hi h
theorem dy_litP {P : Program} {W0 : World} {L : List HP} {a : Act} {d : Option Tmp} {ty : TypeId} {pos : String} {aft : Array Edge} {gd : Option (Nat × Bool)} {t : TypeId} {n : Nat} {ps : List (Nat × Operand)} {vs : List (Nat × Value)} {e : TypeId} {zv : Value} {by_ : Nat} [ut : UL P t (.slice e)] [ti : TI P e zv 1 by_] [hps : PartsI a ps vs] {α : Type} {f : α → Value} {hf : ∀ a, (f a).oneCell' = true} (els : List α)
    (hp : vs = ((els.map f).zipIdx 0).map fun x => (x.2, x.1)) (hn : els.length = n := by rfl) (hpos : 0 < n := by decide) (hsm : n ≤ 16777216 := by decide) :
    DY P W0 L ⟨d, .buildSlice t n ps.toArray, ty, pos, aft, gd⟩ a fun a' L' => ∃ g, a.put d (.slice (some ⟨g, 0, none⟩) n n) = a' ∧ L' = own e (e1 f hf) (.slice (some ⟨g, 0, none⟩) n n) els :: L :=
  dy_litN els hn hpos hsm (by have := hps.pf; rw [List.map_toArray]; simp only; rw [← hp, ← this])
theorem Around_any (n most : Int) (w : World) (h1 : -9223372036854775808 ≤ n) (h2 : n ≤ 9223372036854775807) (h3 : 1 ≤ most) (h4 : most ≤ 9223372036854775807) :
    Calls Try.prog 13 #[iv n, iv most] w fun e w' => e = .returned (iv (around n most)) ∧ w = w' := by
  have hm : (most == 0) = false := by simp; omega
  by_cases hn : n < 0
  · go_enter Try.func13, Try.ntmps13
    go_wp2
    go_ret
    refine ⟨?_, rfl⟩
    have e : -((n + 1).tmod most) = (-(n + 1)) % most := by rw [← Int.neg_tmod]; exact Int.tmod_eq_emod_of_nonneg (by omega)
    have e2 : around n most = (-(n + 1)) % most := by unfold around; rw [if_pos hn]
    rw [e2]
    first | rfl | exact congrArg (fun x => Ending.returned (iv x)) e
  · go_enter Try.func13, Try.ntmps13
    go_wp2
    go_ret
    refine ⟨?_, rfl⟩
    have e2 : around n most = n % most := by unfold around; rw [if_neg (by omega)]
    rw [e2]
    rfl
theorem Few_src {W0 w : World} {L : List HP} (hS : St W0 w L) {v : Value} {l : List UInt8} (hv : Src L eB v l) (hl : l.length ≤ 1000000) (most : Int) (hm : l.length ≤ most) :
    Calls Try.prog 20 #[v, iv most] w fun e w' => ∃ r, e = .returned r ∧ St W0 w' (own 5 eB r l :: L) := by
  obtain ⟨A, cap, rfl, hcap⟩ := (hv.sl hS).form
  replace hS := hS.own_nil 5 eB
  go_enter Try.func20, Try.ntmps20
  go_wp2_with ((with_reducible refine g_append ?_); refine L_append hS (by rfl) (by conv => lhs; whnf) (by conv => lhs; whnf) (by with_reducible first | exact at0 | exact at1 | exact at2 | exact at3 | exact at4 | exact at5 | exact at6 | exact at7 | exact at8 | exact at9 | exact at10 | exact at11 | exact at12) (by simp only [List.eraseIdx_cons_zero, List.eraseIdx_cons_succ]; exact hv) (by rfl) (by decide) (by rfl) (by (try simp); omega) ?_; clear hS; intro A c w' hS; (try simp only [List.set_cons_zero, List.set_cons_succ] at hS))
  go_ret
  refine ⟨_, rfl, ?_⟩
  first | exact hS | simpa using hS | simpa using hS.drop | simpa using hS.drop.drop | simpa using hS.drop.drop.drop
theorem Few_any {W0 w : World} {L : List HP} (hS : St W0 w L) {v : Value} {l : List UInt8} (hv : rd eB v l ∈ L) (hl : l.length ≤ 9223372036854775807) (most : Int) (hm : 0 ≤ most) (hm2 : most ≤ 1000000) :
    Calls Try.prog 20 #[v, iv most] w fun e w' => ∃ r, e = .returned r ∧ St W0 w' (own 5 eB r (l.take most.toNat) :: L) := by
  by_cases hc : most < l.length
  · obtain ⟨A, cap, rfl, hcap⟩ := (hS.rd hv).form
    replace hS := hS.own_nil 5 eB
    go_enter Try.func20, Try.ntmps20
    go_wp2_with (first | ((with_reducible refine g_slice ?_); refine L_slice hS (by rfl) (by rfl) (by first | exact .inl ⟨rfl, rfl⟩ | exact .inr ⟨_, rfl⟩) (by first | exact .inl ⟨rfl, rfl⟩ | exact .inr ⟨_, rfl⟩) (by first | exact hv | exact .tail _ hv | exact .tail _ (.tail _ hv)) (by rfl) (by omega) (by omega) (by omega) ?_; clear hS; intro A' c' hS) | ((with_reducible refine g_append ?_); refine L_append hS (by rfl) (by conv => lhs; whnf) (by conv => lhs; whnf) (by with_reducible first | exact at0 | exact at1 | exact at2 | exact at3 | exact at4 | exact at5 | exact at6 | exact at7 | exact at8 | exact at9 | exact at10 | exact at11 | exact at12) (by simp only [List.eraseIdx_cons_zero, List.eraseIdx_cons_succ]; exact .inl (.head _)) (by rfl) (by decide) (by rfl) (by (try simp); omega) ?_; clear hS; intro A c w' hS; (try simp only [List.set_cons_zero, List.set_cons_succ] at hS)))
    go_ret
    refine ⟨_, rfl, ?_⟩
    first | exact hS | simpa using hS | simpa using hS.drop | simpa using hS.drop.drop | simpa using hS.drop.drop.drop
  · have e : l.take most.toNat = l := List.take_of_length_le (by omega)
    rw [e]
    exact Few_src hS (.inl hv) (by omega) most (by omega)
theorem SameBytes_any {W0 w : World} {L : List HP} (hS : St W0 w L) {va vb : Value} {la lb : List UInt8} (ha : Src L eB va la) (hb : Src L eB vb lb) (hla : la.length ≤ 140737488355328) (hlb : lb.length ≤ 140737488355328) :
    Calls Try.prog 21 #[va, vb] w fun e w' => e = .returned (.bool (decide (la = lb))) ∧ St W0 w' L := by
  obtain ⟨A, ca, rfl, hca⟩ := (ha.sl hS).form
  obtain ⟨B, cb, rfl, hcb⟩ := (hb.sl hS).form
  by_cases hlen : la.length = lb.length
  · have hl2 := Lib.hid hlen
    have hle : lb.length ≤ la.length := by omega
    have hge : la.length ≤ lb.length := by omega
    have hne : ((la.length : Int) != (lb.length : Int)) = false := by simp [hlen]
    clear hlen
    go_enter Try.func21, Try.ntmps21
    go_wp2
    go_loopw [5] (fun i wr => Hid (∃ k : Nat, k ≤ la.length ∧ i = .int .i64 k ∧ la.take k = lb.take k ∧ St W0 wr L)) (fun i _ => la.length - (intOf i).toNat)
    case atStart => exact Lib.hid ⟨0, by omega, rfl, rfl, hS⟩
    case round =>
      clear hS
      obtain ⟨k, hk, rfl, he, hS⟩ := hrel.out
      clear hrel
      have he := Lib.hid he
      by_cases hlt : k < la.length
      · obtain ⟨b1, o1, x, hx, c1, rfl⟩ := (ha.sl hS).cell1 hlt
        obtain ⟨b2, o2, y, hy, c2, rfl⟩ := (hb.sl hS).cell1 (i := k) (by omega)
        have hx := Lib.hid hx
        have hy := Lib.hid hy
        by_cases hxy : x = y
        · have hxy' : ((x.toNat : Int) != (y.toNat : Int)) = false := by simp [hxy]
          have hxy := Lib.hid hxy
          go_wp2_with fail
          go_quiet (fail)
          go_wp2_with fail
          go_roundw
          case rel =>
            refine Lib.hid ⟨k + 1, by omega, by go_num, ?_, hS.drewN _⟩
            rw [List.take_add_one, List.take_add_one, he.out, hx.out, hy.out, hxy.out]
          case measure => simp [intOf]; omega
        · have hxy' : ((x.toNat : Int) != (y.toNat : Int)) = true := by
            simp only [bne_iff_ne, ne_eq]
            intro e
            exact hxy (by first | exact e | exact UInt8.toNat_inj.1 (by omega))
          go_wp2_with fail
          go_quiet (fail)
          go_wp2_with fail
          go_ret
          refine ⟨?_, hS.drewN _⟩
          have hd : decide (la = lb) = false := by
            simp only [decide_eq_false_iff_not]
            intro e
            subst e
            have h1 := hx.out
            rw [hy.out] at h1
            exact hxy (Option.some.inj h1).symm
          rw [hd]
          rfl
      · obtain rfl : k = la.length := by omega
        go_wp2_with fail
        go_ret
        refine ⟨?_, hS⟩
        have hd : decide (la = lb) = true := by
          simp only [decide_eq_true_eq]
          have h1 := he.out
          rw [List.take_length, hl2.out, List.take_length] at h1
          exact h1
        rw [hd]
        rfl
  · have hne : ((la.length : Int) != (lb.length : Int)) = true := by simp; omega
    go_enter Try.func21, Try.ntmps21
    go_wp2_with fail
    go_ret
    refine ⟨?_, hS⟩
    have hd : decide (la = lb) = false := by
      simp only [decide_eq_false_iff_not]
      intro e
      exact hlen (by rw [e])
    rw [hd]
    rfl
section
variable {W0 : World} {L : List HP}
theorem Around_ct {n most : Int} (h1 : -9223372036854775808 ≤ n) (h2 : n ≤ 9223372036854775807) (h3 : 1 ≤ most) (h4 : most ≤ 9223372036854775807) :
    CT Try.prog 13 #[.int .i64 n, .int .i64 most] W0 L fun r L' => r = .int .i64 (around n most) ∧ L' = L :=
  ⟨fun w s => (Around_any n most w h1 h2 h3 h4).mono fun e w' ⟨h, hw⟩ => ⟨_, _, h, ⟨rfl, rfl⟩, hw ▸ s⟩⟩
theorem around_in {n most : Int} (h3 : 1 ≤ most) : 0 ≤ around n most ∧ around n most < most := by
  unfold around
  split <;> exact ⟨Int.emod_nonneg _ (by omega), Int.emod_lt_of_pos _ (by omega)⟩
theorem Few_ct {v : Value} {l : List UInt8} (hv : rd eB v l ∈ L) (hl : l.length ≤ 9223372036854775807) {most : Int} (hm : 0 ≤ most) (hm2 : most ≤ 1000000) :
    CT Try.prog 20 #[v, .int .i64 most] W0 L fun r L' => ∃ A c, r = .slice A (l.take most.toNat).length c ∧ L' = own 5 eB (.slice A (l.take most.toNat).length c) (l.take most.toNat) :: L :=
  ⟨fun w s => (Few_any s hv hl most hm hm2).mono fun e w' ⟨r, he, hs⟩ => by
    obtain ⟨A, c, rfl, _⟩ := (hs.rdo (.head _)).form
    exact ⟨_, _, he, ⟨A, c, rfl, rfl⟩, hs⟩⟩
theorem Few_all {v : Value} {l : List UInt8} (hv : Src L eB v l) (hl : l.length ≤ 1000000) {most : Int} (hm : l.length ≤ most) :
    CT Try.prog 20 #[v, .int .i64 most] W0 L fun r L' => ∃ A c, r = .slice A l.length c ∧ L' = own 5 eB (.slice A l.length c) l :: L :=
  ⟨fun w s => (Few_src s hv hl most hm).mono fun e w' ⟨r, he, hs⟩ => by
    obtain ⟨A, c, rfl, _⟩ := (hs.rdo (.head _)).form
    exact ⟨_, _, he, ⟨A, c, rfl, rfl⟩, hs⟩⟩
theorem SameBytes_ct {va vb : Value} {la lb : List UInt8} {q : Bool} (ha : Src L eB va la) (hb : Src L eB vb lb) (hla : la.length ≤ 140737488355328) (hlb : lb.length ≤ 140737488355328) (hq : decide (la = lb) = q) :
    CT Try.prog 21 #[va, vb] W0 L fun r L' => r = .bool q ∧ L' = L :=
  ⟨fun w s => (SameBytes_any s ha hb hla hlb).mono fun e w' ⟨h, hs⟩ => ⟨_, _, h, ⟨by rw [hq], rfl⟩, hs⟩⟩
end
end Go.Proofs.Ytbjaecofccpahaa
