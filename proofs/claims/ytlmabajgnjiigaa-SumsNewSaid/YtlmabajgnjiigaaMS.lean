/-
  slices.Sort of integers, by the shelf's contract.
-/
import Derived.Shelf.SortM.Plain
import Derived.Shelf.SortM.SortNone
import Derived.Ground.SlgmProg
import Derived.Test.YtlmabajgnjiigaaMR
import Derived.Test.YtlmabajgnjiigaaMO
namespace Go.Proofs
open Go.RowKit Go.Sort Go.Shelf
def Try.sortL_ren : Go.Shelf.Ren := ⟨fun | 5 => 51 | 8 => 55 | 7 => 54 | 19 => 65 | 20 => 66 | 10 => 56 | 11 => 57 | 12 => 58 | 13 => 59 | 14 => 60 | 15 => 61 | 16 => 62 | 17 => 63 | 18 => 64 | 30 => 67 | 31 => 68 | 32 => 69 | 33 => 70 | 34 => 71 | 35 => 72 | 40 => 73 | n => n, fun | 23 => 22 | 25 => 3 | 3 => 3 | 32 => 60 | 22 => 22 | 0 => 0 | 44 => 96 | 46 => 98 | 4 => 4 | 36 => 90 | 35 => 89 | 41 => 73 | 5 => 5 | 9 => 9 | 53 => 99 | 57 => 103 | 63 => 105 | 64 => 106 | n => n, fun | n => n⟩
theorem Try.sortL : Go.Proofs.SlLaysM.n5 Try.prog Try.sortL_ren := {
  mixed := by kernel_rfl
  f5 := ⟨Try.f51.name, by decide, Try.func51.trans (congrArg some (by kernel_rfl))⟩
  f7 := ⟨Try.f54.name, by decide, Try.func54.trans (congrArg some (by kernel_rfl))⟩
  f8 := Try.func55.trans (congrArg some (by kernel_rfl))
  f10 := ⟨Try.f56.name, by decide, Try.func56.trans (congrArg some (by kernel_rfl))⟩
  f11 := ⟨Try.f57.name, by decide, Try.func57.trans (congrArg some (by kernel_rfl))⟩
  f12 := ⟨Try.f58.name, by decide, Try.func58.trans (congrArg some (by kernel_rfl))⟩
  f13 := ⟨Try.f59.name, by decide, Try.func59.trans (congrArg some (by kernel_rfl))⟩
  f14 := ⟨Try.f60.name, by decide, Try.func60.trans (congrArg some (by kernel_rfl))⟩
  f15 := ⟨Try.f61.name, by decide, Try.func61.trans (congrArg some (by kernel_rfl))⟩
  f16 := ⟨Try.f62.name, by decide, Try.func62.trans (congrArg some (by kernel_rfl))⟩
  f17 := ⟨Try.f63.name, by decide, Try.func63.trans (congrArg some (by kernel_rfl))⟩
  f18 := ⟨Try.f64.name, by decide, Try.func64.trans (congrArg some (by kernel_rfl))⟩
  f19 := Try.func65.trans (congrArg some (by kernel_rfl))
  f20 := Try.func66.trans (congrArg some (by kernel_rfl))
  f30 := ⟨Try.f67.name, by decide, Try.func67.trans (congrArg some (by kernel_rfl))⟩
  f31 := Try.func68.trans (congrArg some (by kernel_rfl))
  f32 := Try.func69.trans (congrArg some (by kernel_rfl))
  f33 := ⟨Try.f70.name, by decide, Try.func70.trans (congrArg some (by kernel_rfl))⟩
  f34 := ⟨Try.f71.name, by decide, Try.func71.trans (congrArg some (by kernel_rfl))⟩
  f35 := ⟨Try.f72.name, by decide, Try.func72.trans (congrArg some (by kernel_rfl))⟩
  f40 := ⟨Try.f73.name, by decide, Try.func73.trans (congrArg some (by kernel_rfl))⟩
  t0 := Try.underlying0
  a0 := Try.isAgg0
  z0 := Try.sizeOf0
  v0 := Try.zeroValue0
  t3 := Try.underlying3
  a3 := Try.isAgg3
  z3 := Try.sizeOf3
  v3 := Try.zeroValue3
  t4 := Try.underlying4
  a4 := Try.isAgg4
  z4 := Try.sizeOf4
  v4 := Try.zeroValue4
  t5 := Try.underlying5
  a5 := Try.isAgg5
  z5 := Try.sizeOf5
  v5 := Try.zeroValue5
  t9 := Try.underlying9
  a9 := Try.isAgg9
  z9 := Try.sizeOf9
  v9 := Try.zeroValue9
  t22 := Try.underlying22
  a22 := Try.isAgg22
  z22 := Try.sizeOf22
  v22 := Try.zeroValue22
  t23 := Try.underlying22
  a23 := Try.isAgg22
  z23 := Try.sizeOf22
  v23 := Try.zeroValue22
  t25 := Try.underlying3
  a25 := Try.isAgg3
  z25 := Try.sizeOf3
  v25 := Try.zeroValue3
  t32 := Try.underlying60
  a32 := Try.isAgg60
  z32 := Try.sizeOf60
  v32 := Try.zeroValue60
  t35 := Try.underlying89
  a35 := Try.isAgg89
  z35 := Try.sizeOf89
  v35 := Try.zeroValue89
  t36 := Try.underlying90
  a36 := Try.isAgg90
  z36 := Try.sizeOf90
  v36 := Try.zeroValue90
  t41 := Try.underlying73
  a41 := Try.isAgg73
  z41 := Try.sizeOf73
  v41 := Try.zeroValue73
  t44 := Try.underlying96
  a44 := Try.isAgg96
  z44 := Try.sizeOf96
  v44 := Try.zeroValue96
  t46 := Try.underlying98
  a46 := Try.isAgg98
  z46 := Try.sizeOf98
  v46 := Try.zeroValue98
  t53 := Try.underlying99
  a53 := Try.isAgg99
  z53 := Try.sizeOf99
  v53 := Try.zeroValue99
  t57 := Try.underlying103
  a57 := Try.isAgg103
  z57 := Try.sizeOf103
  v57 := Try.zeroValue103
  t63 := Try.underlying105
  a63 := Try.isAgg105
  z63 := Try.sizeOf105
  v63 := Try.zeroValue105
  t64 := Try.underlying106
  a64 := Try.isAgg106
  z64 := Try.sizeOf106
  v64 := Try.zeroValue106 }
end Go.Proofs
namespace Go.Proofs.Ytlmabajgnjiigaa
open Go Go.RowKit
set_option linter.unusedVariables false
set_option linter.unusedSimpArgs false
theorem putCells_get {enc : Int → Value} {d : Array Int} {c : Array Value} {k : Nat} : (Sort.putCells enc 0 d c)[k]? = (c[k]?).map fun x => if k < d.size then enc d[k]! else x := by
  unfold Sort.putCells
  rw [Array.getElem?_mapIdx]
  simp
theorem heap_putRow {enc : Int → Value} {w : World} {g off : Nat} {d : Array Int} {k : Nat} : (Sort.putRow enc w g off d).heap[k]? = if g = k then (w.heap[k]?).map (Sort.onCells (Sort.putCells enc off d)) else w.heap[k]? := by
  unfold Sort.putRow Sort.mapBlock
  rw [Array.getElem?_modify]
section
variable {W0 : World} {L : List HP}
theorem Sort_ct {A : Option Addr} {c : Nat} {l : List Int} (hl : l.length ≤ 1000000) :
    CT Try.prog 51 #[.slice A l.length c] W0 (own 3 eI (.slice A l.length c) l :: L) fun r L' => ∃ l', l'.Perm l ∧ l'.Pairwise (· ≤ ·) ∧ r = .tuple #[] ∧ L' = own 3 eI (.slice A l.length c) l' :: L := by
  by_cases h0 : l = []
  · subst h0
    refine ⟨fun w s => ?_⟩
    refine (AnyM.slices_Sort_int_none Try.sortL A c w).mono fun e w' ⟨he, hw⟩ => ?_
    subst he hw
    exact ⟨_, _, rfl, ⟨[], List.Perm.refl _, List.Pairwise.nil, rfl, rfl⟩, s⟩
  · refine ⟨fun w s => ?_⟩
    have s0 := s
    obtain ⟨_, _, _, _, m, h, _, hw, hh, _, a, b, _, ha, _, ⟨css, hall, hd⟩, _⟩ := s0
    rcases hd with ⟨_, e⟩ | ⟨g, cap, cur, hv, hg, hc, hcm, hcs, ht⟩
    · exact absurd e h0
    injection hv with e1 e2 e3
    subst e1 e3
    have hcur : w.heap[g]? = some (.cells cur 3 (0, 0)) := hh _ _ (ha _ _ hg)
    have hcss : css = l.map fun x => [Value.int .i64 x] := all2_e1.1 hall
    rw [hcss, flat_one] at ht
    have hsz1 : (1 : Nat) = eI.sz := rfl
    rw [← hsz1, Nat.mul_one] at ht hcs
    have hget : ∀ j, j < l.length → cur[j]? = some (.int .i64 l[j]!) := fun j hj => by
      have h2 := congrArg (fun q => q[j]?) ht
      simp only [List.getElem?_take, if_pos hj, List.getElem?_map] at h2
      rw [List.getElem?_eq_getElem hj] at h2
      rw [getElem!_pos l j hj]
      simpa using h2
    have hH : Sort.Holds (Value.int .i64) w g 0 l.toArray := fun j hj => by
      have hj2 : j < l.length := by simpa using hj
      refine ⟨?_, ?_⟩
      · simp only [World.cell?, hcur, Nat.zero_add]
        rw [hget j hj2]
        simp
      · simp [World.frozen?, hcur]
    refine (AnyM.slices_Sort_int Try.sortL g 0 c l w hH (Hp.of_lt hcur) (by omega)).mono fun e w' ⟨he, n, os, hw'⟩ => ?_
    subst he
    obtain ⟨l', hl'⟩ : ∃ l', (l.mergeSort fun x y => decide (x ≤ y)) = l' := ⟨_, rfl⟩
    rw [hl'] at hw'
    have hp : l'.Perm l := by rw [← hl']; exact List.mergeSort_perm _ _
    have hso : l'.Pairwise (· ≤ ·) := by
      rw [← hl']
      have := List.pairwise_mergeSort (le := fun x y : Int => decide (x ≤ y)) (fun a b c h1 h2 => by simp only [decide_eq_true_eq] at *; omega) (fun a b => by simp only [Bool.or_eq_true, decide_eq_true_eq]; omega) l
      exact this.imp fun h => by simpa using h
    have hll := hp.length_eq
    refine ⟨_, _, rfl, ⟨l', hp, hso, rfl, rfl⟩, ?_⟩
    have hkeep : ∀ k, k < w.heap.size → w'.heap[k]? = if g = k then some (.cells (Sort.putCells (Value.int .i64) 0 l'.toArray cur) 3 (0, 0)) else w.heap[k]? := fun k hk => by
      rw [hw', Sort.heap_grow_old _ _ (by simpa using hk), heap_putRow]
      split
      · rename_i e
        subst e
        show (w.heap[g]?).map _ = _
        rw [hcur]
        rfl
      · rfl
    refine s.turn (by rw [hw']; rfl) (by rw [hw']; rfl) (by rw [hw']; rfl) (by rw [hw']; simp) fun m2 a2 hA2 hm2 ha2 _ => ?_
    obtain ⟨css2, hall2, hd2⟩ := hA2
    rcases hd2 with ⟨_, e⟩ | ⟨g2, cap2, cur2, hv2, hg2, _⟩
    · exact absurd e h0
    injection hv2 with e1 e2 e3
    injection e1 with e1
    injection e1 with e1
    subst e1
    have hgk : g < w.heap.size := Hp.of_lt hcur
    refine ⟨Hp.one g (.cells (Sort.putCells (Value.int .i64) 0 l'.toArray cur) 3 (0, 0)), ⟨l'.map fun x => [Value.int .i64 x], all2_e1.2 rfl, .inr ⟨g, c, Sort.putCells (Value.int .i64) 0 l'.toArray cur, by rw [hll], by simp [Hp.one], by omega, hcm, ?_, ?_⟩⟩, ?_, ?_⟩
    · rw [← hsz1, Nat.mul_one, ← hcs]
      unfold Sort.putCells
      simp
    · rw [← hsz1, Nat.mul_one, flat_one]
      apply List.ext_getElem?
      intro j
      rw [List.getElem?_take, List.getElem?_map]
      by_cases hj : j < l'.length
      · rw [if_pos hj, List.getElem?_eq_getElem hj]
        have hj2 : j < l.length := by omega
        have := putCells_get (enc := Value.int .i64) (d := l'.toArray) (c := cur) (k := j)
        rw [hget j hj2] at this
        simp only [Option.map_some, List.size_toArray, if_pos hj] at this
        simpa [hj] using this
      · rw [if_neg hj, List.getElem?_eq_none (by omega)]
        rfl
    · intro k o e
      unfold Hp.one at e
      split at e
      · rename_i hk
        cases e
        have := hkeep k (by rw [hk]; exact hgk)
        rw [if_pos hk.symm] at this
        exact this
      · cases e
    · intro k hk hn
      have hne : g ≠ k := by
        rintro rfl
        rw [hg2] at hn
        cases hn
      refine ⟨by rw [hkeep k hk, if_neg hne], ?_⟩
      unfold Hp.one
      rw [if_neg (fun h => hne h.symm)]
end
end Go.Proofs.Ytlmabajgnjiigaa
namespace Go.Proofs.Ytlmabajgnjiigaa
open Go Go.RowKit
set_option linter.unusedVariables false
set_option linter.unusedSimpArgs false
theorem numF_append : ∀ {a b : List Int} {n : Nat}, numF (a ++ b) n = (numF a n).bind fun m => numF b m
  | [], b, n => rfl
  | g :: r, b, n => by
    have e1 : numF (g :: r ++ b) n = if g < 0 ∨ (n : Int) < g then none else numF (r ++ b) (if g = (n : Int) then n + 1 else n) := rfl
    have e2 : numF (g :: r) n = if g < 0 ∨ (n : Int) < g then none else numF r (if g = (n : Int) then n + 1 else n) := rfl
    rw [e1, e2]
    split
    · rfl
    · exact numF_append
theorem numF_mem : ∀ {l : List Int} {n m : Nat}, numF l n = some m → n ≤ m ∧ ∀ g ∈ l, 0 ≤ g ∧ g < (m : Int)
  | [], n, m, h => by
    injection h with h
    exact ⟨by omega, fun _ h => (by cases h)⟩
  | g :: r, n, m, h => by
    unfold numF at h
    split at h
    · cases h
    · rename_i hc
      obtain ⟨h1, h2⟩ := numF_mem h
      refine ⟨?_, fun x hx => ?_⟩
      · split at h1 <;> omega
      · rcases List.mem_cons.1 hx with rfl | hx
        · split at h1 <;> omega
        · exact h2 x hx
theorem numF_take {l : List Int} {H : Nat} (h : numF l 0 = some H) (n : Nat) : ∃ m, numF (l.take n) 0 = some m := by
  rw [← List.take_append_drop n l, numF_append] at h
  cases hm : numF (l.take n) 0 with
  | none => rw [hm] at h; cases h
  | some m => exact ⟨m, rfl⟩
theorem numF_comp {into : List Int} {H : Nat} (hi : numF into 0 = some H) : ∀ (last : List Int) (n m h : Nat), numF last n = some m → m ≤ into.length → numF (into.take n) 0 = some h → ∃ h', numF (into.take m) 0 = some h' ∧ numF (last.map fun g => into.getD g.toNat 0) h = some h'
  | [], n, m, h, h1, _, h3 => by
    injection h1 with h1
    subst h1
    exact ⟨h, h3, rfl⟩
  | g :: r, n, m, h, h1, h2, h3 => by
    unfold numF at h1
    split at h1
    · cases h1
    · rename_i hc
      by_cases hg : g = (n : Int)
      · rw [if_pos hg] at h1
        have hnm := (numF_mem h1).1
        obtain ⟨x, hx⟩ : ∃ x, into[n]? = some x := ⟨_, List.getElem?_eq_getElem (by omega)⟩
        obtain ⟨h4, hh4⟩ := numF_take hi (n + 1)
        have hs : numF [x] h = some h4 := by
          have : into.take (n + 1) = into.take n ++ [x] := by rw [List.take_add_one, hx]; rfl
          rw [this, numF_append, h3] at hh4
          exact hh4
        obtain ⟨h', k1, k2⟩ := numF_comp hi r (n + 1) m h4 h1 h2 hh4
        refine ⟨h', k1, ?_⟩
        have e : into.getD g.toNat 0 = x := by rw [hg, Int.toNat_natCast, List.getD_eq_getElem?_getD, hx, Option.getD_some]
        rw [List.map_cons, e]
        show numF ([x] ++ r.map _) h = _
        rw [numF_append, hs]
        exact k2
      · rw [if_neg hg] at h1
        have hnm := (numF_mem h1).1
        obtain ⟨k, rfl⟩ : ∃ k : Nat, g = (k : Int) := ⟨g.toNat, by omega⟩
        obtain ⟨x, hx⟩ : ∃ x, into[k]? = some x := ⟨_, List.getElem?_eq_getElem (by omega)⟩
        have hxm : x ∈ into.take n := List.mem_of_getElem? (i := k) (by rw [List.getElem?_take, if_pos (by omega)]; exact hx)
        have hxb := (numF_mem h3).2 x hxm
        obtain ⟨h', k1, k2⟩ := numF_comp hi r n m h h1 h2 h3
        refine ⟨h', k1, ?_⟩
        have e : into.getD (k : Int).toNat 0 = x := by rw [Int.toNat_natCast, List.getD_eq_getElem?_getD, hx, Option.getD_some]
        rw [List.map_cons, e]
        unfold numF
        rw [if_neg (by omega), if_neg (by omega)]
        exact k2
/-- numbers up to n, in order -/
theorem numF_range : ∀ n : Nat, numF ((List.range n).map fun (i : Nat) => (i : Int)) 0 = some n
  | 0 => rfl
  | n + 1 => by
    rw [List.range_succ, List.map_append, numF_append, numF_range n]
    show numF [(n : Int)] n = _
    unfold numF
    rw [if_neg (by omega), if_pos rfl]
    rfl
theorem coa_map {a : List Int} {f : Int → Int} : CoaOk a (a.map f) := fun i k x u v _ h1 h2 h3 h4 => by
  rw [List.getElem?_map, h1] at h3
  rw [List.getElem?_map, h2] at h4
  injection h3 with h3
  injection h4 with h4
  rw [← h3, ← h4]
theorem numF_cons {g : Int} {r : List Int} {n m : Nat} (h : numF (g :: r) n = some m) : 0 ≤ g ∧ g ≤ (n : Int) ∧ numF r (if g = (n : Int) then n + 1 else n) = some m := by
  have e2 : numF (g :: r) n = if g < 0 ∨ (n : Int) < g then none else numF r (if g = (n : Int) then n + 1 else n) := rfl
  rw [e2] at h
  split at h
  · cases h
  · rename_i hc
    exact ⟨by omega, by omega, h⟩
theorem numF_le : ∀ {l : List Int} {n m : Nat}, numF l n = some m → m ≤ n + l.length
  | [], n, m, h => by
    injection h with h
    omega
  | g :: r, n, m, h => by
    obtain ⟨k1, k2, k3⟩ := numF_cons h
    have ih := numF_le k3
    rw [List.length_cons]
    split at ih <;> omega
theorem numF_each : ∀ {l : List Int} {n m : Nat}, numF l n = some m → ∀ j : Nat, n ≤ j → j < m → (j : Int) ∈ l
  | [], n, m, h, j, h1, h2 => by
    injection h with h
    omega
  | g :: r, n, m, h, j, h1, h2 => by
    obtain ⟨k1, k2, k3⟩ := numF_cons h
    by_cases hg : g = (n : Int)
    · rw [if_pos hg] at k3
      by_cases hj : j = n
      · rw [hj, ← hg]
        exact .head _
      · exact .tail _ (numF_each k3 j (by omega) h2)
    · rw [if_neg hg] at k3
      exact .tail _ (numF_each k3 j h1 h2)
theorem numF_fac : ∀ {l : List Int} {n m : Nat}, numF l n = some m → l.foldl (fun n x => max n (x + 1)) (n : Int) = (m : Int)
  | [], n, m, h => by
    injection h with h
    rw [← h]
    rfl
  | g :: r, n, m, h => by
    obtain ⟨k1, k2, k3⟩ := numF_cons h
    rw [List.foldl_cons]
    by_cases hg : g = (n : Int)
    · rw [if_pos hg] at k3
      have ih := numF_fac k3
      rw [show max (n : Int) (g + 1) = ((n + 1 : Nat) : Int) from by omega]
      exact ih
    · rw [if_neg hg] at k3
      have ih := numF_fac k3
      rw [show max (n : Int) (g + 1) = (n : Int) from by omega]
      exact ih
theorem facF_num {l : List Int} {m : Nat} (h : numF l 0 = some m) : facF l = (m : Int) := numF_fac h
end Go.Proofs.Ytlmabajgnjiigaa
