/-
  Range over functions that hand over in an order not known ahead. No program.
-/
import Derived.Shelf.SortM.Plain
import Derived.Shelf.SortM.SortNone
import Derived.Ground.SlgmProg
import Derived.Test.YtbjaecofccpahaaGreatMT
import Derived.Test.YtbjaecofccpahaaGreatMK
import Derived.Test.YtbjaecofccpahaaGreatMM
import Derived.Test.YtbjaecofccpahaaGreatMN
namespace Go.Proofs.YtbjaecofccpahaaGreat
open Go Go.RowKit
set_option linter.unusedVariables false
set_option linter.unusedSimpArgs false
section
variable {P : Program} {ops : Array Oper} {Q : Exit → Act → World → Prop} {rest : List Oper} {o : Oper} {a : Act} {W0 w : World} {L : List HP}
/-- An iterator's promise: it hands over one by one, each that nx lets come behind those before, and at the end fin holds of all. E: what it needs, and leaves. -/
def GivesP {β κ : Type} (P : Program) (gf : FuncId) (lb : Array Value) (arg : β → κ → Array Value) (hs : β → κ → List HP) (nx : List β → β → Prop) (fin : List β → Prop) (E : List HP) : Prop :=
  ∀ (l : Nat) (W0 : World) (J : List β → HP),
    (∀ pre y k W E1, nx pre y → St W0 W (hs y k ++ (J pre :: E1)) → Yields P l (arg y k) W fun e W' => e = .returned (.bool true) ∧ St W0 W' (J (pre ++ [y]) :: E1)) →
    CT P gf (#[.func (.yield l) #[] #[]] ++ lb) W0 (J [] :: E) fun r L' => ∃ ys, fin ys ∧ L' = J ys :: E
theorem C_rangeP {β κ : Type} {g : Operand} {ps : Array Tmp} {assign body : Code} {gf : FuncId} {lb : Array Value} (hg : a.eval g = .func (.func gf) #[] lb) (eg : Enters P gf)
    {arg : β → κ → Array Value} {hs : β → κ → List HP} {nx : List β → β → Prop} {fin : List β → Prop} {E : List HP} (hit : GivesP P gf lb arg hs nx fin E) (hps : ∀ y k, (arg y k).size = ps.size) (I : List β → List HP) (hL : Sub L (I [] ++ E))
    (hbody : ∀ (l D : Nat) (rec : Obj) (pre : List β) (y : β) (k : κ), nx pre y →
      ∃ a₁, (∀ W K, K a₁ W → assign.wpIn (Fr (some l)) 0 P (Exit.then K (fun _ _ _ => False)) { tmps := (ps.zip (arg y k)).foldl (fun t (p, v) => t.setIfInBounds p v) a.tmps, defers := [] } W) ∧
      ∀ W E, St W0 W (blk l rec :: blk D (.deferred (some [])) :: (I pre ++ (hs y k ++ E))) → body.wpIn (Fr (some l)) 0 P (fun e _ W' => e = .normal ∧ St W0 W' (blk l rec :: blk D (.deferred (some [])) :: (I (pre ++ [y]) ++ E))) a₁ W)
    (hdone : ∀ (D : Nat) (ys : List β), fin ys → EL W0 (blk D (.deferred (some [])) :: (I ys ++ E)) Q .normal { a with defers := { target := .collected D, args := #[] } :: a.defers }) :
    CL P W0 L (Code.rangeFunc g ps assign body) Q a := by
  refine ⟨fun w hS0 => ?_⟩
  have hS := hL.st hS0
  clear hS0
  refine (wpIn_wide (n := 0)).1 (wpIn_rangeFunc ?_)
  intro fn _
  obtain ⟨rec, hrec⟩ : ∃ rec : LoopState → Option Code → Loop, rec = fun st pe => { state := st, pending := pe, fn, tmps := a.tmps, params := ps, assign, body, defers := w.heap.size } := ⟨_, rfl⟩
  have hS1 := (hS.alloc (.deferred (some []))).alloc (.loop (rec .ready none))
  rw [World.size_alloc] at hS1
  generalize hl : w.heap.size + 1 = l at hS1
  generalize hD : w.heap.size = D at hS1 hl hrec
  have henter := run_enterLoop_outer (P := P) (w := w) fn a.tmps ps assign body
  rw [hD] at henter
  rw [hl] at henter
  have hr1 : (rec .ready none) = { state := .ready, pending := none, fn, tmps := a.tmps, params := ps, assign, body, defers := D } := by rw [hrec]
  rw [← hr1] at henter
  generalize hw1 : (w.alloc (.deferred (some []))).alloc (.loop (rec .ready none)) = w1 at henter hS1
  refine ⟨l, [{ target := .collected D, args := #[] }], w1, { target := .fn (.func gf) lb, args := #[.func (.yield l) #[] #[]] }, w1, gf,
    #[.func (.yield l) #[] #[]] ++ lb, w1, henter, ?_, fun _ _ => trivial, ?_, (fun hn => (by cases hn)), ?_⟩
  · simp only [resolve, hg]
    simp [go_sem]
  · exact eg _ _
  · have hJ : St W0 w1 (sp (blk l (.loop (rec .ready none)) :: blk D (.deferred (some [])) :: I []) :: E) := St.close_ (L := blk l (.loop (rec .ready none)) :: blk D (.deferred (some [])) :: I []) hS1
    refine callsIn_wide.2 (Calls.mono ((hit l W0 (fun pre => sp (blk l (.loop (rec .ready none)) :: blk D (.deferred (some [])) :: I pre)) ?_).run w1 hJ) ?_)
    · intro pre y k W E1 hx hW0
      have hW : St W0 W (blk l (.loop (rec .ready none)) :: blk D (.deferred (some [])) :: (I pre ++ (hs y k ++ E1))) := (hW0.perm List.perm_middle).open_
      clear hW0
      have hblk : W.heap[l]? = some (.loop (rec .ready none)) := St.blk_ hW
      have hrp : (rec .ready none).params = ps := by rw [hrec]
      refine ⟨fn, (ps.zip (arg y k)).foldl (fun t (p, v) => t.setIfInBounds p v) a.tmps, assign, body, ?_, ?_⟩
      · have := run_yield (P := P) (args := arg y k) hblk (by rw [hrp]; exact hps y k)
        rw [this, hrec]
      · refine roundIn_of_wpIn trivial ?_
        obtain ⟨a₁, has, hb⟩ := hbody l D (.loop (rec .busy none)) pre y k hx
        refine has W _ ?_
        refine ⟨W.putObj l (.loop (rec .busy none)), ?_, ?_⟩
        · have := run_beginRound (P := P) hblk (by rw [hrec])
          rw [this, hrec]
        · refine wpIn_mono (hb _ E1 (St.putObj hW)) ?_
          rintro e a' W' ⟨rfl, hW'⟩
          have hblk' : W'.heap[l]? = some (.loop (rec .busy none)) := St.blk_ hW'
          refine ⟨_, _, run_endRound (P := P) none hblk', rfl, ?_⟩
          have h2 := St.putObj (o' := .loop (rec .ready none)) hW'
          have h3 : St W0 (W'.putObj l (.loop (rec .ready none))) (sp (blk l (.loop (rec .ready none)) :: blk D (.deferred (some [])) :: I (pre ++ [y])) :: E1) := St.close_ (L := blk l (.loop (rec .ready none)) :: blk D (.deferred (some [])) :: I (pre ++ [y])) h2
          rw [hrec] at h3 ⊢
          exact h3
    · rintro e W' ⟨v, L', rfl, ⟨ys, hfin, rfl⟩, hW0⟩
      have hW' : St W0 W' (blk l (.loop (rec .ready none)) :: blk D (.deferred (some [])) :: (I ys ++ E)) := hW0.open_
      have hblk' : W'.heap[l]? = some (.loop (rec .ready none)) := St.blk_ hW'
      refine ⟨none, W'.putObj l (.loop { rec .ready none with state := .exhausted }), ?_, ?_⟩
      · rw [run_endLoop (P := P) hblk' (by rw [hrec]; simp), hrec]
      · exact (hdone D ys hfin).run _ (St.drop (St.putObj hW'))
/-- 'if !yield(x)': the region of the call -/
theorem C_yield1 {id : Nat} {d1 d2 d4 d5 : Tmp} {f x : Operand} {t1 t2 t4 t5 u5 : TypeId} {p1 p2 p4 p5 : String} {q1 q2 q4 q5 : Array Edge} {ats : Array TypeId} {l : Nat} {v1 w1 w2 : Value} {L' : List HP} {a1 a2 a4 a5 : Act}
    (e1 : a.eval f = w1) (h1 : a.put (some d1) w1 = a1) (e2 : a1.eval x = w2) (h2 : a1.put (some d2) w2 = a2) (h4 : a2.put (some d4) (.bool true) = a4) (h5 : a4.put (some d5) (.bool false) = a5)
    (hF : a2.eval (.tmp d1) = .func (.yield l) #[] #[]) (hX : a2.eval (.tmp d2) = v1) (hB : a4.eval (.tmp d4) = .bool true)
    (hy : ∀ w, St W0 w L → Yields P l #[v1] w fun e w' => e = .returned (.bool true) ∧ St W0 w' L')
    (k : EL W0 L' Q .normal a5) :
    CL P W0 L (Code.region id #[⟨some d1, .move f, t1, p1, q1, none⟩, ⟨some d2, .move x, t2, p2, q2, none⟩, ⟨some d4, .call { callee := .value (.tmp d1), args := #[.tmp d2], argTypes := ats }, t4, p4, q4, none⟩, ⟨some d5, .unOp .not u5 (.tmp d4), t5, p5, q5, none⟩] false) Q a := by
  refine ⟨fun w hS => ?_⟩
  subst h1 h2 h4 h5
  subst e1 e2
  refine (wpIn_wide (n := 0)).1 (wpIn_region_lit ?_)
  refine wlIn_move (wlIn_move (wlIn_yield (l := l) (args := #[v1]) (R := fun e w' => e = .returned (.bool true) ∧ St W0 w' L') rfl rfl hF (by rw [← hX]; simp only [List.map_toArray, List.map_cons, List.map_nil]) (hy w hS) (fun e w' h => ⟨_, h.1⟩) ?_))
  rintro v' w' ⟨hv, h⟩
  injection hv with hv
  subst hv
  exact wlIn_not (b := true) hB (wpListIn_nil (k.run w' h))
end
end Go.Proofs.YtbjaecofccpahaaGreat
namespace Go.Proofs
open Go.RowKit Go.Sort Go.Shelf
def Tryz.sortL_ren : Go.Shelf.Ren := ⟨fun | 5 => 67 | 8 => 86 | 7 => 85 | 19 => 103 | 20 => 104 | 10 => 94 | 11 => 95 | 12 => 96 | 13 => 97 | 14 => 98 | 15 => 99 | 16 => 100 | 17 => 101 | 18 => 102 | 30 => 105 | 31 => 106 | 32 => 107 | 33 => 108 | 34 => 109 | 35 => 110 | 40 => 111 | n => n, fun | 23 => 22 | 25 => 3 | 3 => 3 | 32 => 70 | 22 => 22 | 0 => 0 | 44 => 132 | 46 => 78 | 4 => 4 | 36 => 124 | 35 => 123 | 41 => 129 | 5 => 5 | 9 => 9 | 53 => 133 | 57 => 136 | 63 => 138 | 64 => 139 | n => n, fun | n => n⟩
theorem Tryz.sortL : Go.Proofs.SlLaysM.n5 Tryz.prog Tryz.sortL_ren := {
  mixed := by kernel_rfl
  f5 := ⟨Tryz.f67.name, by decide, Tryz.func67.trans (congrArg some (by kernel_rfl))⟩
  f7 := ⟨Tryz.f85.name, by decide, Tryz.func85.trans (congrArg some (by kernel_rfl))⟩
  f8 := Tryz.func86.trans (congrArg some (by kernel_rfl))
  f10 := ⟨Tryz.f94.name, by decide, Tryz.func94.trans (congrArg some (by kernel_rfl))⟩
  f11 := ⟨Tryz.f95.name, by decide, Tryz.func95.trans (congrArg some (by kernel_rfl))⟩
  f12 := ⟨Tryz.f96.name, by decide, Tryz.func96.trans (congrArg some (by kernel_rfl))⟩
  f13 := ⟨Tryz.f97.name, by decide, Tryz.func97.trans (congrArg some (by kernel_rfl))⟩
  f14 := ⟨Tryz.f98.name, by decide, Tryz.func98.trans (congrArg some (by kernel_rfl))⟩
  f15 := ⟨Tryz.f99.name, by decide, Tryz.func99.trans (congrArg some (by kernel_rfl))⟩
  f16 := ⟨Tryz.f100.name, by decide, Tryz.func100.trans (congrArg some (by kernel_rfl))⟩
  f17 := ⟨Tryz.f101.name, by decide, Tryz.func101.trans (congrArg some (by kernel_rfl))⟩
  f18 := ⟨Tryz.f102.name, by decide, Tryz.func102.trans (congrArg some (by kernel_rfl))⟩
  f19 := Tryz.func103.trans (congrArg some (by kernel_rfl))
  f20 := Tryz.func104.trans (congrArg some (by kernel_rfl))
  f30 := ⟨Tryz.f105.name, by decide, Tryz.func105.trans (congrArg some (by kernel_rfl))⟩
  f31 := Tryz.func106.trans (congrArg some (by kernel_rfl))
  f32 := Tryz.func107.trans (congrArg some (by kernel_rfl))
  f33 := ⟨Tryz.f108.name, by decide, Tryz.func108.trans (congrArg some (by kernel_rfl))⟩
  f34 := ⟨Tryz.f109.name, by decide, Tryz.func109.trans (congrArg some (by kernel_rfl))⟩
  f35 := ⟨Tryz.f110.name, by decide, Tryz.func110.trans (congrArg some (by kernel_rfl))⟩
  f40 := ⟨Tryz.f111.name, by decide, Tryz.func111.trans (congrArg some (by kernel_rfl))⟩
  t0 := Tryz.underlying0
  a0 := Tryz.isAgg0
  z0 := Tryz.sizeOf0
  v0 := Tryz.zeroValue0
  t3 := Tryz.underlying3
  a3 := Tryz.isAgg3
  z3 := Tryz.sizeOf3
  v3 := Tryz.zeroValue3
  t4 := Tryz.underlying4
  a4 := Tryz.isAgg4
  z4 := Tryz.sizeOf4
  v4 := Tryz.zeroValue4
  t5 := Tryz.underlying5
  a5 := Tryz.isAgg5
  z5 := Tryz.sizeOf5
  v5 := Tryz.zeroValue5
  t9 := Tryz.underlying9
  a9 := Tryz.isAgg9
  z9 := Tryz.sizeOf9
  v9 := Tryz.zeroValue9
  t22 := Tryz.underlying22
  a22 := Tryz.isAgg22
  z22 := Tryz.sizeOf22
  v22 := Tryz.zeroValue22
  t23 := Tryz.underlying22
  a23 := Tryz.isAgg22
  z23 := Tryz.sizeOf22
  v23 := Tryz.zeroValue22
  t25 := Tryz.underlying3
  a25 := Tryz.isAgg3
  z25 := Tryz.sizeOf3
  v25 := Tryz.zeroValue3
  t32 := Tryz.underlying70
  a32 := Tryz.isAgg70
  z32 := Tryz.sizeOf70
  v32 := Tryz.zeroValue70
  t35 := Tryz.underlying123
  a35 := Tryz.isAgg123
  z35 := Tryz.sizeOf123
  v35 := Tryz.zeroValue123
  t36 := Tryz.underlying124
  a36 := Tryz.isAgg124
  z36 := Tryz.sizeOf124
  v36 := Tryz.zeroValue124
  t41 := Tryz.underlying129
  a41 := Tryz.isAgg129
  z41 := Tryz.sizeOf129
  v41 := Tryz.zeroValue129
  t44 := Tryz.underlying132
  a44 := Tryz.isAgg132
  z44 := Tryz.sizeOf132
  v44 := Tryz.zeroValue132
  t46 := Tryz.underlying78
  a46 := Tryz.isAgg78
  z46 := Tryz.sizeOf78
  v46 := Tryz.zeroValue78
  t53 := Tryz.underlying133
  a53 := Tryz.isAgg133
  z53 := Tryz.sizeOf133
  v53 := Tryz.zeroValue133
  t57 := Tryz.underlying136
  a57 := Tryz.isAgg136
  z57 := Tryz.sizeOf136
  v57 := Tryz.zeroValue136
  t63 := Tryz.underlying138
  a63 := Tryz.isAgg138
  z63 := Tryz.sizeOf138
  v63 := Tryz.zeroValue138
  t64 := Tryz.underlying139
  a64 := Tryz.isAgg139
  z64 := Tryz.sizeOf139
  v64 := Tryz.zeroValue139 }
end Go.Proofs
namespace Go.Proofs.YtbjaecofccpahaaGreat
open Go Go.RowKit
set_option linter.unusedVariables false
set_option linter.unusedSimpArgs false
theorem putCells_get {enc : Int → Value} {d : Array Int} {c : Array Value} {k : Nat} : (Sort.putCells enc 0 d c)[k]? = (c[k]?).map fun x => if k < d.size then enc d[k]! else x := by
  unfold Sort.putCells
  rw [Array.getElem?_mapIdx]
  simp
theorem heap_putRow {enc : Int → Value} {w : World} {g off : Nat} {d : Array Int} {k : Nat} : (Sort.putRow enc w g off d).heap[k]? = if g = k then (w.heap[k]?).map (Sort.onCells (Sort.putCells enc off d)) else w.heap[k]? := by
  unfold Sort.putRow Sort.mapBlock
  rw [Array.getElem?_modify]
section
variable {W0 : World} {L : List HP}
theorem Sort_ct {A : Option Addr} {c : Nat} {l : List Int} (hl : l.length ≤ 1000000) :
    CT Tryz.prog 67 #[.slice A l.length c] W0 (own 3 eI (.slice A l.length c) l :: L) fun r L' => ∃ l', l'.Perm l ∧ l'.Pairwise (· ≤ ·) ∧ r = .tuple #[] ∧ L' = own 3 eI (.slice A l.length c) l' :: L := by
  by_cases h0 : l = []
  · subst h0
    refine ⟨fun w s => ?_⟩
    refine (AnyM.slices_Sort_int_none Tryz.sortL A c w).mono fun e w' ⟨he, hw⟩ => ?_
    subst he hw
    exact ⟨_, _, rfl, ⟨[], List.Perm.refl _, List.Pairwise.nil, rfl, rfl⟩, s⟩
  · refine ⟨fun w s => ?_⟩
    have s0 := s
    obtain ⟨_, _, _, _, m, h, _, hw, hh, _, a, b, _, ha, _, ⟨css, hall, hd⟩, _⟩ := s0
    rcases hd with ⟨_, e⟩ | ⟨g, cap, cur, hv, hg, hc, hcm, hcs, ht⟩
    · exact absurd e h0
    injection hv with e1 e2 e3
    subst e1 e3
    have hcur : w.heap[g]? = some (.cells cur 3 (0, 0)) := hh _ _ (ha _ _ hg)
    have hcss : css = l.map fun x => [Value.int .i64 x] := all2_e1.1 hall
    rw [hcss, flat_one] at ht
    have hsz1 : (1 : Nat) = eI.sz := rfl
    rw [← hsz1, Nat.mul_one] at ht hcs
    have hget : ∀ j, j < l.length → cur[j]? = some (.int .i64 l[j]!) := fun j hj => by
      have h2 := congrArg (fun q => q[j]?) ht
      simp only [List.getElem?_take, if_pos hj, List.getElem?_map] at h2
      rw [List.getElem?_eq_getElem hj] at h2
      rw [getElem!_pos l j hj]
      simpa using h2
    have hH : Sort.Holds (Value.int .i64) w g 0 l.toArray := fun j hj => by
      have hj2 : j < l.length := by simpa using hj
      refine ⟨?_, ?_⟩
      · simp only [World.cell?, hcur, Nat.zero_add]
        rw [hget j hj2]
        simp
      · simp [World.frozen?, hcur]
    refine (AnyM.slices_Sort_int Tryz.sortL g 0 c l w hH (Hp.of_lt hcur) (by omega)).mono fun e w' ⟨he, n, os, hw'⟩ => ?_
    subst he
    obtain ⟨l', hl'⟩ : ∃ l', (l.mergeSort fun x y => decide (x ≤ y)) = l' := ⟨_, rfl⟩
    rw [hl'] at hw'
    have hp : l'.Perm l := by rw [← hl']; exact List.mergeSort_perm _ _
    have hso : l'.Pairwise (· ≤ ·) := by
      rw [← hl']
      have := List.pairwise_mergeSort (le := fun x y : Int => decide (x ≤ y)) (fun a b c h1 h2 => by simp only [decide_eq_true_eq] at *; omega) (fun a b => by simp only [Bool.or_eq_true, decide_eq_true_eq]; omega) l
      exact this.imp fun h => by simpa using h
    have hll := hp.length_eq
    refine ⟨_, _, rfl, ⟨l', hp, hso, rfl, rfl⟩, ?_⟩
    have hkeep : ∀ k, k < w.heap.size → w'.heap[k]? = if g = k then some (.cells (Sort.putCells (Value.int .i64) 0 l'.toArray cur) 3 (0, 0)) else w.heap[k]? := fun k hk => by
      rw [hw', Sort.heap_grow_old _ _ (by simpa using hk), heap_putRow]
      split
      · rename_i e
        subst e
        show (w.heap[g]?).map _ = _
        rw [hcur]
        rfl
      · rfl
    refine s.turn (by rw [hw']; rfl) (by rw [hw']; rfl) (by rw [hw']; rfl) (by rw [hw']; simp) fun m2 a2 hA2 hm2 ha2 _ => ?_
    obtain ⟨css2, hall2, hd2⟩ := hA2
    rcases hd2 with ⟨_, e⟩ | ⟨g2, cap2, cur2, hv2, hg2, _⟩
    · exact absurd e h0
    injection hv2 with e1 e2 e3
    injection e1 with e1
    injection e1 with e1
    subst e1
    have hgk : g < w.heap.size := Hp.of_lt hcur
    refine ⟨Hp.one g (.cells (Sort.putCells (Value.int .i64) 0 l'.toArray cur) 3 (0, 0)), ⟨l'.map fun x => [Value.int .i64 x], all2_e1.2 rfl, .inr ⟨g, c, Sort.putCells (Value.int .i64) 0 l'.toArray cur, by rw [hll], by simp [Hp.one], by omega, hcm, ?_, ?_⟩⟩, ?_, ?_⟩
    · rw [← hsz1, Nat.mul_one, ← hcs]
      unfold Sort.putCells
      simp
    · rw [← hsz1, Nat.mul_one, flat_one]
      apply List.ext_getElem?
      intro j
      rw [List.getElem?_take, List.getElem?_map]
      by_cases hj : j < l'.length
      · rw [if_pos hj, List.getElem?_eq_getElem hj]
        have hj2 : j < l.length := by omega
        have := putCells_get (enc := Value.int .i64) (d := l'.toArray) (c := cur) (k := j)
        rw [hget j hj2] at this
        simp only [Option.map_some, List.size_toArray, if_pos hj] at this
        simpa [hj] using this
      · rw [if_neg hj, List.getElem?_eq_none (by omega)]
        rfl
    · intro k o e
      unfold Hp.one at e
      split at e
      · rename_i hk
        cases e
        have := hkeep k (by rw [hk]; exact hgk)
        rw [if_pos hk.symm] at this
        exact this
      · cases e
    · intro k hk hn
      have hne : g ≠ k := by
        rintro rfl
        rw [hg2] at hn
        cases hn
      refine ⟨by rw [hkeep k hk, if_neg hne], ?_⟩
      unfold Hp.one
      rw [if_neg (fun h => hne h.symm)]
end
end Go.Proofs.YtbjaecofccpahaaGreat
namespace Go.Proofs.YtbjaecofccpahaaGreat
open Go Go.RowKit
set_option linter.unusedVariables false
set_option linter.unusedSimpArgs false
set_option maxRecDepth 20000
set_option synthInstance.maxSize 100000
set_option synthInstance.maxHeartbeats 400000
/-- the keys that have come -/
def selK {α : Type} : List Bool → List (Int × α) → List Int
  | true :: fl, p :: l => p.1 :: selK fl l
  | false :: fl, _ :: l => selK fl l
  | _, _ => []
theorem selK_none {α : Type} : ∀ (l : List (Int × α)), selK (List.replicate l.length false) l = []
  | [] => rfl
  | p :: l => by rw [List.length_cons, List.replicate_succ]; exact selK_none l
theorem selK_all {α : Type} : ∀ {fl : List Bool} {l : List (Int × α)}, fl.length = l.length → (∀ f ∈ fl, f = true) → selK fl l = l.map Prod.fst
  | [], [], _, _ => rfl
  | f :: fl, p :: l, h, ha => by
    have hf := ha f (.head _)
    subst hf
    have := selK_all (fl := fl) (l := l) (by simpa using h) fun g hg => ha g (.tail _ hg)
    show p.1 :: selK fl l = _
    rw [this]
    rfl
  | [], _ :: _, h, _ => by simp at h
  | _ :: _, [], h, _ => by simp at h
theorem selK_set {α : Type} : ∀ {fl : List Bool} {l : List (Int × α)} {j : Nat} {p : Int × α}, fl[j]? = some false → l[j]? = some p → (selK (fl.set j true) l).Perm (p.1 :: selK fl l)
  | f :: fl, q :: l, 0, p, h, hp => by
    simp only [List.getElem?_cons_zero, Option.some.injEq] at h hp
    subst h hp
    exact List.Perm.refl _
  | f :: fl, q :: l, j + 1, p, h, hp => by
    rw [List.getElem?_cons_succ] at h hp
    have := selK_set h hp
    cases f
    · exact this
    · exact (List.Perm.cons q.1 this).trans (List.Perm.swap _ _ _)
  | [], _, _, _, h, _ => by simp at h
  | _ :: _, [], _, _, _, h => by simp at h
theorem selK_len {α : Type} {fl : List Bool} : ∀ {l : List (Int × α)} {j : Nat}, fl.length = l.length → fl[j]? = some false → (selK fl l).length < l.length := by
  induction fl with
  | nil => intro l j _ h; simp at h
  | cons f fl ih =>
    intro l j hl h
    have hle : ∀ (fl : List Bool) (l : List (Int × α)), (selK fl l).length ≤ l.length := by
      intro fl
      induction fl with
      | nil => intro l; simp [selK]
      | cons f fl ih =>
        intro l
        cases l with
        | nil => cases f <;> simp [selK]
        | cons q l =>
          have := ih l
          cases f
          · show (selK fl l).length ≤ l.length + 1; omega
          · show (selK fl l).length + 1 ≤ l.length + 1; omega
    cases l with
    | nil => simp at hl
    | cons q l =>
      have hl' : fl.length = l.length := by simpa using hl
      cases f
      · have := hle fl l
        show (selK fl l).length < l.length + 1
        omega
      · cases j with
        | zero => simp at h
        | succ j =>
          have := ih (l := l) (j := j) hl' (by simpa using h)
          show (selK fl l).length + 1 < l.length + 1
          omega
section
variable {W0 : World} {L : List HP}
theorem keys_gives {R : MEnc DF} {bx b : Nat} {l : List (Int × DF)} {T : TypeId} {E0 : List HP} (hR : ∀ x, R.val x = .agg #[x.v, .int .i64 x.d]) :
    GivesP Tryz.prog 68 #[.pointer (some ⟨bx, 0, none⟩)] (fun (y : Int) (k : Unit) => #[.int .i64 y]) (fun _ _ => []) (fun pre _ => pre.length < (l.map Prod.fst).length) (fun ys => ys.Perm (l.map Prod.fst)) (cel bx [.map (some b)] T :: mapo R b l :: E0) := by
  intro g W0 J hround
  refine CT_enter Tryz.func68 rfl ?_; (simp only [Tryz.ntmps68, List.size_toArray, List.length_cons, List.length_nil, Nat.reduceAdd, Nat.reduceSub, Array.replicate_succ, Array.replicate_zero, List.push_toArray, List.append_toArray, List.nil_append, List.cons_append])
  repeat' (first | refine go ?_ | intro _ | (apply cG; first | refine cT ?_ | refine cF ?_ | refine cS (fun _ => ?_) fun _ => ?_) | (apply gW; refine sW ?_) | (apply gI; refine sI ?_) | (apply gE; refine sE ?_) | (apply gP; refine sP ?_) | (apply gC; refine sC ?_) | (apply gD; refine sD ?_) | fail)
  refine O_d (dy_rangeG (R := R) (b := b) (i := 2) (hm := rfl) Ev.pf) ?_; rintro _ _ ⟨r, rfl, rfl⟩; refine O_n ?_
  try simp only [List.set_cons_succ, List.set_cons_zero]
  repeat' (first | refine go ?_ | intro _ | (apply cG; first | refine cT ?_ | refine cF ?_ | refine cS (fun _ => ?_) fun _ => ?_) | (apply gW; refine sW ?_) | (apply gI; refine sI ?_) | (apply gE; refine sE ?_) | (apply gP; refine sP ?_) | (apply gC; refine sC ?_) | (apply gD; refine sD ?_) | fail)
  refine C_loopS (κ := List Int × List Bool × Option Nat) [false, false, false, true, false, false, true, true, true, true, true, true, true, true] (fun k => []) (fun k => [(0, J k.1), (2, rngo R b r l k.2.1 k.2.2)]) (fun k => k.2.1.length = l.length ∧ k.1.Perm (selK k.2.1 l)) (fun k => k.2.1.count false) ([], List.replicate l.length false, none) ⟨List.length_replicate, by dsimp only; rw [selK_none]⟩ trivial ?_
  rintro ⟨pre, fl, cur⟩ u ⟨hfl, hp⟩
  dsimp only at hfl hp
  ((try dsimp only); refine C_n ?_; (try simp only [Nat.reduceAdd, Nat.zero_add]))
  repeat' (first | refine go ?_ | intro _ | (apply cG; first | refine cT ?_ | refine cF ?_ | refine cS (fun _ => ?_) fun _ => ?_) | (apply gW; refine sW ?_) | (apply gI; refine sI ?_) | (apply gE; refine sE ?_) | (apply gP; refine sP ?_) | (apply gC; refine sC ?_) | (apply gD; refine sD ?_) | fail)
  refine O_d (dy_next (R := R) (b := b) (r := r) (i := 2) (hm := rfl) Ev.pf) ?_; rintro _ _ (⟨hall, rfl, rfl⟩ | ⟨j, p2, hfj, hlj, rfl, rfl⟩)
  · refine O_n ?_
    rw [selK_all hfl hall] at hp
    repeat' (first | refine go ?_ | intro _ | (apply cG; first | refine cT ?_ | refine cF ?_ | refine cS (fun _ => ?_) fun _ => ?_) | (apply gW; refine sW ?_) | (apply gI; refine sI ?_) | (apply gE; refine sE ?_) | (apply gP; refine sP ?_) | (apply gC; refine sC ?_) | (apply gD; refine sD ?_) | fail)
    refine E_sub (S := rngo R b r l fl cur :: J pre :: cel bx [.map (some b)] T :: E0) Sb ?_
    refine E_sub sub_rng_close ?_
    refine E_sub (S := J pre :: cel bx [.map (some b)] T :: mapo R b l :: E0) Sb ?_
    refine E_end0 (by first | exact .inl rfl | exact .inr rfl) (by rfl) (by rfl) ⟨pre, hp, rfl⟩
  · refine O_n ?_
    try simp only [List.set_cons_succ, List.set_cons_zero]
    repeat' (first | refine go ?_ | intro _ | (apply cG; first | refine cT ?_ | refine cF ?_ | refine cS (fun _ => ?_) fun _ => ?_) | (apply gW; refine sW ?_) | (apply gI; refine sI ?_) | (apply gE; refine sE ?_) | (apply gP; refine sP ?_) | (apply gC; refine sC ?_) | (apply gD; refine sD ?_) | fail)
    refine O_s (sv_entry (R := R) (b := b) (r := r) (j := j) (by repeat (first | exact .head _ | refine .tail _ ?_)) Ev.pf hlj) ?_
    repeat' (first | ((fail_if_success apply AtE); refine go ?_) | intro _ | (apply cG; first | refine cT ?_ | refine cF ?_ | refine cS (fun _ => ?_) fun _ => ?_) | (apply gW; refine sW ?_) | (apply gI; refine sI ?_) | (apply gE; refine sE ?_) | (apply gP; refine sP ?_) | (apply gC; refine sC ?_) | (apply gD; refine sD ?_) | fail)
    refine go ?_
    refine go ?_
    refine C_yield1 (l := g) (v1 := .int .i64 p2.1) (L' := J (pre ++ [p2.1]) :: cel bx [.map (some b)] T :: rngo R b r l (fl.set j true) (some j) :: E0)
      Ev.pf Put.pf Ev.pf Put.pf Put.pf Put.pf Ev.pf Ev.pf Ev.pf ?_ ?_
    · intro w hw
      exact hround pre p2.1 () w _ (by have := hp.length_eq; have := selK_len hfl hfj; dsimp only; rw [List.length_map]; omega) hw
    repeat' (first | refine go ?_ | intro _ | (apply cG; first | refine cT ?_ | refine cF ?_ | refine cS (fun _ => ?_) fun _ => ?_) | (apply gW; refine sW ?_) | (apply gI; refine sI ?_) | (apply gE; refine sE ?_) | (apply gP; refine sP ?_) | (apply gC; refine sC ?_) | (apply gD; refine sD ?_) | fail)
    exact E_round (pre ++ [p2.1], fl.set j true, some j) ⟨by dsimp only; rw [List.length_set]; exact hfl, (List.perm_append_comm.trans (List.Perm.cons _ hp)).trans (selK_set hfj hlj).symm⟩ (left_lt hfj) trivial Sb
theorem Keys_ct {b : Nat} : CT Tryz.prog 49 #[.map (some b)] W0 L fun r L' => ∃ bx T, r = .func (.func 68) #[] #[.pointer (some ⟨bx, 0, none⟩)] ∧ L' = cel bx [.map (some b)] T :: L := by
  refine CT_enter Tryz.func49 rfl ?_; (simp only [Tryz.ntmps49, List.size_toArray, List.length_cons, List.length_nil, Nat.reduceAdd, Nat.reduceSub, Array.replicate_succ, Array.replicate_zero, List.push_toArray, List.append_toArray, List.nil_append, List.cons_append])
  repeat' (first | refine go ?_ | intro _ | (apply cG; first | refine cT ?_ | refine cF ?_ | refine cS (fun _ => ?_) fun _ => ?_) | (apply gW; refine sW ?_) | (apply gI; refine sI ?_) | (apply gE; refine sE ?_) | (apply gP; refine sP ?_) | (apply gC; refine sC ?_) | (apply gD; refine sD ?_) | fail)
  refine E_res1 (by rfl) (by rfl) ⟨_, _, rfl, rfl⟩ Sb
/-- a slice of integers in a variable of its own -/
def bxI (p : Nat) (l : List Int) : HP := ex fun v => sp [cel p [v] 22, own 3 eI v l]
theorem bxI_sub {p : Nat} {v : Value} {l : List Int} : Sub (cel p [v] 22 :: own 3 eI v l :: L) (bxI p l :: L) :=
  (sub_close (Ls := [cel p [v] 22, own 3 eI v l])).trans (sub_ex (F := fun v => sp [cel p [v] 22, own 3 eI v l]) v)
theorem bxI_open {ops : Array Oper} {Q : Exit → Act → World → Prop} {rest : List Oper} {a : Act} {p : Nat} {l : List Int} (k : ∀ A c, OL Tryz.prog W0 (cel p [.slice A l.length c] 22 :: own 3 eI (.slice A l.length c) l :: L) ops Q rest a) : OL Tryz.prog W0 (bxI p l :: L) ops Q rest a := by
  refine ⟨fun w st => ?_⟩
  obtain ⟨v, h⟩ := st.ex_
  have h := h.open_
  obtain ⟨A, c, rfl, _⟩ := (h.rdo (.tail _ (.head _))).form
  exact (k A c).run w h
theorem bxI_openE {Q : Exit → Act → World → Prop} {e : Exit} {a : Act} {p : Nat} {l : List Int} (k : ∀ A c, EL W0 (cel p [.slice A l.length c] 22 :: own 3 eI (.slice A l.length c) l :: L) Q e a) : EL W0 (bxI p l :: L) Q e a := by
  refine ⟨fun w st => ?_⟩
  obtain ⟨v, h⟩ := st.ex_
  have h := h.open_
  obtain ⟨A, c, rfl, _⟩ := (h.rdo (.tail _ (.head _))).form
  exact (k A c).run w h
theorem AppendSeq_ct {gf : FuncId} {lb : Array Value} {N : Nat} {fin : List Int → Prop} {E : List HP} (hN : N ≤ 1000000) (eg : Enters Tryz.prog gf) (hit : GivesP Tryz.prog gf lb (fun (y : Int) (k : Unit) => #[.int .i64 y]) (fun _ _ => []) (fun pre _ => pre.length < N) fin E) :
    CT Tryz.prog 84 #[.slice none 0 0, .func (.func gf) #[] lb] W0 E fun r L' => ∃ ys A c, fin ys ∧ r = .slice A (List.length ys) c ∧ L' = own 3 eI (.slice A (List.length ys) c) ys :: E := by
  refine CT_enterM Tryz.func84 rfl ?_; (simp only [Tryz.ntmps84, List.size_toArray, List.length_cons, List.length_nil, Nat.reduceAdd, Nat.reduceSub, Array.replicate_succ, Array.replicate_zero, List.push_toArray, List.append_toArray, List.nil_append, List.cons_append])
  repeat' (first | refine go ?_ | intro _ | (apply cG; first | refine cT ?_ | refine cF ?_ | refine cS (fun _ => ?_) fun _ => ?_) | (apply gW; refine sW ?_) | (apply gI; refine sI ?_) | (apply gE; refine sE ?_) | (apply gP; refine sP ?_) | (apply gC; refine sC ?_) | (apply gD; refine sD ?_) | fail)
  rename_i c1
  refine C_ownnil 3 eI ?_
  refine C_sub (S := cel c1 [.slice none 0 0] 22 :: own 3 eI (.slice none 0 0) [] :: E) Sb ?_
  refine C_rangeP Ev.pf eg hit (fun _ _ => rfl) (fun pre => [bxI c1 pre]) bxI_sub ?_ ?_
  · intro l D rec pre y k hx
    simp only [zip1, List.setIfInBounds_toArray, List.set_cons_zero, List.set_cons_succ]
    refine ⟨_, fun W K hK => wpIn_assignG Ev.pf Put.pf (fun _ _ h => h) hK, ?_⟩
    intro W E1
    simp only [List.cons_append, List.nil_append]
    refine CI.run ?_ W
    refine CI_block (CI_region (fun _ _ h => by cases h.1) rfl ?_)
    refine O_sub (S := bxI c1 pre :: blk l rec :: blk D (.deferred (some [])) :: E1) Sb ?_
    refine bxI_open fun A5 c5 => ?_
    have hpl : pre.length < 1000000 := by first | omega | (dsimp only at hx; omega)
    repeat' (first | refine go ?_ | intro _ | (apply cG; first | refine cT ?_ | refine cF ?_ | refine cS (fun _ => ?_) fun _ => ?_) | (apply gW; refine sW ?_) | (apply gI; refine sI ?_) | (apply gE; refine sE ?_) | (apply gP; refine sP ?_) | (apply gC; refine sC ?_) | (apply gD; refine sD ?_) | fail)
    refine O_d (dy_lit1 (R := eI) y (hcs := by rfl) (hel := fun _ _ _ => by rfl)) ?_; rintro _ _ ⟨_, rfl, rfl⟩; refine O_n ?_
    refine O_d dy_append ?_; rintro _ _ ⟨A7, c7, rfl, rfl⟩; refine O_n ?_
    repeat' (first | refine go ?_ | intro _ | (apply cG; first | refine cT ?_ | refine cF ?_ | refine cS (fun _ => ?_) fun _ => ?_) | (apply gW; refine sW ?_) | (apply gI; refine sI ?_) | (apply gE; refine sE ?_) | (apply gP; refine sP ?_) | (apply gC; refine sC ?_) | (apply gD; refine sD ?_) | fail)
    refine E_sub (S := cel c1 [.slice A7 (pre.length + 1) c7] 22 :: own 3 eI (.slice A7 (pre.length + 1) c7) (pre ++ [y]) :: blk l rec :: blk D (.deferred (some [])) :: E1) Sb ?_
    refine E_sub bxI_sub ?_
    refine E_sub (S := blk l rec :: blk D (.deferred (some [])) :: bxI c1 (pre ++ [y]) :: E1) Sb ?_
    exact ⟨fun w s => ⟨rfl, s⟩⟩
  · intro D ys hf
    simp only [List.cons_append, List.nil_append]
    refine E_sub (S := bxI c1 ys :: blk D (.deferred (some [])) :: E) Sb ?_
    refine bxI_openE fun A8 c8 => ?_
    repeat' (first | refine go ?_ | intro _ | (apply cG; first | refine cT ?_ | refine cF ?_ | refine cS (fun _ => ?_) fun _ => ?_) | (apply gW; refine sW ?_) | (apply gI; refine sI ?_) | (apply gE; refine sE ?_) | (apply gP; refine sP ?_) | (apply gC; refine sC ?_) | (apply gD; refine sD ?_) | fail)
    refine E_res1d rfl (by rfl) Ev.pf ⟨ys, A8, c8, hf, rfl, rfl⟩ Sb
theorem Collect_ct {gf : FuncId} {lb : Array Value} {N : Nat} {fin : List Int → Prop} {E : List HP} (hN : N ≤ 1000000) (eg : Enters Tryz.prog gf) (hit : GivesP Tryz.prog gf lb (fun (y : Int) (k : Unit) => #[.int .i64 y]) (fun _ _ => []) (fun pre _ => pre.length < N) fin E) :
    CT Tryz.prog 66 #[.func (.func gf) #[] lb] W0 E fun r L' => ∃ ys A c, fin ys ∧ r = .slice A (List.length ys) c ∧ L' = own 3 eI (.slice A (List.length ys) c) ys :: E := by
  refine CT_enter Tryz.func66 rfl ?_; (simp only [Tryz.ntmps66, List.size_toArray, List.length_cons, List.length_nil, Nat.reduceAdd, Nat.reduceSub, Array.replicate_succ, Array.replicate_zero, List.push_toArray, List.append_toArray, List.nil_append, List.cons_append])
  repeat' (first | refine go ?_ | intro _ | (apply cG; first | refine cT ?_ | refine cF ?_ | refine cS (fun _ => ?_) fun _ => ?_) | (apply gW; refine sW ?_) | (apply gI; refine sI ?_) | (apply gE; refine sE ?_) | (apply gP; refine sP ?_) | (apply gC; refine sC ?_) | (apply gD; refine sD ?_) | fail)
  refine O_d (dy_call ArgsI.pf (by first | exact rfl | trivial | (intro a b; rfl)) (AppendSeq_ct hN eg hit)) ?_; rintro _ _ ⟨_, ⟨ys, A, c, hf, rfl, rfl⟩, rfl⟩; refine O_n ?_
  repeat' (first | refine go ?_ | intro _ | (apply cG; first | refine cT ?_ | refine cF ?_ | refine cS (fun _ => ?_) fun _ => ?_) | (apply gW; refine sW ?_) | (apply gI; refine sI ?_) | (apply gE; refine sE ?_) | (apply gP; refine sP ?_) | (apply gC; refine sC ?_) | (apply gD; refine sD ?_) | fail)
  refine E_res1 (by rfl) (by rfl) ⟨ys, A, c, hf, rfl, rfl⟩ Sb
theorem Sorted_ct {gf : FuncId} {lb : Array Value} {l : List Int} {E : List HP} (hN : l.length ≤ 1000000) (eg : Enters Tryz.prog gf) (hit : GivesP Tryz.prog gf lb (fun (y : Int) (k : Unit) => #[.int .i64 y]) (fun _ _ => []) (fun pre _ => pre.length < l.length) (fun ys => ys.Perm l) E) :
    CT Tryz.prog 48 #[.func (.func gf) #[] lb] W0 E fun r L' => ∃ ys A c, ys.Perm l ∧ ys.Pairwise (· ≤ ·) ∧ r = .slice A (List.length ys) c ∧ L' = own 3 eI (.slice A (List.length ys) c) ys :: E := by
  refine CT_enter Tryz.func48 rfl ?_; (simp only [Tryz.ntmps48, List.size_toArray, List.length_cons, List.length_nil, Nat.reduceAdd, Nat.reduceSub, Array.replicate_succ, Array.replicate_zero, List.push_toArray, List.append_toArray, List.nil_append, List.cons_append])
  repeat' (first | refine go ?_ | intro _ | (apply cG; first | refine cT ?_ | refine cF ?_ | refine cS (fun _ => ?_) fun _ => ?_) | (apply gW; refine sW ?_) | (apply gI; refine sI ?_) | (apply gE; refine sE ?_) | (apply gP; refine sP ?_) | (apply gC; refine sC ?_) | (apply gD; refine sD ?_) | fail)
  refine O_d (dy_call ArgsI.pf (by first | exact rfl | trivial | (intro a b; rfl)) (Collect_ct (by omega) eg hit)) ?_; rintro _ _ ⟨_, ⟨ys, A, c, hf, rfl, rfl⟩, rfl⟩; refine O_n ?_
  have hl := hf.length_eq
  repeat' (first | refine go ?_ | intro _ | (apply cG; first | refine cT ?_ | refine cF ?_ | refine cS (fun _ => ?_) fun _ => ?_) | (apply gW; refine sW ?_) | (apply gI; refine sI ?_) | (apply gE; refine sE ?_) | (apply gP; refine sP ?_) | (apply gC; refine sC ?_) | (apply gD; refine sD ?_) | fail)
  refine O_d (dy_call ArgsI.pf (by first | exact rfl | trivial | (intro a b; rfl)) (Sort_ct (l := ys) (by omega))) ?_; rintro _ _ ⟨_, ⟨zs, hz, hzs, rfl, rfl⟩, rfl⟩; refine O_n ?_
  have hl2 := hz.length_eq
  rw [← hl2]
  repeat' (first | refine go ?_ | intro _ | (apply cG; first | refine cT ?_ | refine cF ?_ | refine cS (fun _ => ?_) fun _ => ?_) | (apply gW; refine sW ?_) | (apply gI; refine sI ?_) | (apply gE; refine sE ?_) | (apply gP; refine sP ?_) | (apply gC; refine sC ?_) | (apply gD; refine sD ?_) | fail)
  refine E_res1 (by rfl) (by rfl) ⟨zs, A, c, hz.trans hf, hzs, rfl, rfl⟩ Sb
theorem Files_ct {p : Nat} {d : DK} (hn : d.files.length ≤ 1000000) : CT Tryz.prog 29 #[.pointer (some ⟨p, 0, none⟩)] W0 (dsk p d :: L) fun r L' => ∃ ys A c, ys.Perm (d.files.map Prod.fst) ∧ ys.Pairwise (· ≤ ·) ∧ r = .slice A (List.length ys) c ∧ L' = own 3 eI (.slice A (List.length ys) c) ys :: dsk p d :: L := by
  refine dsk_ct fun b => ?_
  refine CT_enter Tryz.func29 rfl ?_; (simp only [Tryz.ntmps29, List.size_toArray, List.length_cons, List.length_nil, Nat.reduceAdd, Nat.reduceSub, Array.replicate_succ, Array.replicate_zero, List.push_toArray, List.append_toArray, List.nil_append, List.cons_append])
  repeat' (first | refine go ?_ | intro _ | (apply cG; first | refine cT ?_ | refine cF ?_ | refine cS (fun _ => ?_) fun _ => ?_) | (apply gW; refine sW ?_) | (apply gI; refine sI ?_) | (apply gE; refine sE ?_) | (apply gP; refine sP ?_) | (apply gC; refine sC ?_) | (apply gD; refine sD ?_) | fail)
  refine O_d (dy_call ArgsI.pf (by first | exact rfl | trivial | (intro a b; rfl)) (Keys_ct)) ?_; rintro _ _ ⟨_, ⟨bx, T, rfl, rfl⟩, rfl⟩; refine O_n ?_
  repeat' (first | refine go ?_ | intro _ | (apply cG; first | refine cT ?_ | refine cF ?_ | refine cS (fun _ => ?_) fun _ => ?_) | (apply gW; refine sW ?_) | (apply gI; refine sI ?_) | (apply gE; refine sE ?_) | (apply gP; refine sP ?_) | (apply gC; refine sC ?_) | (apply gD; refine sD ?_) | fail)
  have eg : Enters Tryz.prog 68 := by first | exact rfl | trivial | (intro a b; rfl)
  refine O_sub (S := cel bx [.map (some b)] T :: mapo mDF b d.files :: cel p [.map (some b), .int .i64 d.room, .bool d.off, .bool d.armed, .int .i64 d.left] 62 :: L) Sb ?_
  refine O_d (dy_call ArgsI.pf (by first | exact rfl | trivial | (intro a b; rfl)) (Sorted_ct (l := d.files.map Prod.fst) (by rw [List.length_map]; exact hn) eg (keys_gives mDF_val))) ?_; rintro _ _ ⟨_, ⟨ys, A, c, hy, hys, rfl, rfl⟩, rfl⟩; refine O_n ?_
  repeat' (first | refine go ?_ | intro _ | (apply cG; first | refine cT ?_ | refine cF ?_ | refine cS (fun _ => ?_) fun _ => ?_) | (apply gW; refine sW ?_) | (apply gI; refine sI ?_) | (apply gE; refine sE ?_) | (apply gP; refine sP ?_) | (apply gC; refine sC ?_) | (apply gD; refine sD ?_) | fail)
  refine E_res1 (by rfl) (by rfl) ⟨ys, A, c, hy, hys, rfl, rfl⟩ (Sub.trans (B := own 3 eI (.slice A ys.length c) ys :: cel p [.map (some b), .int .i64 d.room, .bool d.off, .bool d.armed, .int .i64 d.left] 62 :: mapo mDF b d.files :: L) Sb (sub_skip dsk_sub))
end
end Go.Proofs.YtbjaecofccpahaaGreat
namespace Go.Proofs.YtbjaecofccpahaaGreat
open Go Go.RowKit
set_option linter.unusedVariables false
set_option linter.unusedSimpArgs false
/-- a byte with a bit turned -/
def fl8 (y : UInt8) (s : Nat) : UInt8 := UInt8.ofNat (bits .xor .u8 (y.toNat : Int) (IntKind.u8.wrap (1 * 2 ^ s))).toNat
theorem fl8_eq {y : UInt8} {s : Nat} (hs : s < 8) : bits .xor .u8 (y.toNat : Int) (IntKind.u8.wrap (1 * 2 ^ s)) = ((fl8 y s).toNat : Int) ∧ fl8 y s ≠ y := by
  obtain ⟨z, hz, hzy⟩ := bit_flip (y := y) (k := s) hs
  have : fl8 y s = z := by
    unfold fl8
    rw [hz]
    simp
  rw [this]
  exact ⟨hz, hzy⟩
/-- how many loose bytes are kept -/
def keepN (kp : List Int) (i : Nat) (len D : Nat) : Nat := match kp[i]? with
  | some x => (max 0 (min x ((len : Int) - (D : Int)))).toNat
  | none => 0
theorem keepN_le (kp : List Int) (i : Nat) (len D : Nat) (h : D ≤ len) : D + keepN kp i len D ≤ len := by
  unfold keepN
  split
  · omega
  · omega
/-- the loose bytes from D on, m of them, with a bit turned -/
def turnB (z : Int) (D m : Nat) (b : List UInt8) : List UInt8 :=
  if 0 ≤ z ∧ 0 < m then b.set (D + (z % ((8 * m : Nat) : Int)).toNat / 8) (fl8 (b.getD (D + (z % ((8 * m : Nat) : Int)).toNat / 8) 0) (7 - (z % ((8 * m : Nat) : Int)).toNat % 8)) else b
theorem turnB_len (z : Int) (D m : Nat) (b : List UInt8) : (turnB z D m b).length = b.length := by
  unfold turnB
  split
  · exact List.length_set
  · rfl
/-- a crash of the only file -/
def crB (kp : List Int) (z : Int) (D : Nat) (b : List UInt8) : List UInt8 := turnB z D (keepN kp 0 b.length D) (b.take (D + keepN kp 0 b.length D))
def mDB : MEnc DF := ⟨fun x => .agg #[x.v, .int .i64 x.d], fun _ => ⟨fun _ => True, fun _ h => h⟩⟩
theorem mDB_val (x : DF) : mDB.val x = .agg #[x.v, .int .i64 x.d] := rfl
theorem sub_bare {L : List HP} {p : Nat} {d : DK} : Sub (dskG mDF p d :: L) (dskG mDB p d :: L) := fun m h ⟨a, b, dj, ha, hb, ⟨bm, a1, b1, d1, ha1, hb1, h1, a2, b2, d2, ha2, hb2, ⟨es, clock, k1, k2, k3⟩, h3⟩, hL⟩ =>
  ⟨a, b, dj, ha, hb, ⟨bm, a1, b1, d1, ha1, hb1, h1, a2, b2, d2, ha2, hb2, ⟨es, clock, k1, k2.imp fun _ _ ⟨e1, e2, _⟩ => ⟨e1, e2, trivial⟩, k3⟩, h3⟩, hL⟩
theorem All2.up {α β : Type} {R S : α → β → Prop} : ∀ {l : List α} {k : List β}, (∀ a ∈ l, ∀ b, R a b → S a b) → All2 R l k → All2 S l k
  | [], [], _, _ => trivial
  | a :: l, b :: k, f, ⟨h, t⟩ => ⟨f a (.head _) b h, All2.up (fun x hx => f x (.tail _ hx)) t⟩
  | [], _ :: _, _, h => h.elim
  | _ :: _, [], _, h => h.elim
theorem sub_clad {L : List HP} {p : Nat} {d : DK} (hi : ∀ m h, SepL m L h → ∀ q ∈ d.files, Sl m eB q.2.v q.2.b) : Sub (dskG mDB p d :: L) (dskG mDF p d :: L) := fun m h ⟨a, b, dj, ha, hb, ⟨bm, a1, b1, d1, ha1, hb1, h1, a2, b2, d2, ha2, hb2, ⟨es, clock, k1, k2, k3⟩, h3⟩, hL⟩ =>
  ⟨a, b, dj, ha, hb, ⟨bm, a1, b1, d1, ha1, hb1, h1, a2, b2, d2, ha2, hb2, ⟨es, clock, k1, k2.up (fun x hx _ ⟨e1, e2, _⟩ => ⟨e1, e2, hi m b hL x hx⟩), k3⟩, h3⟩, hL⟩
/-- pointers to the bytes of a slice -/
def eEl (A : Option Addr) : Enc Nat := e1 (fun j => elp A j 1 0) fun _ => rfl
instance {A : Option Addr} : Sz (eEl A) 1 := ⟨rfl⟩
instance {A : Option Addr} : E1E (eEl A) (fun j => elp A j 1 0) := ⟨⟨_, rfl⟩⟩
def loos (D m : Nat) : List Nat := (List.range m).map fun i => D + i
theorem loos_len (D m : Nat) : (loos D m).length = m := by simp [loos]
theorem loos_get {D m i : Nat} (h : i < m) : (loos D m)[i]? = some (D + i) := by simp [loos, h]
theorem loos_succ (D m : Nat) : loos D (m + 1) = loos D m ++ [D + m] := by simp [loos, List.range_succ]
end Go.Proofs.YtbjaecofccpahaaGreat
