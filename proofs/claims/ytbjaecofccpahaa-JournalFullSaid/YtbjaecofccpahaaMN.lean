/-
  Plain: the files of a disk, seen by their numbers.
-/
import Derived.Defers
import Derived.Deep.Cut
import Derived.Test.YtbjaecofccpahaaML
import Derived.Test.YtbjaecofccpahaaMH
import Derived.Test.YtbjaecofccpahaaMJ
namespace Go.Proofs.Ytbjaecofccpahaa
open Go Go.RowKit
set_option linter.unusedVariables false
set_option linter.unusedSimpArgs false
theorem posM_succ {α : Type} {k : Int} : ∀ {l : List (Int × α)} {i : Nat}, posM k l (i + 1) = (posM k l i).map fun q => (q.1 + 1, q.2)
  | [], _ => rfl
  | p :: l, i => by
    unfold posM
    split
    · rfl
    · exact posM_succ
theorem putM_cons {α : Type} {k : Int} {x : α} {p : Int × α} {l : List (Int × α)} : putM k x (p :: l) = if k = p.1 then (k, x) :: l else p :: putM k x l := by
  by_cases h : k = p.1
  · rw [if_pos h]
    unfold putM
    rw [posM, if_pos h]
    rfl
  · rw [if_neg h]
    unfold putM
    rw [posM, if_neg h, posM_succ]
    cases posM k l 0 <;> rfl
theorem delM_cons {α : Type} {k : Int} {p : Int × α} {l : List (Int × α)} : delM k (p :: l) = if k = p.1 then l else p :: delM k l := by
  by_cases h : k = p.1
  · rw [if_pos h]
    unfold delM
    rw [posM, if_pos h]
    rfl
  · rw [if_neg h]
    unfold delM
    rw [posM, if_neg h, posM_succ]
    cases posM k l 0 <;> rfl
theorem fileF_cons {k : Int} {p : Int × DF} {l : List (Int × DF)} : fileF k (p :: l) = if k = p.1 then p.2 else fileF k l := by
  by_cases h : k = p.1
  · rw [if_pos h]
    unfold fileF
    rw [posM, if_pos h]
  · rw [if_neg h]
    unfold fileF
    rw [posM, if_neg h, posM_succ]
    cases posM k l 0 <;> rfl
theorem fileF_nil (k : Int) : fileF k [] = ⟨.slice none 0 0, [], 0⟩ := rfl
theorem usedL_cons (p : Int × DF) (l : List (Int × DF)) : usedL (p :: l) = p.2.b.length + usedL l := rfl
theorem put_used {n : Int} {x : DF} : ∀ (l : List (Int × DF)), usedL (putM n x l) + (fileF n l).b.length = usedL l + x.b.length
  | [] => by show usedL [(n, x)] + 0 = 0 + x.b.length; rw [usedL_cons]; show x.b.length + 0 + 0 = _; omega
  | p :: l => by
    have ih := put_used (n := n) (x := x) l
    rw [putM_cons, fileF_cons, usedL_cons]
    split
    · rw [usedL_cons]
      dsimp only
      omega
    · rw [usedL_cons]
      omega
theorem del_used {n : Int} : ∀ (l : List (Int × DF)), usedL (delM n l) + (fileF n l).b.length = usedL l
  | [] => rfl
  | p :: l => by
    have ih := del_used (n := n) l
    rw [delM_cons, fileF_cons, usedL_cons]
    split
    · omega
    · rw [usedL_cons]
      omega
theorem put_keys {n m : Int} {x : DF} : ∀ {l : List (Int × DF)}, m ∈ (putM n x l).map Prod.fst ↔ m = n ∨ m ∈ l.map Prod.fst
  | [] => by show m ∈ [n] ↔ _; simp
  | p :: l => by
    have ih := put_keys (n := n) (m := m) (x := x) (l := l)
    rw [putM_cons]
    split
    · rename_i h
      simp only [List.map_cons, List.mem_cons, h]
      constructor
      · rintro (h | h)
        · exact .inl h
        · exact .inr (.inr h)
      · rintro (h | h | h)
        · exact .inl h
        · exact .inl h
        · exact .inr h
    · simp only [List.map_cons, List.mem_cons, ih]
      constructor
      · rintro (h | h | h)
        · exact .inr (.inl h)
        · exact .inl h
        · exact .inr (.inr h)
      · rintro (h | h | h)
        · exact .inr (.inl h)
        · exact .inl h
        · exact .inr (.inr h)
theorem put_ok {n : Int} {x : DF} : ∀ {l : List (Int × DF)}, KeysOk l → KeysOk (putM n x l)
  | [], _ => by show [n].Nodup; simp
  | p :: l, h => by
    obtain ⟨h1, h2⟩ := List.nodup_cons.1 h
    rw [putM_cons]
    split
    · rename_i e
      refine List.nodup_cons.2 ⟨?_, h2⟩
      show n ∉ l.map Prod.fst
      rw [e]
      exact h1
    · rename_i e
      refine List.nodup_cons.2 ⟨fun hm => ?_, put_ok h2⟩
      rcases put_keys.1 hm with h | h
      · exact e h.symm
      · exact h1 h
theorem del_sub {n : Int} : ∀ (l : List (Int × DF)), (delM n l).Sublist l
  | [] => List.Sublist.refl _
  | p :: l => by
    rw [delM_cons]
    split
    · exact List.sublist_cons_self _ _
    · exact (del_sub l).cons_cons p
theorem del_ok {n : Int} {l : List (Int × DF)} (h : KeysOk l) : KeysOk (delM n l) := List.Nodup.sublist ((del_sub l).map Prod.fst) h
theorem fileF_no {n : Int} : ∀ {l : List (Int × DF)}, n ∉ l.map Prod.fst → fileF n l = ⟨.slice none 0 0, [], 0⟩
  | [], _ => rfl
  | p :: l, h => by
    simp only [List.map_cons, List.mem_cons, not_or] at h
    rw [fileF_cons, if_neg h.1, fileF_no h.2]
theorem fileF_put {n : Int} {x : DF} : ∀ (l : List (Int × DF)), fileF n (putM n x l) = x
  | [] => by show fileF n [(n, x)] = x; rw [fileF_cons, if_pos rfl]
  | p :: l => by
    rw [putM_cons]
    split
    · rw [fileF_cons, if_pos rfl]
    · rename_i h
      rw [fileF_cons, if_neg h, fileF_put l]
theorem fileF_put_ne {n m : Int} {x : DF} (hm : m ≠ n) : ∀ (l : List (Int × DF)), fileF m (putM n x l) = fileF m l
  | [] => by show fileF m [(n, x)] = _; rw [fileF_cons, if_neg hm]
  | p :: l => by
    rw [putM_cons]
    split
    · rename_i h
      rw [fileF_cons, fileF_cons, if_neg hm, if_neg (by rw [← h]; exact hm)]
    · rw [fileF_cons, fileF_cons, fileF_put_ne hm l]
theorem fileF_del {n : Int} : ∀ {l : List (Int × DF)}, KeysOk l → fileF n (delM n l) = ⟨.slice none 0 0, [], 0⟩
  | [], _ => rfl
  | p :: l, h => by
    obtain ⟨h1, h2⟩ := List.nodup_cons.1 h
    rw [delM_cons]
    split
    · rename_i e
      rw [← e] at h1
      exact fileF_no h1
    · rename_i e
      rw [fileF_cons, if_neg e, fileF_del h2]
theorem fileF_del_ne {n m : Int} (hm : m ≠ n) : ∀ (l : List (Int × DF)), fileF m (delM n l) = fileF m l
  | [] => rfl
  | p :: l => by
    rw [delM_cons]
    split
    · rename_i h
      rw [fileF_cons, if_neg (by rw [← h]; exact hm)]
    · rw [fileF_cons, fileF_cons, fileF_del_ne hm l]
theorem set_used {n : Int} {x : DF} (l : List (Int × DF)) : usedL (setF n x l) + (fileF n l).b.length = usedL l + x.b.length := by
  have h1 := put_used (n := n) (x := x) l
  unfold setF
  split
  · have h2 := del_used (n := n) (putM n x l)
    rw [fileF_put] at h2
    omega
  · exact h1
theorem set_ok {n : Int} {x : DF} {l : List (Int × DF)} (h : KeysOk l) : KeysOk (setF n x l) := by
  unfold setF
  split
  · exact del_ok (put_ok h)
  · exact put_ok h
theorem fileF_set {n : Int} {x : DF} {l : List (Int × DF)} (h : KeysOk l) : (fileF n (setF n x l)).b = x.b ∧ (fileF n (setF n x l)).d = if x.b.length = 0 then 0 else x.d := by
  unfold setF
  split
  · rename_i h0
    rw [fileF_del (put_ok h)]
    exact ⟨(List.length_eq_zero_iff.1 h0).symm, rfl⟩
  · rw [fileF_put]
    exact ⟨rfl, rfl⟩
theorem fileF_set_ne {n m : Int} {x : DF} (hm : m ≠ n) (l : List (Int × DF)) : fileF m (setF n x l) = fileF m l := by
  unfold setF
  split
  · rw [fileF_del_ne hm, fileF_put_ne hm]
  · exact fileF_put_ne hm l
theorem hard_used : ∀ (l : List (Int × DF)), usedL (hardL l) = usedL l
  | [] => rfl
  | p :: l => by
    show p.2.b.length + usedL (hardL l) = p.2.b.length + usedL l
    rw [hard_used l]
theorem hard_keys (l : List (Int × DF)) : (hardL l).map Prod.fst = l.map Prod.fst := by
  unfold hardL
  rw [List.map_map]
  rfl
theorem hard_ok {l : List (Int × DF)} (h : KeysOk l) : KeysOk (hardL l) := by unfold KeysOk; rw [hard_keys]; exact h
theorem fileF_hard {n : Int} : ∀ (l : List (Int × DF)), (fileF n (hardL l)).b = (fileF n l).b ∧ (fileF n (hardL l)).d = (fileF n l).b.length
  | [] => ⟨rfl, rfl⟩
  | p :: l => by
    show (fileF n (hardP p :: hardL l)).b = _ ∧ _ = _
    rw [show hardL (p :: l) = hardP p :: hardL l from rfl, fileF_cons, fileF_cons]
    have e : (hardP p).1 = p.1 := rfl
    rw [e]
    split
    · exact ⟨rfl, rfl⟩
    · exact fileF_hard l
theorem file_le_used {n : Int} : ∀ (l : List (Int × DF)), (fileF n l).b.length ≤ usedL l
  | [] => Nat.le_refl _
  | p :: l => by
    have := file_le_used (n := n) l
    rw [fileF_cons, usedL_cons]
    split
    · omega
    · omega
/-- what holds of every disk that the functions meet -/
structure DOk (d : DK) : Prop where
  k : KeysOk d.files
  r0 : 0 ≤ d.room
  r1 : d.room ≤ 16777216
  u : (usedL d.files : Int) ≤ d.room
  d0 : ∀ n, 0 ≤ (fileF n d.files).d ∧ (fileF n d.files).d ≤ (fileF n d.files).b.length
theorem stepF_room (d : DK) : (stepF d).1.room = d.room := by
  unfold stepF
  split
  · split <;> rfl
  · rfl
theorem stepF_left (d : DK) : d.left - 1 ≤ (stepF d).1.left ∧ (stepF d).1.left ≤ d.left := by
  unfold stepF
  split
  · split <;> exact ⟨Int.le_refl _, by dsimp only; omega⟩
  · exact ⟨by dsimp only; omega, Int.le_refl _⟩
theorem DOk.step {d : DK} (h : DOk d) : DOk (stepF d).1 := by
  have e := stepF_files d
  have r := stepF_room d
  exact ⟨by rw [e]; exact h.k, by rw [r]; exact h.r0, by rw [r]; exact h.r1, by rw [e, r]; exact h.u, fun n => by rw [e]; exact h.d0 n⟩
theorem DOk.set {d : DK} (h : DOk d) {n : Int} {x : DF} (hx : usedL d.files + x.b.length ≤ d.room + (fileF n d.files).b.length) (hd : 0 ≤ x.d ∧ x.d ≤ x.b.length) : DOk { d with files := setF n x d.files } := by
  have h1 := set_used (n := n) (x := x) d.files
  refine ⟨set_ok h.k, h.r0, h.r1, by dsimp only; omega, fun m => ?_⟩
  dsimp only
  by_cases hm : m = n
  · subst hm
    obtain ⟨h2, h3⟩ := fileF_set (n := m) (x := x) h.k
    rw [h2, h3]
    split
    · exact ⟨Int.le_refl _, by omega⟩
    · exact hd
  · rw [fileF_set_ne hm]
    exact h.d0 m
theorem DOk.hard {d : DK} (h : DOk d) : DOk { d with files := hardL d.files } :=
  ⟨hard_ok h.k, h.r0, h.r1, by dsimp only; rw [hard_used]; exact h.u, fun n => by
    dsimp only
    obtain ⟨h1, h2⟩ := fileF_hard (n := n) d.files
    rw [h1, h2]
    exact ⟨by omega, Int.le_refl _⟩⟩
theorem DOk.app {d : DK} (h : DOk d) {n : Int} {b : List UInt8} {y : Value} : DOk (appF d n b y).1 := by
  unfold appF
  split
  · split
    · exact h
    · split
      · exact h
      · rename_i hf
        have := h.d0 n
        exact (h.set (n := n) (x := ⟨y, (fileF n d.files).b ++ b, (fileF n d.files).d⟩) (by dsimp only; rw [List.length_append]; push_cast; omega) ⟨this.1, by dsimp only; rw [List.length_append]; push_cast; omega⟩).step
  · exact h
theorem DOk.sync {d : DK} (h : DOk d) : DOk (syncF d).1 := by
  unfold syncF
  split
  · exact h
  · obtain ⟨d2, s, hs⟩ : ∃ d2 s, stepF d = (d2, s) := ⟨_, _, rfl⟩
    have := h.step
    rw [hs] at this
    rw [hs]
    dsimp only
    split
    · exact this.hard
    · exact this
theorem DOk.trunc {d : DK} (h : DOk d) {n : Int} {N : Nat} {y : Value} (hN : N ≤ (fileF n d.files).b.length) : DOk (truncF d n N y).1 := by
  unfold truncF
  split
  · exact h
  · obtain ⟨d2, s, hs⟩ : ∃ d2 s, stepF d = (d2, s) := ⟨_, _, rfl⟩
    have h2 := h.step
    have e := stepF_files d
    have hd := h.d0 n
    rw [hs] at h2 e
    rw [hs]
    dsimp only at h2 e ⊢
    split
    · have hu := h2.u
      refine h2.set ?_ ?_
      · dsimp only
        rw [List.length_take, e]
        rw [e] at hu
        omega
      · dsimp only
        rw [List.length_take]
        omega
    · exact h2
theorem appF_left (d : DK) (n : Int) (b : List UInt8) (y : Value) : d.left - 1 ≤ (appF d n b y).1.left ∧ (appF d n b y).1.left ≤ d.left := by
  unfold appF
  split
  · split
    · exact ⟨by dsimp only; omega, Int.le_refl _⟩
    · split
      · exact ⟨by dsimp only; omega, Int.le_refl _⟩
      · exact stepF_left { d with files := setF n ⟨y, (fileF n d.files).b ++ b, (fileF n d.files).d⟩ d.files }
  · exact ⟨by dsimp only; omega, Int.le_refl _⟩
theorem syncF_left (d : DK) : d.left - 1 ≤ (syncF d).1.left ∧ (syncF d).1.left ≤ d.left := by
  unfold syncF
  split
  · exact ⟨by dsimp only; omega, Int.le_refl _⟩
  · obtain ⟨d2, s, hs⟩ : ∃ d2 s, stepF d = (d2, s) := ⟨_, _, rfl⟩
    have := stepF_left d
    rw [hs] at this
    rw [hs]
    dsimp only
    split
    · exact this
    · exact this
theorem truncF_left (d : DK) (n : Int) (N : Nat) (y : Value) : d.left - 1 ≤ (truncF d n N y).1.left ∧ (truncF d n N y).1.left ≤ d.left := by
  unfold truncF
  split
  · exact ⟨by dsimp only; omega, Int.le_refl _⟩
  · obtain ⟨d2, s, hs⟩ : ∃ d2 s, stepF d = (d2, s) := ⟨_, _, rfl⟩
    have := stepF_left d
    rw [hs] at this
    rw [hs]
    dsimp only
    split
    · exact this
    · exact this
end Go.Proofs.Ytbjaecofccpahaa
namespace Go.Proofs.Ytbjaecofccpahaa
open Go Go.RowKit
set_option linter.unusedVariables false
set_option linter.unusedSimpArgs false
section
variable {P : Program} {W0 w : World} {L S : List HP} {a : Act} {d : Option Tmp} {ty : TypeId} {pos : String} {aft : Array Edge} {gd : Option (Nat × Bool)}
theorem CT_enterD {f : FuncId} {fn : Func} {c : Code} {args : Array Value} {R : Value → List HP → Prop} (hf : P.funcs[f]? = some fn) (hb : fn.body = some c)
    (h : CL P W0 L c (bodyPostD P fn (RR W0 R)) { tmps := args ++ Array.replicate (fn.ntmps - args.size) undef, defers := [] }) : CT P f args W0 L R :=
  ⟨fun w s => calls_of_wp_defers hf hb (h.run w s)⟩
theorem dy_defer {x : Operand} {g : FuncId} {A B : Array Value} (hx : a.eval x = .func (.func g) A B) :
    DY P W0 L ⟨d, .defer { callee := .value x, args := #[], argTypes := #[] }, ty, pos, aft, gd⟩ a fun a' L' => ({ a with defers := { target := .fn (.func g) B, args := A } :: a.defers } : Act).put d undef = a' ∧ L' = L := by
  refine ⟨fun w s => ?_⟩
  have hr : (execOp a.eval (⟨d, .defer { callee := .value x, args := #[], argTypes := #[] }, ty, pos, aft, gd⟩ : Oper)).run P w = .ok (.defer { target := .fn (.func g) B, args := A }) w := by
    unfold execOp
    simp [resolve, hx, Deferred.ofValue]
  unfold Oper.wp
  rw [hr]
  exact ⟨L, ⟨rfl, rfl⟩, s⟩
theorem results_cell {fn : Func} {t : Tmp} {T : TypeId} [AG P T false] {tmps : Array Value} {b : Nat} {v : Value} (hr : fn.results = #[.cell t T]) (ht : tmps.getD t undef = .pointer (some ⟨b, 0, none⟩)) {U : TypeId} {cs : List Value} (hm : cel b cs U ∈ L) (hv : cs[0]? = some v) (s : St W0 w L) :
    (results fn tmps).run P w = .ok v w := by
  have := load_run (P := P) (t := T) (s.cellAt hm hv)
  obtain ⟨dd, hu, hd⟩ := (inferInstance : AG P T false).pf
  have h2 : (loadVar T ⟨b, 0, none⟩).run P w = .ok v w := by
    simpa [Instr.loadAt, Instr.sureAddr] using this
  have ht' : tmps[t]?.getD undef = .pointer (some ⟨b, 0, none⟩) := by simpa using ht
  unfold results
  simp [hr, ht', asAddr, h2]
/-- a result in a cell, nothing deferred -/
theorem E_cell0 {fn : Func} {R : Value → List HP → Prop} {t : Tmp} {T : TypeId} [AG P T false] {e : Exit} (he : e = .ret) (hd : a.defers = []) (hr : fn.results = #[.cell t T]) {b : Nat} {v : Value} (ht : a.eval (.tmp t) = .pointer (some ⟨b, 0, none⟩)) {U : TypeId} {cs : List Value} (hm : cel b cs U ∈ L) (hv : cs[0]? = some v) {L2 : List HP} (hR : R v L2) (hS : Sub L L2) :
    EL W0 L (bodyPostD P fn (RR W0 R)) e a := by
  subst he
  refine ⟨fun w s => ?_⟩
  show Leaves P fn a.tmps _ a.defers .returning w
  rw [hd]
  exact ⟨v, results_cell hr (by simpa [Act.eval] using ht) hm hv s, v, L2, rfl, hR, hS.st s⟩
/-- a function that may be called where another leaves -/
def CD (P : Program) (f : FuncId) (args : Array Value) (W0 : World) (L : List HP) (R : Value → List HP → Prop) : Prop :=
  ∃ fn c, P.funcs[f]? = some fn ∧ fn.body = some c ∧ CL P W0 L c (bodyPost P fn (RR W0 R)) { tmps := args ++ Array.replicate (fn.ntmps - args.size) undef, defers := [] }
/-- a result in a cell, one closure deferred -/
theorem E_cell1 {fn : Func} {R R1 : Value → List HP → Prop} {t : Tmp} {T : TypeId} [AG P T false] {e : Exit} (he : e = .ret) {g : FuncId} {B : Array Value} (hd : a.defers = [{ target := .fn (.func g) B, args := #[] }]) (hr : fn.results = #[.cell t T])
    (eg : Enters P g) {b : Nat} (ht : a.eval (.tmp t) = .pointer (some ⟨b, 0, none⟩)) (h : CD P g B W0 L R1) (k : ∀ v1 L1, R1 v1 L1 → ∃ v cs U L2, cel b cs U ∈ L1 ∧ cs[0]? = some v ∧ R v L2 ∧ Sub L1 L2) :
    EL W0 L (bodyPostD P fn (RR W0 R)) e a := by
  subst he
  obtain ⟨fg, c, hg, hb, hc⟩ := h
  refine ⟨fun w s => ?_⟩
  show Leaves P fn a.tmps _ a.defers .returning w
  rw [hd]
  refine leaves_cons (f := g) (args := B) (by simp) ?_ ((callsD_of_wp hg hb (hc.run w s)).mono ?_)
  · have := eg B w
    simpa [invoke] using this
  · rintro e u' w' ⟨rfl, v1, L1, rfl, hR1, s1⟩
    obtain ⟨v, cs, U, L2, hm, hv, hR, hS⟩ := k v1 L1 hR1
    exact ⟨v, results_cell hr (by simpa [Act.eval] using ht) hm hv s1, v, L2, rfl, hR, hS.st s1⟩
end
end Go.Proofs.Ytbjaecofccpahaa
namespace Go.Proofs.Ytbjaecofccpahaa
open Go Go.RowKit
set_option linter.unusedVariables false
set_option linter.unusedSimpArgs false
theorem hmix_any (s x : UInt64) (w : World) : Calls Try.prog 74 #[uv s, uv x] w fun e w' => e = .returned (uv (mix s x)) ∧ w = w' := by
  go_enter Try.func74, Try.ntmps74
  go_wp2
  go_ret
  exact ⟨congrArg _ (mix_walk s x), rfl⟩
theorem hmix_i {a b : Int} {s x : UInt64} (ha : a = (s.toNat : Int)) (hb : b = (x.toNat : Int)) (w : World) : Calls Try.prog 74 #[.int .u64 a, .int .u64 b] w fun e w' => e = .returned (uv (mix s x)) ∧ w = w' := by
  subst ha; subst hb; exact hmix_any s x w
theorem own_form {α : Type} {E : TypeId} {R : Enc α} {l : List α} {f : FuncId} {args : Array Value} {W0 w : World} {L : List HP} (h : Calls Try.prog f args w fun e w' => ∃ r, e = .returned r ∧ St W0 w' (own E R r l :: L)) :
    Calls Try.prog f args w fun e w' => ∃ A c, e = .returned (.slice A l.length c) ∧ St W0 w' (own E R (.slice A l.length c) l :: L) :=
  h.mono fun _ _ ⟨_, he, hS⟩ => by
    obtain ⟨A, c, rfl, _⟩ := (hS.rdo (.head _)).form
    exact ⟨A, c, he, hS⟩
theorem Src.head {α : Type} {t : TypeId} {R : Enc α} {v : Value} {l : List α} {L : List HP} : Src (own t R v l :: L) R v l := .inr ⟨_, .head _⟩
theorem fold_snoc {α β : Type} {f : β → α → β} {z : β} {l : List α} {i : Nat} {x : α} (h : l[i]? = some x) : (l.take (i + 1)).foldl f z = f ((l.take i).foldl f z) x := by
  rw [List.take_add_one, h]; simp
theorem Src.mono {α : Type} {R : Enc α} {v : Value} {l : List α} {L L' : List HP} (h : Src L R v l) (f : ∀ x ∈ L, x ∈ L') : Src L' R v l := by
  rcases h with h | ⟨t, h⟩
  · exact .inl (f _ h)
  · exact .inr ⟨t, f _ h⟩
theorem Src.one {α : Type} {R : Enc α} {v : Value} {l : List α} {L : List HP} (h : Src L R v l) : ∃ A ∈ L, Src [A] R v l := by
  rcases h with h | ⟨t, h⟩
  · exact ⟨_, h, .inl List.mem_cons_self⟩
  · exact ⟨_, h, .inr ⟨t, List.mem_cons_self⟩⟩
theorem results_none {fn : Func} (h : fn.results = #[]) (tmps : Array Value) (P : Program) (w : World) : (results fn tmps).run P w = .ok (.tuple #[]) w := by
  simp [results, h]
set_option maxRecDepth 8000 in
set_option maxHeartbeats 1000000 in
theorem wordsS_gives {s : ByteArray} {bs : List UInt8} (hbs : s.data.toList = bs) (hs : bs.length ≤ 100000000000000) (b : Nat) :
    Gives Try.prog 85 #[.pointer (some ⟨b, 0, none⟩)] (fun x => #[uv x]) (wordsOf bs) [cel b [.string s] 9] := by
  intro y W0 w J hround hS
  have hsl : bs.length = s.size := by rw [← hbs]; rfl
  go_enter Try.func85, Try.ntmps85
  go_wp2
  go_loopw [3] (fun i wr => Hid (∃ j : Nat, 8 * j ≤ bs.length + 7 ∧ i = .int .i64 ((8 * j : Nat) : Int) ∧ St W0 wr (J ((wordsOf bs).take j) ++ [cel b [.string s] 9]))) (fun i _ => bs.length + 8 - (intOf i).toNat)
  case atStart => exact Lib.hid ⟨0, by omega, rfl, hS⟩
  case round =>
    clear hS w
    obtain ⟨j, hj, rfl, hS⟩ := hrel.out
    have hm := List.mem_append_right (J ((wordsOf bs).take j)) (List.Mem.head (a := cel b [.string s] 9) [])
    by_cases hlt : 8 * j < s.size
    · obtain ⟨m, hm1⟩ : ∃ m, m = min 8 (s.size - 8 * j) := ⟨_, rfl⟩
      have hm2 : 1 ≤ m ∧ m ≤ 8 ∧ 8 * j + m ≤ s.size ∧ (m = 8 ∨ 8 * j + m = s.size) := by omega
      clear hm1
      obtain ⟨hm1, hm2, hm3, hm4⟩ := hm2
      have hltb : decide (8 * (j : Int) < (s.size : Int)) = true := by simp; omega
      by_cases h8 : 8 * j + 8 ≤ s.size
      all_goals
        go_wp2_with ((with_reducible refine g_load ?_); refine wl_load hS (by rfl) (by rfl) (by rfl) hm (by rfl) ?_)
        go_loop [4, 5] (fun x k => Hid (∃ q : Nat, q ≤ m ∧ k = .int .i64 ((8 * j + q : Nat) : Int) ∧ x = uv (leW ((bs.drop (8 * j)).take q)))) (fun _ k => (8 * j + m - intOf k).toNat)
        case atStart => exact Lib.hid ⟨0, by omega, by go_num, rfl⟩
        case round =>
          obtain ⟨q, hq, rfl, rfl⟩ := hrel.out
          by_cases hq0 : q < m
          · go_wp2_with ((with_reducible refine g_load ?_); refine wl_load hS (by rfl) (by rfl) (by rfl) hm (by rfl) ?_)
            go_round
            case rel =>
              refine Lib.hid ⟨q + 1, by omega, by go_num, ?_⟩
              have hx : (bs.drop (8 * j))[q]? = some (s[8 * j + q]'(by omega)) := by
                rw [List.getElem?_drop, ← hbs, Array.getElem?_toList]
                exact Array.getElem?_eq_getElem (xs := s.data) (i := 8 * j + q) (by show 8 * j + q < s.size; omega)
              first | with_reducible exact leW_or hx (by omega) | with_reducible exact leW_or2 hx (by omega)
            case measure => simp [intOf]; omega
          · obtain rfl : q = m := by omega
            go_upto_region 8 with ((with_reducible refine g_load ?_); refine wl_load hS (by rfl) (by rfl) (by rfl) hm (by rfl) ?_)
            have hpart := words_part (bs := bs) (j := j) (by omega)
            refine wp_yield1 (l := y) (v := uv (wordAt bs j)) rfl (congrArg uv (word_whole (by omega) (by omega))) (of_decide_eq_true (by rfl)) (hround _ _ _ _ hpart.1 hS) (fun _ _ h => h.1) ?_
            clear hS
            intro w' ⟨_, hS⟩
            rw [← hpart.2] at hS
            clear hpart hm
            go_wp2
            go_roundw
            case rel =>
              refine Lib.hid ⟨j + 1, by omega, by go_num, hS⟩
            case measure => simp [intOf]; omega
    · go_wp2_with ((with_reducible refine g_load ?_); refine wl_load hS (by rfl) (by rfl) (by rfl) hm (by rfl) ?_)
      rw [words_all (by omega)] at hS
      exact bodyPost_end (results_none rfl _ _ _) rfl ⟨⟨_, rfl⟩, hS⟩
set_option maxRecDepth 8000 in
set_option maxHeartbeats 1000000 in
theorem wordsB_gives {v : Value} {bs : List UInt8} {A0 : HP} (hA : Src [A0] eB v bs) (hs : bs.length ≤ 100000000000000) (b : Nat) :
    Gives Try.prog 72 #[.pointer (some ⟨b, 0, none⟩)] (fun x => #[uv x]) (wordsOf bs) [cel b [v] 23, A0] := by
  intro y W0 w J hround hS
  obtain ⟨A, cap, rfl, hcap⟩ := ((hA.mono fun x hx => List.mem_append_right (J []) (List.mem_cons_of_mem _ hx) : Src (J [] ++ [cel b [v] 23, A0]) eB v bs).sl hS).form
  go_enter Try.func72, Try.ntmps72
  go_wp2
  go_loopw [3] (fun i wr => Hid (∃ j : Nat, 8 * j ≤ bs.length + 7 ∧ i = .int .i64 ((8 * j : Nat) : Int) ∧ St W0 wr (J ((wordsOf bs).take j) ++ [cel b [.slice A bs.length cap] 23, A0]))) (fun i _ => bs.length + 8 - (intOf i).toNat)
  case atStart => exact Lib.hid ⟨0, by omega, rfl, hS⟩
  case round =>
    clear hS w
    obtain ⟨j, hj, rfl, hS⟩ := hrel.out
    have hm := List.mem_append_right (J ((wordsOf bs).take j)) (List.Mem.head (a := cel b [.slice A bs.length cap] 23) [A0])
    have hv : Src (J ((wordsOf bs).take j) ++ [cel b [.slice A bs.length cap] 23, A0]) eB (.slice A bs.length cap) bs := hA.mono fun x hx => List.mem_append_right (J ((wordsOf bs).take j)) (List.mem_cons_of_mem _ hx)
    by_cases hlt : 8 * j < bs.length
    · obtain ⟨m, hm1⟩ : ∃ m, m = min 8 (bs.length - 8 * j) := ⟨_, rfl⟩
      have hm2 : 1 ≤ m ∧ m ≤ 8 ∧ 8 * j + m ≤ bs.length ∧ (m = 8 ∨ 8 * j + m = bs.length) := by omega
      clear hm1
      obtain ⟨hm1, hm2, hm3, hm4⟩ := hm2
      have hltb : decide (8 * (j : Int) < (bs.length : Int)) = true := by simp; omega
      by_cases h8 : 8 * j + 8 ≤ bs.length
      all_goals
        go_wp2_with ((with_reducible refine g_load ?_); refine wl_load hS (by rfl) (by rfl) (by rfl) hm (by rfl) ?_)
        go_loop [4, 5] (fun x k => Hid (∃ q : Nat, q ≤ m ∧ k = .int .i64 ((8 * j + q : Nat) : Int) ∧ x = uv (leW ((bs.drop (8 * j)).take q)))) (fun _ k => (8 * j + m - intOf k).toNat)
        case atStart => exact Lib.hid ⟨0, by omega, by go_num, rfl⟩
        case round =>
          obtain ⟨q, hq, rfl, rfl⟩ := hrel.out
          by_cases hq0 : q < m
          · go_wp2_with (first | ((with_reducible refine g_load ?_); refine wl_load hS (by rfl) (by rfl) (by rfl) hm (by rfl) ?_) | ((with_reducible refine g_idx ?_); first | (refine wl_idxB (by rfl) (by rfl) (by rfl) (by rfl) (Src.sl (by first | exact hv | exact (hv).c | exact (hv).c.c | exact (hv).c.c.c | exact (hv).c.c.c.c) hS) (by omega) (by omega) ?_; intro b off x hx hb hcell) | (refine wl_idxI (by rfl) (by rfl) (by rfl) (by rfl) (Src.sl (by first | exact hv | exact (hv).c | exact (hv).c.c | exact (hv).c.c.c | exact (hv).c.c.c.c) hS) (by omega) (by omega) ?_; intro b off x hx hcell) | (refine wl_idxU (by rfl) (by rfl) (by rfl) (by rfl) (Src.sl (by first | exact hv | exact (hv).c | exact (hv).c.c | exact (hv).c.c.c | exact (hv).c.c.c.c) hS) (by omega) (by omega) ?_; intro b off x hx hb hcell)))
            go_round
            case rel =>
              refine Lib.hid ⟨q + 1, by omega, by go_num, ?_⟩
              have hx : (bs.drop (8 * j))[q]? = some x := by
                rw [List.getElem?_drop]
                first | exact hx | (have e : (8 * (j : Int) + (q : Int)).toNat = 8 * j + q := by omega
                                    rw [e] at hx; exact hx)
              first | with_reducible exact leW_or hx (by omega) | with_reducible exact leW_or2 hx (by omega)
            case measure => simp [intOf]; omega
          · obtain rfl : q = m := by omega
            go_upto_region 8 with ((with_reducible refine g_load ?_); refine wl_load hS (by rfl) (by rfl) (by rfl) hm (by rfl) ?_)
            have hpart := words_part (bs := bs) (j := j) (by omega)
            refine wp_yield1 (l := y) (v := uv (wordAt bs j)) rfl (congrArg uv (word_whole (by omega) (by omega))) (of_decide_eq_true (by rfl)) (hround _ _ _ _ hpart.1 hS) (fun _ _ h => h.1) ?_
            clear hS
            intro w' ⟨_, hS⟩
            rw [← hpart.2] at hS
            clear hpart hm
            go_wp2
            go_roundw
            case rel =>
              refine Lib.hid ⟨j + 1, by omega, by go_num, hS⟩
            case measure => simp [intOf]; omega
    · go_wp2_with ((with_reducible refine g_load ?_); refine wl_load hS (by rfl) (by rfl) (by rfl) hm (by rfl) ?_)
      rw [words_all (by omega)] at hS
      exact bodyPost_end (results_none rfl _ _ _) rfl ⟨⟨_, rfl⟩, hS⟩
theorem St.rot {A : HP} {W0 w : World} {L : List HP} (hS : St W0 w (A :: L)) : St W0 w (L ++ [A]) := hS.perm (List.perm_append_singleton A L).symm
theorem St.unrot {A : HP} {W0 w : World} {L : List HP} (hS : St W0 w (L ++ [A])) : St W0 w (A :: L) := hS.perm (List.perm_append_singleton A L)
theorem St.unrot2 {A B C : HP} {W0 w : World} {L : List HP} (hS : St W0 w (A :: B :: (L ++ [C]))) : St W0 w (A :: B :: L) := (hS.perm (by simpa using List.perm_append_singleton C (A :: B :: L))).drop
theorem wordsS_any {W0 w : World} {L : List HP} (hS : St W0 w L) (s : ByteArray) :
    Calls Try.prog 73 #[.string s] w fun e w' => ∃ b, e = .returned (.func (.func 85) #[] #[.pointer (some ⟨b, 0, none⟩)]) ∧ St W0 w' (cel b [.string s] 9 :: L) := by
  go_enter Try.func73, Try.ntmps73
  go_wp2_with ((with_reducible refine g_box ?_); refine wl_box hS (by rfl) (by rfl) ?_; clear hS; intro b w' hS)
  go_ret
  exact ⟨_, rfl, hS⟩
theorem wordsB_any {W0 w : World} {L : List HP} (hS : St W0 w L) {A : Option Addr} {n c : Nat} :
    Calls Try.prog 58 #[.slice A n c] w fun e w' => ∃ b, e = .returned (.func (.func 72) #[] #[.pointer (some ⟨b, 0, none⟩)]) ∧ St W0 w' (cel b [.slice A n c] 23 :: L) := by
  go_enter Try.func58, Try.ntmps58
  go_wp2_with ((with_reducible refine g_box ?_); refine wl_box hS (by rfl) (by rfl) ?_; clear hS; intro b w' hS)
  go_ret
  exact ⟨_, rfl, hS⟩
set_option maxRecDepth 8000 in
set_option maxHeartbeats 1000000 in
theorem hSum_any {W0 w : World} {L : List HP} (hS : St W0 w L) {s : ByteArray} (hs : s.size ≤ 100000000000000) {v : Value} {l : List Int} (hv : Src L eI v l) (hl : l.length ≤ 100000000000000) :
    Calls Try.prog 59 #[.string s, v] w fun e w' => e = .returned (uv (sumW s.data.toList l)) ∧ St W0 w' L := by
  obtain ⟨A, cap, rfl, hcap⟩ := (hv.sl hS).form
  obtain ⟨bs, hbs⟩ : ∃ bs, s.data.toList = bs := ⟨_, rfl⟩
  have hsl : bs.length = s.size := by rw [← hbs]; rfl
  rw [hbs]
  (refine callsIn_wide.1 (callsIn_of_wp_marks (n := 0) Try.func59 rfl trivial (wpIn_wide.2 ?_)); simp only [Try.ntmps59, List.size_toArray, List.length_cons, List.length_nil, Nat.reduceAdd, Nat.reduceSub, Array.replicate_succ, Array.replicate_zero, List.push_toArray, List.append_toArray, List.nil_append, List.cons_append])
  go_wp2_with (first | ((with_reducible refine g_alloc ?_); refine wl_alloc hS (by rfl) (by rfl) ?_; clear hS; intro c w' hS) | ((with_reducible refine g_store ?_); refine wl_store hS (by rfl) (by rfl) (by rfl) (by rfl) (by rfl) (by with_reducible first | exact at0 | exact at1 | exact at2 | exact at3 | exact at4 | exact at5 | exact at6 | exact at7 | exact at8 | exact at9 | exact at10 | exact at11 | exact at12) (of_decide_eq_true (by rfl)) ?_; clear hS; intro w' hS; (try simp only [List.set_cons_zero, List.set_cons_succ] at hS); (try simp only [Act.eval, Act.put, List.setIfInBounds_toArray, List.set_cons_zero, List.set_cons_succ, Array.getD_eq_getD_getElem?, List.getElem?_toArray, List.getElem?_cons_succ, List.getElem?_cons_zero, Option.getD_some] at hS)) | (go_at_call 73; refine (wordsS_any hS s).mono ?_; clear hS; rintro e w' ⟨b, rfl, hS⟩))
  refine wp_range1 (I := fun pre => cel c [uv (pre.foldl mix 0)] 53 :: L) rfl (by first | exact rfl | trivial | (intro a b; rfl)) (wordsS_gives hbs (by omega) b) hS.rot ?_ ?_
  · intro l D rec pre x post hx
    refine ⟨_, fun W K hK => wpIn_assign1 hK, ?_⟩
    clear hS
    intro W hS
    refine wpIn_block (wpIn_region_frl (fun _ _ h => by cases h.1) (noDefer (by rfl)) ?_)
    simp only [List.cons_append] at hS
    simp only [Act.put, Act.eval, List.setIfInBounds_toArray, List.set_cons_zero, List.set_cons_succ, List.getElem?_toArray, List.getElem?_cons_zero, List.getElem?_cons_succ]
    go_wp2_with (first | ((with_reducible refine g_load ?_); refine wl_load hS (by rfl) (by rfl) (by rfl) (by repeat (first | exact .head _ | refine .tail _ ?_)) (by rfl) ?_) | ((with_reducible refine g_store ?_); refine wl_store hS (by rfl) (by rfl) (by rfl) (by rfl) (by rfl) (by with_reducible first | exact at0 | exact at1 | exact at2 | exact at3 | exact at4 | exact at5 | exact at6 | exact at7 | exact at8 | exact at9 | exact at10 | exact at11 | exact at12) (of_decide_eq_true (by rfl)) ?_; clear hS; intro w' hS; (try simp only [List.set_cons_zero, List.set_cons_succ] at hS); (try simp only [Act.eval, Act.put, List.setIfInBounds_toArray, List.set_cons_zero, List.set_cons_succ, Array.getD_eq_getD_getElem?, List.getElem?_toArray, List.getElem?_cons_succ, List.getElem?_cons_zero, Option.getD_some] at hS)) | (go_at_call 74; refine (hmix_any _ _ _).mono ?_; rintro e w' ⟨rfl, rfl⟩))
    exact ⟨by trivial, by simpa using hS⟩
  · clear hS
    intro D W hS
    simp only [List.cons_append] at hS
    replace hS := (hS.at_ (i := 1) (A := cel c [uv ((wordsOf bs).foldl mix 0)] 53) rfl)
    simp only [List.eraseIdx_cons_succ, List.eraseIdx_cons_zero] at hS
    simp only [Exit.inBlock, Exit.then]
    go_wp2_with (first | ((with_reducible refine g_load ?_); refine wl_load hS (by rfl) (by rfl) (by rfl) (by repeat (first | exact .head _ | refine .tail _ ?_)) (by rfl) ?_) | ((with_reducible refine g_store ?_); refine wl_store hS (by rfl) (by rfl) (by rfl) (by rfl) (by rfl) (by with_reducible first | exact at0 | exact at1 | exact at2 | exact at3 | exact at4 | exact at5 | exact at6 | exact at7 | exact at8 | exact at9 | exact at10 | exact at11 | exact at12) (of_decide_eq_true (by rfl)) ?_; clear hS; intro w' hS; (try simp only [List.set_cons_zero, List.set_cons_succ] at hS); (try simp only [Act.eval, Act.put, List.setIfInBounds_toArray, List.set_cons_zero, List.set_cons_succ, Array.getD_eq_getD_getElem?, List.getElem?_toArray, List.getElem?_cons_succ, List.getElem?_cons_zero, Option.getD_some] at hS)) | (go_at_call 74; refine (hmix_i rfl (by first | exact ofIntI _ | exact u64_ofNat _ (by omega)) _).mono ?_; rintro e w' ⟨rfl, rfl⟩))
    obtain ⟨z, hz⟩ : ∃ z, mix (mix ((wordsOf bs).foldl mix 0) (UInt64.ofNat s.size)) (UInt64.ofNat l.length) = z := ⟨_, rfl⟩
    simp only [hz] at hS
    replace hz := Lib.hid hz
    replace hS := hS.unrot2
    go_loopw [26] (fun i wr => Hid (∃ j : Nat, j ≤ l.length ∧ i = .int .i64 (j : Int) ∧ St W0 wr (cel c [uv ((l.take j).foldl mixI z)] 53 :: blk D (.deferred (some [])) :: L))) (fun i _ => l.length - (intOf i).toNat)
    case atStart => exact Lib.hid ⟨0, by omega, rfl, hS⟩
    case round =>
      clear hS
      obtain ⟨j, hj, rfl, hS⟩ := hrel.out
      by_cases hlt : j < l.length
      · go_wp2_with (first | ((with_reducible refine g_idx ?_); first | (refine wl_idxB (by rfl) (by rfl) (by rfl) (by rfl) (Src.sl (by first | exact hv | exact (hv).c | exact (hv).c.c | exact (hv).c.c.c | exact (hv).c.c.c.c) hS) (by omega) (by omega) ?_; intro b off x hx hb hcell) | (refine wl_idxI (by rfl) (by rfl) (by rfl) (by rfl) (Src.sl (by first | exact hv | exact (hv).c | exact (hv).c.c | exact (hv).c.c.c | exact (hv).c.c.c.c) hS) (by omega) (by omega) ?_; intro b off x hx hcell) | (refine wl_idxU (by rfl) (by rfl) (by rfl) (by rfl) (Src.sl (by first | exact hv | exact (hv).c | exact (hv).c.c | exact (hv).c.c.c | exact (hv).c.c.c.c) hS) (by omega) (by omega) ?_; intro b off x hx hb hcell)) | ((with_reducible refine g_load ?_); refine wl_load hS (by rfl) (by rfl) (by rfl) (by repeat (first | exact .head _ | refine .tail _ ?_)) (by rfl) ?_) | ((with_reducible refine g_store ?_); refine wl_store hS (by rfl) (by rfl) (by rfl) (by rfl) (by rfl) (by with_reducible first | exact at0 | exact at1 | exact at2 | exact at3 | exact at4 | exact at5 | exact at6 | exact at7 | exact at8 | exact at9 | exact at10 | exact at11 | exact at12) (of_decide_eq_true (by rfl)) ?_; clear hS; intro w' hS; (try simp only [List.set_cons_zero, List.set_cons_succ] at hS); (try simp only [Act.eval, Act.put, List.setIfInBounds_toArray, List.set_cons_zero, List.set_cons_succ, Array.getD_eq_getD_getElem?, List.getElem?_toArray, List.getElem?_cons_succ, List.getElem?_cons_zero, Option.getD_some] at hS)) | (go_at_call 74; refine (hmix_i rfl (ofIntI _) _).mono ?_; rintro e w' ⟨rfl, rfl⟩))
        go_roundw
        case rel => exact Lib.hid ⟨j + 1, by omega, by go_num, by rw [fold_snoc (i := j) hx]; exact hS⟩
        case measure => simp [intOf]; omega
      · obtain rfl : j = l.length := by omega
        rw [List.take_length] at hS
        go_wp2_with (first | ((with_reducible refine g_load ?_); refine wl_load hS (by rfl) (by rfl) (by rfl) (by repeat (first | exact .head _ | refine .tail _ ?_)) (by rfl) ?_) | (go_at_call 74; refine (hmix_i rfl (show (0 : Int) = ((0 : UInt64).toNat : Int) from rfl) _).mono ?_; rintro e w' ⟨rfl, rfl⟩))
        refine post_marks rfl hS.drop (fun _ => results_tmp rfl _ _ _) (fun w' hS => ⟨?_, hS⟩)
        have e : sumW bs l = mix (l.foldl mixI z) 0 := by unfold sumW; rw [hsl, hz.out]
        refine Eq.trans ?_ (congrArg (fun x => Ending.returned (uv x)) e.symm)
        exact congrArg Ending.returned (by (conv => lhs; whnf); try rfl)
theorem St.sw2 {A B X : HP} {W0 w : World} {L : List HP} (hS : St W0 w (X :: A :: B :: L)) : St W0 w (A :: B :: X :: L) := hS.perm (List.perm_middle (l₁ := [A, B])).symm
theorem St.rot2 {A B : HP} {W0 w : World} {L : List HP} (hS : St W0 w (A :: B :: L)) : St W0 w (L ++ [A, B]) := hS.perm (List.perm_append_comm (l₁ := [A, B]))
theorem St.unrot22 {A B C D : HP} {W0 w : World} {L : List HP} (hS : St W0 w (A :: B :: (L ++ [C, D]))) : St W0 w (A :: B :: D :: L) :=
  (hS.perm (by simpa using (List.perm_append_comm (l₁ := A :: B :: L) (l₂ := [C, D])) : (A :: B :: (L ++ [C, D])).Perm (C :: D :: A :: B :: L))).drop.perm (List.perm_middle (l₁ := [A, B])).symm
def bx (c : Nat) (l : List Int) : HP := ex fun v => sp [cel c [v] 22, own 3 eI v l]
theorem St.bxo {c : Nat} {l : List Int} {W0 w : World} {L : List HP} (hS : St W0 w (bx c l :: L)) : ∃ v, St W0 w (cel c [v] 22 :: own 3 eI v l :: L) := by
  obtain ⟨v, h⟩ := hS.ex_
  exact ⟨v, h.open_⟩
theorem St.bxc {c : Nat} {l : List Int} {v : Value} {W0 w : World} {L : List HP} (hS : St W0 w (cel c [v] 22 :: own 3 eI v l :: L)) : St W0 w (bx c l :: L) :=
  St.mk_ex v (St.close_ (L := [cel c [v] 22, own 3 eI v l]) hS)
set_option maxRecDepth 8000 in
set_option maxHeartbeats 1000000 in
theorem hBytes_any {W0 w : World} {L : List HP} (hS : St W0 w L) {s : ByteArray} (hs : s.size ≤ 100000000000000) {v : Value} {bs : List UInt8} (hv : Src L eB v bs) (hl : bs.length ≤ 10000000000000) :
    Calls Try.prog 35 #[.string s, v] w fun e w' => e = .returned (uv (bytesW s.data.toList bs)) ∧ St W0 w' L := by
  obtain ⟨A0, hA0, hsrc⟩ := hv.one
  obtain ⟨L0, hp⟩ := hS.mem hA0
  suffices hh : Calls Try.prog 35 #[.string s, v] w fun e w' => e = .returned (uv (bytesW s.data.toList bs)) ∧ St W0 w' (A0 :: L0) from hh.mono fun _ _ h => ⟨h.1, h.2.perm hp.symm⟩
  replace hS := hS.perm hp
  clear hp hA0 hv
  have hv : Src (A0 :: L0) eB v bs := hsrc.mono fun x hx => by simp at hx; subst hx; exact List.mem_cons_self
  obtain ⟨A, cap, rfl, hcap⟩ := (hv.sl hS).form
  have hwl : (wordsOf bs).length ≤ 10000000000000 := by simp [wordsOf]; omega
  replace hwl := Lib.hid hwl
  (refine callsIn_wide.1 (callsIn_of_wp_marks (n := 0) Try.func35 rfl trivial (wpIn_wide.2 ?_)); simp only [Try.ntmps35, List.size_toArray, List.length_cons, List.length_nil, Nat.reduceAdd, Nat.reduceSub, Array.replicate_succ, Array.replicate_zero, List.push_toArray, List.append_toArray, List.nil_append, List.cons_append])
  go_wp2_with (first | ((with_reducible refine g_alloc ?_); refine wl_alloc hS (by rfl) (by rfl) ?_; clear hS; intro c w' hS) | ((with_reducible refine g_store ?_); refine wl_store hS (by rfl) (by rfl) (by rfl) (by rfl) (by rfl) (by with_reducible first | exact at0 | exact at1 | exact at2 | exact at3 | exact at4 | exact at5 | exact at6 | exact at7 | exact at8 | exact at9 | exact at10 | exact at11 | exact at12) (of_decide_eq_true (by rfl)) ?_; clear hS; intro w' hS; (try simp only [List.set_cons_zero, List.set_cons_succ] at hS); (try simp only [Act.eval, Act.put, List.setIfInBounds_toArray, List.set_cons_zero, List.set_cons_succ, Array.getD_eq_getD_getElem?, List.getElem?_toArray, List.getElem?_cons_succ, List.getElem?_cons_zero, Option.getD_some] at hS)) | (go_at_call 58; refine (wordsB_any hS).mono ?_; clear hS; rintro e w' ⟨b, rfl, hS⟩))
  replace hS : St W0 w' (cel c [.slice none 0 0] 22 :: cel b [.slice A bs.length cap] 23 :: A0 :: L0) := hS.perm (.swap _ _ _)
  replace hS := ((hS.own_nil 3 eI).perm (.swap _ _ _)).bxc
  replace hS := hS.perm ((List.perm_append_comm (l₁ := [cel b [.slice A bs.length cap] 23, A0]) (l₂ := L0)).cons (bx c []))
  refine wp_range1 (I := fun pre => bx c (pre.map toI) :: L0) rfl (by first | exact rfl | trivial | (intro a b; rfl)) (wordsB_gives hsrc (by omega) b) hS ?_ ?_
  · intro l D rec pre x post hx
    refine ⟨_, fun W K hK => wpIn_assign1 hK, ?_⟩
    clear hS
    intro W hS
    have hpl : pre.length < (wordsOf bs).length := by rw [hx]; simp
    have hwl := hwl.out
    refine wpIn_block (wpIn_region_frl (fun _ _ h => by cases h.1) (noDefer (by rfl)) ?_)
    simp only [List.cons_append] at hS
    obtain ⟨u, hS⟩ := (hS.at_ (i := 2) rfl).bxo
    simp only [List.eraseIdx_cons_succ, List.eraseIdx_cons_zero] at hS
    go_wp2_with (first | ((with_reducible refine g_load ?_); refine wl_load hS (by rfl) (by rfl) (by rfl) (by repeat (first | exact .head _ | refine .tail _ ?_)) (by rfl) ?_) | ((with_reducible refine g_lit ?_); refine L_push hS (by rfl) (fun _ => by rfl) (fun _ => (by conv => lhs; whnf)) (of_decide_eq_true (by rfl)) (by with_reducible first | exact at0 | exact at1 | exact at2 | exact at3 | exact at4 | exact at5 | exact at6 | exact at7 | exact at8 | exact at9 | exact at10 | exact at11 | exact at12) (by rfl) (by rfl) (by decide) (by decide) (fun _ _ _ => by rfl) (by (try simp); omega) ?_; clear hS; intro A A1 c w' hS; (try simp only [List.set_cons_zero, List.set_cons_succ] at hS)) | ((with_reducible refine g_store ?_); refine wl_store hS (by rfl) (by rfl) (by rfl) (by rfl) (by rfl) (by with_reducible first | exact at0 | exact at1 | exact at2 | exact at3 | exact at4 | exact at5 | exact at6 | exact at7 | exact at8 | exact at9 | exact at10 | exact at11 | exact at12) (of_decide_eq_true (by rfl)) ?_; clear hS; intro w' hS; (try simp only [List.set_cons_zero, List.set_cons_succ] at hS); (try simp only [Act.eval, Act.put, List.setIfInBounds_toArray, List.set_cons_zero, List.set_cons_succ, Array.getD_eq_getD_getElem?, List.getElem?_toArray, List.getElem?_cons_succ, List.getElem?_cons_zero, Option.getD_some] at hS)))
    replace hS := (St.bxc hS).sw2
    have e : (pre ++ [x]).map toI = pre.map toI ++ [toI x] := by simp
    refine ⟨trivial, ?_⟩
    rw [e]
    exact hS
  · clear hS
    intro D W hS
    simp only [List.cons_append] at hS
    simp only [Exit.inBlock, Exit.then]
    have hwl := hwl.out
    replace hS := ((hS.perm (.swap _ _ _)).bxo)
    obtain ⟨u, hS⟩ := hS
    go_wp2_with (first | ((with_reducible refine g_load ?_); refine wl_load hS (by rfl) (by rfl) (by rfl) (by repeat (first | exact .head _ | refine .tail _ ?_)) (by rfl) ?_) | ((with_reducible refine g_lit ?_); refine L_push hS (by rfl) (fun _ => by rfl) (fun _ => (by conv => lhs; whnf)) (of_decide_eq_true (by rfl)) (by with_reducible first | exact at0 | exact at1 | exact at2 | exact at3 | exact at4 | exact at5 | exact at6 | exact at7 | exact at8 | exact at9 | exact at10 | exact at11 | exact at12) (by rfl) (by rfl) (by decide) (by decide) (fun _ _ _ => by rfl) (by (try simp); omega) ?_; clear hS; intro A A1 c w' hS; (try simp only [List.set_cons_zero, List.set_cons_succ] at hS)) | ((with_reducible refine g_store ?_); refine wl_store hS (by rfl) (by rfl) (by rfl) (by rfl) (by rfl) (by with_reducible first | exact at0 | exact at1 | exact at2 | exact at3 | exact at4 | exact at5 | exact at6 | exact at7 | exact at8 | exact at9 | exact at10 | exact at11 | exact at12) (of_decide_eq_true (by rfl)) ?_; clear hS; intro w' hS; (try simp only [List.set_cons_zero, List.set_cons_succ] at hS); (try simp only [Act.eval, Act.put, List.setIfInBounds_toArray, List.set_cons_zero, List.set_cons_succ, Array.getD_eq_getD_getElem?, List.getElem?_toArray, List.getElem?_cons_succ, List.getElem?_cons_zero, Option.getD_some] at hS)))
    have e : bytesW s.data.toList bs = sumW s.data.toList ((wordsOf bs).map toI ++ [(bs.length : Int)]) := rfl
    rw [List.length_map] at hS
    refine (hSum_any (hS.perm (.swap _ _ _)) hs Src.head (by simp; omega)).mono ?_
    clear hS
    rintro _ w' ⟨rfl, hS⟩
    go_wp2
    refine post_marks rfl hS.drop.drop (fun _ => results_tmp rfl _ _ _) (fun w' hS => ⟨?_, (hS.perm List.perm_append_comm).drop⟩)
    refine Eq.trans ?_ (congrArg (fun x => Ending.returned (uv x)) e.symm)
    exact congrArg Ending.returned (by (conv => lhs; whnf); try rfl)
section
variable {W0 : World} {L : List HP}
theorem hSum_ct {s : ByteArray} {v : Value} {l : List Int} {z : UInt64} (hv : Src L eI v l) (hs : s.size ≤ 100000000000000) (hl : l.length ≤ 100000000000000) (hz : sumW s.data.toList l = z) :
    CT Try.prog 59 #[.string s, v] W0 L fun r L' => r = uv z ∧ L' = L :=
  ⟨fun w s' => (hSum_any s' hs hv hl).mono fun e w' ⟨h, hw⟩ => ⟨_, _, h, ⟨by rw [hz], rfl⟩, hw⟩⟩
theorem hBytes_ct {s : ByteArray} {v : Value} {l : List UInt8} {z : UInt64} (hv : Src L eB v l) (hs : s.size ≤ 100000000000000) (hl : l.length ≤ 10000000000000) (hz : bytesW s.data.toList l = z) :
    CT Try.prog 35 #[.string s, v] W0 L fun r L' => r = uv z ∧ L' = L :=
  ⟨fun w s' => (hBytes_any s' hs hv hl).mono fun e w' ⟨h, hw⟩ => ⟨_, _, h, ⟨by rw [hz], rfl⟩, hw⟩⟩
end
end Go.Proofs.Ytbjaecofccpahaa
