/-
  The row of the law ChannelEncoding.
-/
import Derived.Test.YthbgmnoaaohbcaaRows
import Derived.WalkKit
import Derived.ProofKit
import Derived.OpenShut
import Derived.ShutString
import Derived.ChangeOld
import Derived.Below
import Derived.Lib.SmallJoins
import Derived.Test.YthbgmnoaaohbcaaMA
import Derived.Test.YthbgmnoaaohbcaaMB
import Derived.Test.YthbgmnoaaohbcaaMC
import Derived.Test.YthbgmnoaaohbcaaMD
import Derived.Test.YthbgmnoaaohbcaaME
import Derived.Test.YthbgmnoaaohbcaaMF
import Derived.Test.YthbgmnoaaohbcaaMG
import Derived.Test.YthbgmnoaaohbcaaMH
import Derived.Test.YthbgmnoaaohbcaaMI
import Derived.Test.YthbgmnoaaohbcaaMJ
import Derived.Test.YthbgmnoaaohbcaaMK
import Derived.Test.YthbgmnoaaohbcaaML
import Derived.Test.YthbgmnoaaohbcaaMM
import Derived.Test.YthbgmnoaaohbcaaMN
import Derived.Test.YthbgmnoaaohbcaaMO
import Derived.Test.YthbgmnoaaohbcaaMP
import Derived.Test.YthbgmnoaaohbcaaMQ
import Derived.Test.YthbgmnoaaohbcaaMR
import Derived.Test.YthbgmnoaaohbcaaMS
import Derived.Test.YthbgmnoaaohbcaaMT
import Derived.Test.YthbgmnoaaohbcaaMU
namespace Go.Proofs.Ythbgmnoaaohbcaa.channelEncoding
open Go.ChangeShapes Go.WideShapes Go.ChangeAt Go.RowKit Go.Joins
open Go.ChangeMaps (open_string shut_string)
set_option linter.unusedVariables false

theorem own : ownKnob Try.prog.godebug = none := by kernel_rfl
theorem laidOut : laidOutB Try.prog = true := by kernel_rfl

def IsRow (k : IntKind) (w : World) (a : Option Addr) (len cap : Nat) (zs : List Int) : Prop :=
  (a = none ∧ len = 0 ∧ cap = 0 ∧ zs = []) ∨
  ∃ x, a = some x ∧ len ≤ cap ∧ cap ≤ maxLen ∧ zs.length = cap ∧ (∀ i, i < zs.length → w.cell? (x.add i) = some (.int k (zs.getD i 0))) ∧ ∀ n ∈ zs, (Lit.int k n).wf = true

theorem walk (s a : Int) (a2 : Option Addr) (len2 cap2 : Nat) (z2 : List Int) (a1 : Int) (a4 : Int) (a3 : Option Addr) (len3 cap3 : Nat) (z3 : List Int) (w : World) (ws : (Lit.int .i64 s).wf = true) (wa : (Lit.int .i64 a).wf = true) (w2 : IsRow .u8 w a2 len2 cap2 z2) (w1 : (Lit.int .i64 a1).wf = true) (w4 : (Lit.int .u8 a4).wf = true) (w3 : IsRow .u8 w a3 len3 cap3 z3) :
    Calls Try.prog 8 #[.agg #[.int .i64 s, .int .i64 a, .slice a2 len2 cap2], .int .i64 a1, .int .u8 a4, .slice a3 len3 cap3] w fun e w' => e = .returned (.bool true) ∧ Below w.heap.size w w' := by
  have h0 : -9223372036854775808 ≤ s ∧ s ≤ 9223372036854775807 := by simpa [Lit.wf, IntKind.min, IntKind.max, IntKind.signed, IntKind.bits] using ws
  have h1 : -9223372036854775808 ≤ a ∧ a ≤ 9223372036854775807 := by simpa [Lit.wf, IntKind.min, IntKind.max, IntKind.signed, IntKind.bits] using wa
  have h2 : -9223372036854775808 ≤ a1 ∧ a1 ≤ 9223372036854775807 := by simpa [Lit.wf, IntKind.min, IntKind.max, IntKind.signed, IntKind.bits] using w1
  obtain ⟨b, hb, hbl, hbe⟩ := row_u8 w2
  obtain ⟨r, hr, hrl, hre⟩ := row_u8 w3
  have h9 := ChannelEncoding_any (c8 := toB a4) (St.mem_ hb (St.mem_ hr (St.init w))) (by omega) (by omega) h0.1 h0.2 h1.1 h1.2 h2.1 h2.2
  rw [bv, toB_wf w4] at h9
  exact h9

set_option maxRecDepth 100000 in
theorem lifted (os : Os) (started : os.Started) (H : Type) (enc : TypeId × Value → H) :
    ReturnsInHanded {} Try.checked os 8 .any (Rows.channelEncodingSpec.pre6 enc Try.prog Try.f8 Rows.channelEncodingRow.domain false) (Rows.channelEncodingSpec.post enc Try.prog Try.f8 false true false false) := by
  refine returnsInHanded_of_change (C := Try.checked) own started (by kernel_rfl) Try.func8
    (ChangeSpec.witness6 (enc := enc) (C := Try.checked) false ⟨#[], #[.agg #[.int .i64 0, .int .i64 0, .slice none 0 0], .int .i64 0, .int .u8 0, .slice none 0 0], []⟩ 8 (by kernel_rfl) (by kernel_rfl) (by kernel_rfl) (by kernel_rfl)) ?_
  intro W base args ds gs before hval0 hW hcnd _
  have hval : ∀ (j : Nat) t v, Try.f8.params[j]? = some t → args[j]? = some v → Value.okWide Try.prog W .any base t v := hval0
  have hW' := hW
  obtain ⟨p, q, hA0, hV, rfl, hfz, hnd⟩ := hW
  have hA : DataW.TrodAll enc Try.prog W 0 (fun _ => true) true Try.f8.params.toList args.toList ds p := hA0
  rw [Try.params8] at hA hval
  obtain ⟨v0, vs0, d0, ds0, p0, q0, hargs, rfl, rfl, h0, r0⟩ := trodAll_cons hA
  obtain ⟨v1, vs1, d1, ds1, p1, q1, rfl, rfl, rfl, h1, r1⟩ := trodAll_cons r0
  obtain ⟨v2, vs2, d2, ds2, p2, q2, rfl, rfl, rfl, h2, r2⟩ := trodAll_cons r1
  obtain ⟨v3, vs3, d3, ds3, p3, q3, rfl, rfl, rfl, h3, r3⟩ := trodAll_cons r2
  obtain ⟨rfl, rfl, rfl⟩ := trodAll_nil r3
  obtain rfl : args = #[v0, v1, v2, v3] := by cases args; simp_all
  obtain ⟨rfl, rfl⟩ := trodVars_none hV
  have k0 := h0
  have lt0 : ∀ x ∈ p0, x.block < W.heap.size := by obtain ⟨m, hm⟩ := k0; exact DataW.trod_lt m _ _ _ hm
  obtain ⟨c0, c1, c2, y0, y1, y2, n0, hv0, _, _, t0, t1, t2⟩ := open_agg3 Try.underlying44 (by kernel_rfl) (by kernel_rfl) (hval 0 44 v0 rfl rfl) h0
  obtain ⟨s, hs, _, ws⟩ := DataW.trod_int Try.underlying3 t0
  obtain ⟨a, ha, _, wa⟩ := DataW.trod_int Try.underlying3 t1
  obtain rfl : c0 = .int .i64 s := by simpa using hs
  obtain rfl : c1 = .int .i64 a := by simpa using ha
  obtain ⟨a2, len2, cap2, z2, hc2, w2⟩ : ∃ a2 len2 cap2 zs, c2 = .slice a2 len2 cap2 ∧ IsRow .u8 W a2 len2 cap2 zs := by
    rcases open_ints Try.underlying31 Try.underlying5 (by kernel_rfl) t2 with ⟨hcs, _⟩ | ⟨x, l, c, zs, hcs, _, hl, hm, hz, _, hcell, hwz⟩
    · exact ⟨none, 0, 0, [], by simpa using hcs, .inl ⟨rfl, rfl, rfl, rfl⟩⟩
    · exact ⟨some x, l, c, zs, by simpa using hcs, .inr ⟨_, rfl, hl, hm, by simpa using hz, hcell, hwz⟩⟩
  subst hc2
  subst hv0
  obtain ⟨a1, rfl, rfl, rfl, w1⟩ := open_int Try.underlying3 (hval 1 3 v1 rfl rfl) h1
  obtain ⟨a4, rfl, rfl, rfl, w4⟩ := open_int Try.underlying5 (hval 2 5 v2 rfl rfl) h2
  obtain ⟨a3, len3, cap3, rfl⟩ := okWide_slice Try.underlying31 (hval 3 31 v3 rfl rfl)
  have k3 := h3
  have lt3 : ∀ x ∈ p3, x.block < W.heap.size := by obtain ⟨m, hm⟩ := k3; exact DataW.trod_lt m _ _ _ hm
  obtain ⟨z3, w3⟩ : ∃ zs, IsRow .u8 W a3 len3 cap3 zs := by
    obtain ⟨fuel, hf⟩ := h3
    rcases open_ints Try.underlying31 Try.underlying5 (by kernel_rfl) hf with ⟨hcs, _⟩ | ⟨x, l, c, zs, hcs, _, hl, hm, hz, _, hcell, hwz⟩
    · simp [Value.cells] at hcs
      obtain ⟨rfl, rfl, rfl⟩ := hcs
      exact ⟨[], .inl ⟨rfl, rfl, rfl, rfl⟩⟩
    · simp [Value.cells] at hcs
      obtain ⟨rfl, rfl, rfl⟩ := hcs
      exact ⟨zs, .inr ⟨_, rfl, hl, hm, by simpa using hz, hcell, hwz⟩⟩
  clear hA0 hval0
  refine (walk s a a2 len2 cap2 z2 a1 a4 a3 len3 cap3 z3 W ws wa w2 w1 w4 w3).mono fun e W' ⟨he, bel⟩ => ?_
  subst he
  exact ⟨_, rfl, _, _, _, [], _, [], hW', trodAll_mk1 (shut_bool Try.underlying4 _), (trodAll_cons_mk (Below.trod laidOut (by kernel_rfl) (of_decide_eq_true (by kernel_rfl)) k0 bel lt0) (trodAll_cons_mk (shut_int Try.underlying3 w1) (trodAll_cons_mk (shut_int Try.underlying5 w4) (trodAll_cons_mk (Below.trod laidOut (by kernel_rfl) (of_decide_eq_true (by kernel_rfl)) k3 bel lt3) trodAll_mk0)))), rfl, bel.frame _, fun h => by cases h⟩

theorem over : Rows.channelEncodingRow.holds Try.pinned (OpenSpec.ofChange Rows.channelEncodingSpec) :=
  OpenClaim.holds_of_wide 8 Try.f8 rfl rfl rfl rfl rfl rfl rfl ⟨rfl, rfl, rfl, rfl, rfl⟩ rfl rfl rfl rfl rfl (by kernel_rfl) Try.func8 (by kernel_rfl)
    (of_decide_eq_true (by kernel_rfl)) (by unfold Func.isWrapper; first | (rw [if_pos (by decide +kernel)]; kernel_rfl) | (rw [if_neg (by decide +kernel)]; exact ⟨rfl, rfl⟩))
    (fun os started H enc _ => lifted os started H enc)

theorem proved : Rows.ChannelEncodingSaid := over
end Go.Proofs.Ythbgmnoaaohbcaa.channelEncoding
