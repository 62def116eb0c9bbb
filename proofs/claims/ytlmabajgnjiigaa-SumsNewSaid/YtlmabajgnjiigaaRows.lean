/-
  No cell of these rows narrows 'for every input' (looked for: loops, veiled, ifaces, maps, wideKeys, modest, calm, conditions, laid).
  DERIVED. THE GIVEN ROWS OF THIS SEAT. 6 by the template 'for every input the law returns true; each argument reads behind the call as it read before'; 0 by the template 'total and deterministic' (their statements: YtlmabajgnjiigaaTotals.lean).
  GIVEN WITH THE SEED: the statements are not yours to turn. If you find one false, say at which input.
  Laid BY PROGRAM, IN A SANDBOX (cutbox-rows.mjs): the forced cells as the released guide's own fill.sh prints them over the translation 932e50770e23f4e2… (all of the seat's roots in one cut). By AI agents, Wed Nov 11 2026. No macro, syntax, notation, axiom, sorry.
-/
import Derived.Test.YtlmabajgnjiigaaChecked
import GoSem.Claim
import GoSem.ClaimJoined
import GoSem.ClaimMapViews
import Derived.JoinedTies
import Derived.KernelRfl
namespace Go.Proofs.Ytlmabajgnjiigaa
/- THE CELL 'sum', in the pinned program and in every row, IS THE sha256 OF THE DUMP (.gsa) THAT YtlmabajgnjiigaaProg.lean LOADS. Nothing in Lean hashes anything: it is a label: what it is worth is what the hold of that sum in a sandbox is worth. -/
noncomputable def Try.pinned : Pinned := { name := "ytlmabajgnjiigaa", sum := "932e50770e23f4e2ec145cf3dc8ebe5e5a5126ab748f4b96639645c37731a79c", checked := Try.checked }
namespace Rows
def none {H : Type} : Left H := { results := [], args := [] }

/-- 'meresmanlaw29.SumsChanges': WHATEVER THE INPUT: true; the input reads as it did. -/
def sumsChangesSpec : ChangeSpec := { name := "sumsChanges", fn := fun _ => fun
  | [d1, d2, d3] => { results := [.lit (.bool true)], args := [d1, d2, d3] }
  | _ => none }
def sumsChangesRow : OpenClaim := { program := "ytlmabajgnjiigaa", sum := "932e50770e23f4e2ec145cf3dc8ebe5e5a5126ab748f4b96639645c37731a79c", func := "meresman/meresmanlaw29.SumsChanges", spec := "sumsChanges", unfollowed := true, recurses := true, plainKeys := false, apart := false }
def SumsChangesSaid : Prop := sumsChangesRow.holds Try.pinned (OpenSpec.ofChange sumsChangesSpec)

/-- ITS FALSE NEIGHBOUR: 'it returns false'. Refute it at one input. -/
def sumsChangesWrong : ChangeSpec := { name := "sumsChanges", fn := fun _ => fun
  | [d1, d2, d3] => { results := [.lit (.bool false)], args := [d1, d2, d3] }
  | _ => none }
def SumsChangesWrongFalsely : Prop := sumsChangesRow.holds Try.pinned (OpenSpec.ofChange sumsChangesWrong)

/-- 'meresmanlaw29.SumsParts': WHATEVER THE INPUT: true; the input reads as it did. -/
def sumsPartsSpec : ChangeSpec := { name := "sumsParts", fn := fun _ => fun
  | [d1, d2, d3] => { results := [.lit (.bool true)], args := [d1, d2, d3] }
  | _ => none }
def sumsPartsRow : OpenClaim := { program := "ytlmabajgnjiigaa", sum := "932e50770e23f4e2ec145cf3dc8ebe5e5a5126ab748f4b96639645c37731a79c", func := "meresman/meresmanlaw29.SumsParts", spec := "sumsParts", unfollowed := true, recurses := true, plainKeys := false, apart := false }
def SumsPartsSaid : Prop := sumsPartsRow.holds Try.pinned (OpenSpec.ofChange sumsPartsSpec)

/-- ITS FALSE NEIGHBOUR: 'it returns false'. Refute it at one input. -/
def sumsPartsWrong : ChangeSpec := { name := "sumsParts", fn := fun _ => fun
  | [d1, d2, d3] => { results := [.lit (.bool false)], args := [d1, d2, d3] }
  | _ => none }
def SumsPartsWrongFalsely : Prop := sumsPartsRow.holds Try.pinned (OpenSpec.ofChange sumsPartsWrong)

/-- 'meresmanlaw29.SumsNew': WHATEVER THE INPUT: true; the input reads as it did. -/
def sumsNewSpec : ChangeSpec := { name := "sumsNew", fn := fun _ => fun
  | [d1, d2, d3, d4] => { results := [.lit (.bool true)], args := [d1, d2, d3, d4] }
  | _ => none }
def sumsNewRow : OpenClaim := { program := "ytlmabajgnjiigaa", sum := "932e50770e23f4e2ec145cf3dc8ebe5e5a5126ab748f4b96639645c37731a79c", func := "meresman/meresmanlaw29.SumsNew", spec := "sumsNew", unfollowed := true, recurses := true, plainKeys := false, apart := false }
def SumsNewSaid : Prop := sumsNewRow.holds Try.pinned (OpenSpec.ofChange sumsNewSpec)

/-- ITS FALSE NEIGHBOUR: 'it returns false'. Refute it at one input. -/
def sumsNewWrong : ChangeSpec := { name := "sumsNew", fn := fun _ => fun
  | [d1, d2, d3, d4] => { results := [.lit (.bool false)], args := [d1, d2, d3, d4] }
  | _ => none }
def SumsNewWrongFalsely : Prop := sumsNewRow.holds Try.pinned (OpenSpec.ofChange sumsNewWrong)

/-- 'meresmanlaw29.SumsCover': WHATEVER THE INPUT: true; the input reads as it did. -/
def sumsCoverSpec : ChangeSpec := { name := "sumsCover", fn := fun _ => fun
  | [d1, d2, d3] => { results := [.lit (.bool true)], args := [d1, d2, d3] }
  | _ => none }
def sumsCoverRow : OpenClaim := { program := "ytlmabajgnjiigaa", sum := "932e50770e23f4e2ec145cf3dc8ebe5e5a5126ab748f4b96639645c37731a79c", func := "meresman/meresmanlaw29.SumsCover", spec := "sumsCover", unfollowed := true, recurses := true, plainKeys := false, apart := false }
def SumsCoverSaid : Prop := sumsCoverRow.holds Try.pinned (OpenSpec.ofChange sumsCoverSpec)

/-- ITS FALSE NEIGHBOUR: 'it returns false'. Refute it at one input. -/
def sumsCoverWrong : ChangeSpec := { name := "sumsCover", fn := fun _ => fun
  | [d1, d2, d3] => { results := [.lit (.bool false)], args := [d1, d2, d3] }
  | _ => none }
def SumsCoverWrongFalsely : Prop := sumsCoverRow.holds Try.pinned (OpenSpec.ofChange sumsCoverWrong)

/-- 'meresmanlaw29.SumsExact': WHATEVER THE INPUT: true; the input reads as it did. -/
def sumsExactSpec : ChangeSpec := { name := "sumsExact", fn := fun _ => fun
  | [d1, d2] => { results := [.lit (.bool true)], args := [d1, d2] }
  | _ => none }
def sumsExactRow : OpenClaim := { program := "ytlmabajgnjiigaa", sum := "932e50770e23f4e2ec145cf3dc8ebe5e5a5126ab748f4b96639645c37731a79c", func := "meresman/meresmanlaw29.SumsExact", spec := "sumsExact", unfollowed := true, recurses := true, plainKeys := false, apart := false }
def SumsExactSaid : Prop := sumsExactRow.holds Try.pinned (OpenSpec.ofChange sumsExactSpec)

/-- ITS FALSE NEIGHBOUR: 'it returns false'. Refute it at one input. -/
def sumsExactWrong : ChangeSpec := { name := "sumsExact", fn := fun _ => fun
  | [d1, d2] => { results := [.lit (.bool false)], args := [d1, d2] }
  | _ => none }
def SumsExactWrongFalsely : Prop := sumsExactRow.holds Try.pinned (OpenSpec.ofChange sumsExactWrong)

/-- 'meresmanlaw29.SumsAnew': WHATEVER THE INPUT: true; the input reads as it did. -/
def sumsAnewSpec : ChangeSpec := { name := "sumsAnew", fn := fun _ => fun
  | [d1, d2, d3] => { results := [.lit (.bool true)], args := [d1, d2, d3] }
  | _ => none }
def sumsAnewRow : OpenClaim := { program := "ytlmabajgnjiigaa", sum := "932e50770e23f4e2ec145cf3dc8ebe5e5a5126ab748f4b96639645c37731a79c", func := "meresman/meresmanlaw29.SumsAnew", spec := "sumsAnew", unfollowed := true, recurses := true, plainKeys := false, apart := false }
def SumsAnewSaid : Prop := sumsAnewRow.holds Try.pinned (OpenSpec.ofChange sumsAnewSpec)

/-- ITS FALSE NEIGHBOUR: 'it returns false'. Refute it at one input. -/
def sumsAnewWrong : ChangeSpec := { name := "sumsAnew", fn := fun _ => fun
  | [d1, d2, d3] => { results := [.lit (.bool false)], args := [d1, d2, d3] }
  | _ => none }
def SumsAnewWrongFalsely : Prop := sumsAnewRow.holds Try.pinned (OpenSpec.ofChange sumsAnewWrong)

/- THE SECOND FORM. 'bulk': how many values and letters a reading holds, each counted each time it is reached (what is shared counts as often as it is met; a slice's spare places count too). A statement '..UptoSaid' is the law's where the arguments, and the package variables that the reading takes, are together of bulk at most 1048576: NARROWER than '..Said'. Prove '..Said' where nothing that the law and all that it calls make is longer than what came in: it says more and counts as full. Else prove '..UptoSaid'. A law counts once. -/
mutual
def uptoBulk {H : Type} : DataW H → Nat
  | .lit (.string bytes) => bytes.length + 1
  | .lit _ => 1
  | .nil => 1
  | .ptr d => uptoBulk d + 1
  | .slice elems spare => uptoBulkAll elems + uptoBulkAll spare + 1
  | .agg parts => uptoBulkAll parts + 1
  | .iface _ d => uptoBulk d + 1
  | .map entries => uptoBulkEntries entries + 1
  | .held _ => 1
def uptoBulkAll {H : Type} : List (DataW H) → Nat
  | [] => 0
  | d :: r => uptoBulk d + uptoBulkAll r
def uptoBulkEntries {H : Type} : List (Lit × DataW H) → Nat
  | [] => 0
  | x :: r => uptoBulkEntry x + uptoBulkEntries r
def uptoBulkEntry {H : Type} : Lit × DataW H → Nat
  | (.string bytes, d) => bytes.length + uptoBulk d + 1
  | (_, d) => uptoBulk d + 1
 end
def uptoSmall : (H : Type) → List (DataW H) → Bool := fun _ ds => decide (uptoBulkAll ds ≤ 1048576)
def OpenSpec.upto (s : _root_.Go.ChangeSpec) : _root_.Go.OpenSpec := { _root_.Go.OpenSpec.ofChange s with cond := some uptoSmall }

/-- 'meresmanlaw29.SumsChanges', WHERE WHAT IT READS IS OF BULK AT MOST 1048576: true; the input reads as it did. -/
def sumsChangesUptoRow : OpenClaim := { program := "ytlmabajgnjiigaa", sum := "932e50770e23f4e2ec145cf3dc8ebe5e5a5126ab748f4b96639645c37731a79c", func := "meresman/meresmanlaw29.SumsChanges", spec := "sumsChanges", unfollowed := true, recurses := true, plainKeys := false, apart := false, narrowed := true }
def SumsChangesUptoSaid : Prop := sumsChangesUptoRow.holds Try.pinned (OpenSpec.upto sumsChangesSpec)

/-- 'meresmanlaw29.SumsParts', WHERE WHAT IT READS IS OF BULK AT MOST 1048576: true; the input reads as it did. -/
def sumsPartsUptoRow : OpenClaim := { program := "ytlmabajgnjiigaa", sum := "932e50770e23f4e2ec145cf3dc8ebe5e5a5126ab748f4b96639645c37731a79c", func := "meresman/meresmanlaw29.SumsParts", spec := "sumsParts", unfollowed := true, recurses := true, plainKeys := false, apart := false, narrowed := true }
def SumsPartsUptoSaid : Prop := sumsPartsUptoRow.holds Try.pinned (OpenSpec.upto sumsPartsSpec)

/-- 'meresmanlaw29.SumsNew', WHERE WHAT IT READS IS OF BULK AT MOST 1048576: true; the input reads as it did. -/
def sumsNewUptoRow : OpenClaim := { program := "ytlmabajgnjiigaa", sum := "932e50770e23f4e2ec145cf3dc8ebe5e5a5126ab748f4b96639645c37731a79c", func := "meresman/meresmanlaw29.SumsNew", spec := "sumsNew", unfollowed := true, recurses := true, plainKeys := false, apart := false, narrowed := true }
def SumsNewUptoSaid : Prop := sumsNewUptoRow.holds Try.pinned (OpenSpec.upto sumsNewSpec)

/-- 'meresmanlaw29.SumsCover', WHERE WHAT IT READS IS OF BULK AT MOST 1048576: true; the input reads as it did. -/
def sumsCoverUptoRow : OpenClaim := { program := "ytlmabajgnjiigaa", sum := "932e50770e23f4e2ec145cf3dc8ebe5e5a5126ab748f4b96639645c37731a79c", func := "meresman/meresmanlaw29.SumsCover", spec := "sumsCover", unfollowed := true, recurses := true, plainKeys := false, apart := false, narrowed := true }
def SumsCoverUptoSaid : Prop := sumsCoverUptoRow.holds Try.pinned (OpenSpec.upto sumsCoverSpec)

/-- 'meresmanlaw29.SumsExact', WHERE WHAT IT READS IS OF BULK AT MOST 1048576: true; the input reads as it did. -/
def sumsExactUptoRow : OpenClaim := { program := "ytlmabajgnjiigaa", sum := "932e50770e23f4e2ec145cf3dc8ebe5e5a5126ab748f4b96639645c37731a79c", func := "meresman/meresmanlaw29.SumsExact", spec := "sumsExact", unfollowed := true, recurses := true, plainKeys := false, apart := false, narrowed := true }
def SumsExactUptoSaid : Prop := sumsExactUptoRow.holds Try.pinned (OpenSpec.upto sumsExactSpec)

/-- 'meresmanlaw29.SumsAnew', WHERE WHAT IT READS IS OF BULK AT MOST 1048576: true; the input reads as it did. -/
def sumsAnewUptoRow : OpenClaim := { program := "ytlmabajgnjiigaa", sum := "932e50770e23f4e2ec145cf3dc8ebe5e5a5126ab748f4b96639645c37731a79c", func := "meresman/meresmanlaw29.SumsAnew", spec := "sumsAnew", unfollowed := true, recurses := true, plainKeys := false, apart := false, narrowed := true }
def SumsAnewUptoSaid : Prop := sumsAnewUptoRow.holds Try.pinned (OpenSpec.upto sumsAnewSpec)

end Rows
end Go.Proofs.Ytlmabajgnjiigaa
