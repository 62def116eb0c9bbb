/-
  No cell of these rows narrows 'for every input' (looked for: loops, veiled, ifaces, maps, wideKeys, modest, calm, conditions, laid).
  DERIVED. THE GIVEN ROWS OF THIS SEAT. 7 by the template 'for every input the law returns true; each argument reads behind the call as it read before'; 0 by the template 'total and deterministic' (their statements: YtnjjifikogblpaaTotals.lean).
  GIVEN WITH THE SEED: the statements are not yours to turn. If you find one false, say at which input.
  Laid BY PROGRAM, IN A SANDBOX (cutbox-rows.mjs): the forced cells as the released guide's own fill.sh prints them over the translation bf199410e93ab1ca… (all of the seat's roots in one cut). By AI agents, Wed Nov 11 2026. No macro, syntax, notation, axiom, sorry.
-/
import Derived.Test.YtnjjifikogblpaaChecked
import GoSem.Claim
import GoSem.ClaimJoined
import GoSem.ClaimMapViews
import Derived.JoinedTies
import Derived.KernelRfl
namespace Go.Proofs.Ytnjjifikogblpaa
/- THE CELL 'sum', in the pinned program and in every row, IS THE sha256 OF THE DUMP (.gsa) THAT YtnjjifikogblpaaProg.lean LOADS. Nothing in Lean hashes anything: it is a label: what it is worth is what the hold of that sum in a sandbox is worth. -/
noncomputable def Try.pinned : Pinned := { name := "ytnjjifikogblpaa", sum := "bf199410e93ab1ca01bd5eda180be3b837325e51d605af122e1edc191b07bda0", checked := Try.checked }
namespace Rows
def none {H : Type} : Left H := { results := [], args := [] }

/-- 'meresmanlaw31.IndexRuns': WHATEVER THE INPUT: true; the input reads as it did. -/
def indexRunsSpec : ChangeSpec := { name := "indexRuns", fn := fun _ => fun
  | [d1, d2, d3, d4] => { results := [.lit (.bool true)], args := [d1, d2, d3, d4] }
  | _ => none }
def indexRunsRow : OpenClaim := { program := "ytnjjifikogblpaa", sum := "bf199410e93ab1ca01bd5eda180be3b837325e51d605af122e1edc191b07bda0", func := "meresman/meresmanlaw31.IndexRuns", spec := "indexRuns", unfollowed := true, recurses := true, apart := false }
def IndexRunsSaid : Prop := indexRunsRow.holds Try.pinned (OpenSpec.ofChange indexRunsSpec)

/-- ITS FALSE NEIGHBOUR: 'it returns false'. Refute it at one input. -/
def indexRunsWrong : ChangeSpec := { name := "indexRuns", fn := fun _ => fun
  | [d1, d2, d3, d4] => { results := [.lit (.bool false)], args := [d1, d2, d3, d4] }
  | _ => none }
def IndexRunsWrongFalsely : Prop := indexRunsRow.holds Try.pinned (OpenSpec.ofChange indexRunsWrong)

/-- 'meresmanlaw31.IndexArguments': WHATEVER THE INPUT: true; the input reads as it did. -/
def indexArgumentsSpec : ChangeSpec := { name := "indexArguments", fn := fun _ => fun
  | [d1, d2, d3, d4, d5, d6, d7, d8] => { results := [.lit (.bool true)], args := [d1, d2, d3, d4, d5, d6, d7, d8] }
  | _ => none }
def indexArgumentsRow : OpenClaim := { program := "ytnjjifikogblpaa", sum := "bf199410e93ab1ca01bd5eda180be3b837325e51d605af122e1edc191b07bda0", func := "meresman/meresmanlaw31.IndexArguments", spec := "indexArguments", unfollowed := true, recurses := true, apart := false }
def IndexArgumentsSaid : Prop := indexArgumentsRow.holds Try.pinned (OpenSpec.ofChange indexArgumentsSpec)

/-- ITS FALSE NEIGHBOUR: 'it returns false'. Refute it at one input. -/
def indexArgumentsWrong : ChangeSpec := { name := "indexArguments", fn := fun _ => fun
  | [d1, d2, d3, d4, d5, d6, d7, d8] => { results := [.lit (.bool false)], args := [d1, d2, d3, d4, d5, d6, d7, d8] }
  | _ => none }
def IndexArgumentsWrongFalsely : Prop := indexArgumentsRow.holds Try.pinned (OpenSpec.ofChange indexArgumentsWrong)

/-- 'meresmanlaw31.IndexMeets': WHATEVER THE INPUT: true; the input reads as it did. -/
def indexMeetsSpec : ChangeSpec := { name := "indexMeets", fn := fun _ => fun
  | [d1, d2, d3, d4] => { results := [.lit (.bool true)], args := [d1, d2, d3, d4] }
  | _ => none }
def indexMeetsRow : OpenClaim := { program := "ytnjjifikogblpaa", sum := "bf199410e93ab1ca01bd5eda180be3b837325e51d605af122e1edc191b07bda0", func := "meresman/meresmanlaw31.IndexMeets", spec := "indexMeets", unfollowed := true, recurses := true, apart := false }
def IndexMeetsSaid : Prop := indexMeetsRow.holds Try.pinned (OpenSpec.ofChange indexMeetsSpec)

/-- ITS FALSE NEIGHBOUR: 'it returns false'. Refute it at one input. -/
def indexMeetsWrong : ChangeSpec := { name := "indexMeets", fn := fun _ => fun
  | [d1, d2, d3, d4] => { results := [.lit (.bool false)], args := [d1, d2, d3, d4] }
  | _ => none }
def IndexMeetsWrongFalsely : Prop := indexMeetsRow.holds Try.pinned (OpenSpec.ofChange indexMeetsWrong)

/-- 'meresmanlaw31.IndexOrder': WHATEVER THE INPUT: true; the input reads as it did. -/
def indexOrderSpec : ChangeSpec := { name := "indexOrder", fn := fun _ => fun
  | [d1, d2, d3, d4, d5] => { results := [.lit (.bool true)], args := [d1, d2, d3, d4, d5] }
  | _ => none }
def indexOrderRow : OpenClaim := { program := "ytnjjifikogblpaa", sum := "bf199410e93ab1ca01bd5eda180be3b837325e51d605af122e1edc191b07bda0", func := "meresman/meresmanlaw31.IndexOrder", spec := "indexOrder", unfollowed := true, recurses := true, apart := false }
def IndexOrderSaid : Prop := indexOrderRow.holds Try.pinned (OpenSpec.ofChange indexOrderSpec)

/-- ITS FALSE NEIGHBOUR: 'it returns false'. Refute it at one input. -/
def indexOrderWrong : ChangeSpec := { name := "indexOrder", fn := fun _ => fun
  | [d1, d2, d3, d4, d5] => { results := [.lit (.bool false)], args := [d1, d2, d3, d4, d5] }
  | _ => none }
def IndexOrderWrongFalsely : Prop := indexOrderRow.holds Try.pinned (OpenSpec.ofChange indexOrderWrong)

/-- 'meresmanlaw31.IndexParts': WHATEVER THE INPUT: true; the input reads as it did. -/
def indexPartsSpec : ChangeSpec := { name := "indexParts", fn := fun _ => fun
  | [d1, d2, d3, d4, d5] => { results := [.lit (.bool true)], args := [d1, d2, d3, d4, d5] }
  | _ => none }
def indexPartsRow : OpenClaim := { program := "ytnjjifikogblpaa", sum := "bf199410e93ab1ca01bd5eda180be3b837325e51d605af122e1edc191b07bda0", func := "meresman/meresmanlaw31.IndexParts", spec := "indexParts", unfollowed := true, recurses := true, apart := false }
def IndexPartsSaid : Prop := indexPartsRow.holds Try.pinned (OpenSpec.ofChange indexPartsSpec)

/-- ITS FALSE NEIGHBOUR: 'it returns false'. Refute it at one input. -/
def indexPartsWrong : ChangeSpec := { name := "indexParts", fn := fun _ => fun
  | [d1, d2, d3, d4, d5] => { results := [.lit (.bool false)], args := [d1, d2, d3, d4, d5] }
  | _ => none }
def IndexPartsWrongFalsely : Prop := indexPartsRow.holds Try.pinned (OpenSpec.ofChange indexPartsWrong)

/-- 'meresmanlaw31.IndexFew': WHATEVER THE INPUT: true; the input reads as it did. -/
def indexFewSpec : ChangeSpec := { name := "indexFew", fn := fun _ => fun
  | [d1, d2, d3] => { results := [.lit (.bool true)], args := [d1, d2, d3] }
  | _ => none }
def indexFewRow : OpenClaim := { program := "ytnjjifikogblpaa", sum := "bf199410e93ab1ca01bd5eda180be3b837325e51d605af122e1edc191b07bda0", func := "meresman/meresmanlaw31.IndexFew", spec := "indexFew", unfollowed := true, recurses := true, apart := false }
def IndexFewSaid : Prop := indexFewRow.holds Try.pinned (OpenSpec.ofChange indexFewSpec)

/-- ITS FALSE NEIGHBOUR: 'it returns false'. Refute it at one input. -/
def indexFewWrong : ChangeSpec := { name := "indexFew", fn := fun _ => fun
  | [d1, d2, d3] => { results := [.lit (.bool false)], args := [d1, d2, d3] }
  | _ => none }
def IndexFewWrongFalsely : Prop := indexFewRow.holds Try.pinned (OpenSpec.ofChange indexFewWrong)

/-- 'meresmanlaw31.IndexCopies': WHATEVER THE INPUT: true; the input reads as it did. -/
def indexCopiesSpec : ChangeSpec := { name := "indexCopies", fn := fun _ => fun
  | [d1, d2, d3, d4, d5] => { results := [.lit (.bool true)], args := [d1, d2, d3, d4, d5] }
  | _ => none }
def indexCopiesRow : OpenClaim := { program := "ytnjjifikogblpaa", sum := "bf199410e93ab1ca01bd5eda180be3b837325e51d605af122e1edc191b07bda0", func := "meresman/meresmanlaw31.IndexCopies", spec := "indexCopies", unfollowed := true, recurses := true, apart := false }
def IndexCopiesSaid : Prop := indexCopiesRow.holds Try.pinned (OpenSpec.ofChange indexCopiesSpec)

/-- ITS FALSE NEIGHBOUR: 'it returns false'. Refute it at one input. -/
def indexCopiesWrong : ChangeSpec := { name := "indexCopies", fn := fun _ => fun
  | [d1, d2, d3, d4, d5] => { results := [.lit (.bool false)], args := [d1, d2, d3, d4, d5] }
  | _ => none }
def IndexCopiesWrongFalsely : Prop := indexCopiesRow.holds Try.pinned (OpenSpec.ofChange indexCopiesWrong)

/- THE SECOND FORM. 'bulk': how many values and letters a reading holds, each counted each time it is reached (what is shared counts as often as it is met; a slice's spare places count too). A statement '..UptoSaid' is the law's where the arguments, and the package variables that the reading takes, are together of bulk at most 1048576: NARROWER than '..Said'. Prove '..Said' where nothing that the law and all that it calls make is longer than what came in: it says more and counts as full. Else prove '..UptoSaid'. A law counts once. -/
mutual
def uptoBulk {H : Type} : DataW H → Nat
  | .lit (.string bytes) => bytes.length + 1
  | .lit _ => 1
  | .nil => 1
  | .ptr d => uptoBulk d + 1
  | .slice elems spare => uptoBulkAll elems + uptoBulkAll spare + 1
  | .agg parts => uptoBulkAll parts + 1
  | .iface _ d => uptoBulk d + 1
  | .map entries => uptoBulkEntries entries + 1
  | .held _ => 1
def uptoBulkAll {H : Type} : List (DataW H) → Nat
  | [] => 0
  | d :: r => uptoBulk d + uptoBulkAll r
def uptoBulkEntries {H : Type} : List (Lit × DataW H) → Nat
  | [] => 0
  | x :: r => uptoBulkEntry x + uptoBulkEntries r
def uptoBulkEntry {H : Type} : Lit × DataW H → Nat
  | (.string bytes, d) => bytes.length + uptoBulk d + 1
  | (_, d) => uptoBulk d + 1
 end
def uptoSmall : (H : Type) → List (DataW H) → Bool := fun _ ds => decide (uptoBulkAll ds ≤ 1048576)
def OpenSpec.upto (s : _root_.Go.ChangeSpec) : _root_.Go.OpenSpec := { _root_.Go.OpenSpec.ofChange s with cond := some uptoSmall }

/-- 'meresmanlaw31.IndexRuns', WHERE WHAT IT READS IS OF BULK AT MOST 1048576: true; the input reads as it did. -/
def indexRunsUptoRow : OpenClaim := { program := "ytnjjifikogblpaa", sum := "bf199410e93ab1ca01bd5eda180be3b837325e51d605af122e1edc191b07bda0", func := "meresman/meresmanlaw31.IndexRuns", spec := "indexRuns", unfollowed := true, recurses := true, apart := false, narrowed := true }
def IndexRunsUptoSaid : Prop := indexRunsUptoRow.holds Try.pinned (OpenSpec.upto indexRunsSpec)

/-- 'meresmanlaw31.IndexArguments', WHERE WHAT IT READS IS OF BULK AT MOST 1048576: true; the input reads as it did. -/
def indexArgumentsUptoRow : OpenClaim := { program := "ytnjjifikogblpaa", sum := "bf199410e93ab1ca01bd5eda180be3b837325e51d605af122e1edc191b07bda0", func := "meresman/meresmanlaw31.IndexArguments", spec := "indexArguments", unfollowed := true, recurses := true, apart := false, narrowed := true }
def IndexArgumentsUptoSaid : Prop := indexArgumentsUptoRow.holds Try.pinned (OpenSpec.upto indexArgumentsSpec)

/-- 'meresmanlaw31.IndexMeets', WHERE WHAT IT READS IS OF BULK AT MOST 1048576: true; the input reads as it did. -/
def indexMeetsUptoRow : OpenClaim := { program := "ytnjjifikogblpaa", sum := "bf199410e93ab1ca01bd5eda180be3b837325e51d605af122e1edc191b07bda0", func := "meresman/meresmanlaw31.IndexMeets", spec := "indexMeets", unfollowed := true, recurses := true, apart := false, narrowed := true }
def IndexMeetsUptoSaid : Prop := indexMeetsUptoRow.holds Try.pinned (OpenSpec.upto indexMeetsSpec)

/-- 'meresmanlaw31.IndexOrder', WHERE WHAT IT READS IS OF BULK AT MOST 1048576: true; the input reads as it did. -/
def indexOrderUptoRow : OpenClaim := { program := "ytnjjifikogblpaa", sum := "bf199410e93ab1ca01bd5eda180be3b837325e51d605af122e1edc191b07bda0", func := "meresman/meresmanlaw31.IndexOrder", spec := "indexOrder", unfollowed := true, recurses := true, apart := false, narrowed := true }
def IndexOrderUptoSaid : Prop := indexOrderUptoRow.holds Try.pinned (OpenSpec.upto indexOrderSpec)

/-- 'meresmanlaw31.IndexParts', WHERE WHAT IT READS IS OF BULK AT MOST 1048576: true; the input reads as it did. -/
def indexPartsUptoRow : OpenClaim := { program := "ytnjjifikogblpaa", sum := "bf199410e93ab1ca01bd5eda180be3b837325e51d605af122e1edc191b07bda0", func := "meresman/meresmanlaw31.IndexParts", spec := "indexParts", unfollowed := true, recurses := true, apart := false, narrowed := true }
def IndexPartsUptoSaid : Prop := indexPartsUptoRow.holds Try.pinned (OpenSpec.upto indexPartsSpec)

/-- 'meresmanlaw31.IndexFew', WHERE WHAT IT READS IS OF BULK AT MOST 1048576: true; the input reads as it did. -/
def indexFewUptoRow : OpenClaim := { program := "ytnjjifikogblpaa", sum := "bf199410e93ab1ca01bd5eda180be3b837325e51d605af122e1edc191b07bda0", func := "meresman/meresmanlaw31.IndexFew", spec := "indexFew", unfollowed := true, recurses := true, apart := false, narrowed := true }
def IndexFewUptoSaid : Prop := indexFewUptoRow.holds Try.pinned (OpenSpec.upto indexFewSpec)

/-- 'meresmanlaw31.IndexCopies', WHERE WHAT IT READS IS OF BULK AT MOST 1048576: true; the input reads as it did. -/
def indexCopiesUptoRow : OpenClaim := { program := "ytnjjifikogblpaa", sum := "bf199410e93ab1ca01bd5eda180be3b837325e51d605af122e1edc191b07bda0", func := "meresman/meresmanlaw31.IndexCopies", spec := "indexCopies", unfollowed := true, recurses := true, apart := false, narrowed := true }
def IndexCopiesUptoSaid : Prop := indexCopiesUptoRow.holds Try.pinned (OpenSpec.upto indexCopiesSpec)

end Rows
end Go.Proofs.Ytnjjifikogblpaa
