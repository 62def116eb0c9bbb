/-
  No cell of these rows narrows 'for every input' (looked for: loops, veiled, ifaces, maps, wideKeys, modest, calm, conditions, laid).
  DERIVED. THE GIVEN ROWS OF THIS SEAT. 8 by the template 'for every input the law returns true; each argument reads behind the call as it read before'; 0 by the template 'total and deterministic' (their statements: YteeapkfakehocaaTotals.lean).
  GIVEN WITH THE SEED: the statements are not yours to turn. If you find one false, say at which input.
  Laid BY PROGRAM, IN A SANDBOX (cutbox-rows.mjs): the forced cells as the released guide's own fill.sh prints them over the translation 4774b8111722400a… (all of the seat's roots in one cut). By AI agents, Wed Nov 11 2026. No macro, syntax, notation, axiom, sorry.
-/
import Derived.Test.YteeapkfakehocaaChecked
import GoSem.Claim
import GoSem.ClaimJoined
import GoSem.ClaimMapViews
import Derived.JoinedTies
import Derived.KernelRfl
namespace Go.Proofs.Yteeapkfakehocaa
/- THE CELL 'sum', in the pinned program and in every row, IS THE sha256 OF THE DUMP (.gsa) THAT YteeapkfakehocaaProg.lean LOADS. Nothing in Lean hashes anything: it is a label: what it is worth is what the hold of that sum in a sandbox is worth. -/
noncomputable def Try.pinned : Pinned := { name := "yteeapkfakehocaa", sum := "4774b8111722400a6835b0ac129be8b8839c11cf680bebc146fd572bc0cf121c", checked := Try.checked }
namespace Rows
def none {H : Type} : Left H := { results := [], args := [] }

/-- 'meresmanlaw25.LabelBoxes': WHATEVER THE INPUT: true; the input reads as it did. -/
def labelBoxesSpec : ChangeSpec := { name := "labelBoxes", fn := fun _ => fun
  | [d1, d2, d3, d4] => { results := [.lit (.bool true)], args := [d1, d2, d3, d4] }
  | _ => none }
def labelBoxesRow : OpenClaim := { program := "yteeapkfakehocaa", sum := "4774b8111722400a6835b0ac129be8b8839c11cf680bebc146fd572bc0cf121c", func := "meresman/meresmanlaw25.LabelBoxes", spec := "labelBoxes", unfollowed := true, recurses := true, apart := false }
def LabelBoxesSaid : Prop := labelBoxesRow.holds Try.pinned (OpenSpec.ofChange labelBoxesSpec)

/-- ITS FALSE NEIGHBOUR: 'it returns false'. Refute it at one input. -/
def labelBoxesWrong : ChangeSpec := { name := "labelBoxes", fn := fun _ => fun
  | [d1, d2, d3, d4] => { results := [.lit (.bool false)], args := [d1, d2, d3, d4] }
  | _ => none }
def LabelBoxesWrongFalsely : Prop := labelBoxesRow.holds Try.pinned (OpenSpec.ofChange labelBoxesWrong)

/-- 'meresmanlaw25.LabelTaken': WHATEVER THE INPUT: true; the input reads as it did. -/
def labelTakenSpec : ChangeSpec := { name := "labelTaken", fn := fun _ => fun
  | [d1, d2, d3] => { results := [.lit (.bool true)], args := [d1, d2, d3] }
  | _ => none }
def labelTakenRow : OpenClaim := { program := "yteeapkfakehocaa", sum := "4774b8111722400a6835b0ac129be8b8839c11cf680bebc146fd572bc0cf121c", func := "meresman/meresmanlaw25.LabelTaken", spec := "labelTaken", unfollowed := true, recurses := true, apart := false }
def LabelTakenSaid : Prop := labelTakenRow.holds Try.pinned (OpenSpec.ofChange labelTakenSpec)

/-- ITS FALSE NEIGHBOUR: 'it returns false'. Refute it at one input. -/
def labelTakenWrong : ChangeSpec := { name := "labelTaken", fn := fun _ => fun
  | [d1, d2, d3] => { results := [.lit (.bool false)], args := [d1, d2, d3] }
  | _ => none }
def LabelTakenWrongFalsely : Prop := labelTakenRow.holds Try.pinned (OpenSpec.ofChange labelTakenWrong)

/-- 'meresmanlaw25.LabelValue': WHATEVER THE INPUT: true; the input reads as it did. -/
def labelValueSpec : ChangeSpec := { name := "labelValue", fn := fun _ => fun
  | [d1, d2, d3, d4, d5, d6] => { results := [.lit (.bool true)], args := [d1, d2, d3, d4, d5, d6] }
  | _ => none }
def labelValueRow : OpenClaim := { program := "yteeapkfakehocaa", sum := "4774b8111722400a6835b0ac129be8b8839c11cf680bebc146fd572bc0cf121c", func := "meresman/meresmanlaw25.LabelValue", spec := "labelValue", unfollowed := true, recurses := true, apart := false }
def LabelValueSaid : Prop := labelValueRow.holds Try.pinned (OpenSpec.ofChange labelValueSpec)

/-- ITS FALSE NEIGHBOUR: 'it returns false'. Refute it at one input. -/
def labelValueWrong : ChangeSpec := { name := "labelValue", fn := fun _ => fun
  | [d1, d2, d3, d4, d5, d6] => { results := [.lit (.bool false)], args := [d1, d2, d3, d4, d5, d6] }
  | _ => none }
def LabelValueWrongFalsely : Prop := labelValueRow.holds Try.pinned (OpenSpec.ofChange labelValueWrong)

/-- 'meresmanlaw25.LabelBest': WHATEVER THE INPUT: true; the input reads as it did. -/
def labelBestSpec : ChangeSpec := { name := "labelBest", fn := fun _ => fun
  | [d1, d2] => { results := [.lit (.bool true)], args := [d1, d2] }
  | _ => none }
def labelBestRow : OpenClaim := { program := "yteeapkfakehocaa", sum := "4774b8111722400a6835b0ac129be8b8839c11cf680bebc146fd572bc0cf121c", func := "meresman/meresmanlaw25.LabelBest", spec := "labelBest", unfollowed := true, recurses := true, apart := false }
def LabelBestSaid : Prop := labelBestRow.holds Try.pinned (OpenSpec.ofChange labelBestSpec)

/-- ITS FALSE NEIGHBOUR: 'it returns false'. Refute it at one input. -/
def labelBestWrong : ChangeSpec := { name := "labelBest", fn := fun _ => fun
  | [d1, d2] => { results := [.lit (.bool false)], args := [d1, d2] }
  | _ => none }
def LabelBestWrongFalsely : Prop := labelBestRow.holds Try.pinned (OpenSpec.ofChange labelBestWrong)

/-- 'meresmanlaw25.LabelPlaces': WHATEVER THE INPUT: true; the input reads as it did. -/
def labelPlacesSpec : ChangeSpec := { name := "labelPlaces", fn := fun _ => fun
  | [d1, d2, d3, d4, d5] => { results := [.lit (.bool true)], args := [d1, d2, d3, d4, d5] }
  | _ => none }
def labelPlacesRow : OpenClaim := { program := "yteeapkfakehocaa", sum := "4774b8111722400a6835b0ac129be8b8839c11cf680bebc146fd572bc0cf121c", func := "meresman/meresmanlaw25.LabelPlaces", spec := "labelPlaces", unfollowed := true, recurses := true, apart := false }
def LabelPlacesSaid : Prop := labelPlacesRow.holds Try.pinned (OpenSpec.ofChange labelPlacesSpec)

/-- ITS FALSE NEIGHBOUR: 'it returns false'. Refute it at one input. -/
def labelPlacesWrong : ChangeSpec := { name := "labelPlaces", fn := fun _ => fun
  | [d1, d2, d3, d4, d5] => { results := [.lit (.bool false)], args := [d1, d2, d3, d4, d5] }
  | _ => none }
def LabelPlacesWrongFalsely : Prop := labelPlacesRow.holds Try.pinned (OpenSpec.ofChange labelPlacesWrong)

/-- 'meresmanlaw25.LabelMoved': WHATEVER THE INPUT: true; the input reads as it did. -/
def labelMovedSpec : ChangeSpec := { name := "labelMoved", fn := fun _ => fun
  | [d1, d2, d3, d4] => { results := [.lit (.bool true)], args := [d1, d2, d3, d4] }
  | _ => none }
def labelMovedRow : OpenClaim := { program := "yteeapkfakehocaa", sum := "4774b8111722400a6835b0ac129be8b8839c11cf680bebc146fd572bc0cf121c", func := "meresman/meresmanlaw25.LabelMoved", spec := "labelMoved", unfollowed := true, recurses := true, apart := false }
def LabelMovedSaid : Prop := labelMovedRow.holds Try.pinned (OpenSpec.ofChange labelMovedSpec)

/-- ITS FALSE NEIGHBOUR: 'it returns false'. Refute it at one input. -/
def labelMovedWrong : ChangeSpec := { name := "labelMoved", fn := fun _ => fun
  | [d1, d2, d3, d4] => { results := [.lit (.bool false)], args := [d1, d2, d3, d4] }
  | _ => none }
def LabelMovedWrongFalsely : Prop := labelMovedRow.holds Try.pinned (OpenSpec.ofChange labelMovedWrong)

/-- 'meresmanlaw25.LabelBounds': WHATEVER THE INPUT: true; the input reads as it did. -/
def labelBoundsSpec : ChangeSpec := { name := "labelBounds", fn := fun _ => fun
  | [d1, d2, d3, d4, d5] => { results := [.lit (.bool true)], args := [d1, d2, d3, d4, d5] }
  | _ => none }
def labelBoundsRow : OpenClaim := { program := "yteeapkfakehocaa", sum := "4774b8111722400a6835b0ac129be8b8839c11cf680bebc146fd572bc0cf121c", func := "meresman/meresmanlaw25.LabelBounds", spec := "labelBounds", unfollowed := true, recurses := true, apart := false }
def LabelBoundsSaid : Prop := labelBoundsRow.holds Try.pinned (OpenSpec.ofChange labelBoundsSpec)

/-- ITS FALSE NEIGHBOUR: 'it returns false'. Refute it at one input. -/
def labelBoundsWrong : ChangeSpec := { name := "labelBounds", fn := fun _ => fun
  | [d1, d2, d3, d4, d5] => { results := [.lit (.bool false)], args := [d1, d2, d3, d4, d5] }
  | _ => none }
def LabelBoundsWrongFalsely : Prop := labelBoundsRow.holds Try.pinned (OpenSpec.ofChange labelBoundsWrong)

/-- 'meresmanlaw25.LabelCertified': WHATEVER THE INPUT: true; the input reads as it did. -/
def labelCertifiedSpec : ChangeSpec := { name := "labelCertified", fn := fun _ => fun
  | [d1, d2] => { results := [.lit (.bool true)], args := [d1, d2] }
  | _ => none }
def labelCertifiedRow : OpenClaim := { program := "yteeapkfakehocaa", sum := "4774b8111722400a6835b0ac129be8b8839c11cf680bebc146fd572bc0cf121c", func := "meresman/meresmanlaw25.LabelCertified", spec := "labelCertified", unfollowed := true, recurses := true, apart := false }
def LabelCertifiedSaid : Prop := labelCertifiedRow.holds Try.pinned (OpenSpec.ofChange labelCertifiedSpec)

/-- ITS FALSE NEIGHBOUR: 'it returns false'. Refute it at one input. -/
def labelCertifiedWrong : ChangeSpec := { name := "labelCertified", fn := fun _ => fun
  | [d1, d2] => { results := [.lit (.bool false)], args := [d1, d2] }
  | _ => none }
def LabelCertifiedWrongFalsely : Prop := labelCertifiedRow.holds Try.pinned (OpenSpec.ofChange labelCertifiedWrong)

/- THE SECOND FORM. 'bulk': how many values and letters a reading holds, each counted each time it is reached (what is shared counts as often as it is met; a slice's spare places count too). A statement '..UptoSaid' is the law's where the arguments, and the package variables that the reading takes, are together of bulk at most 1048576: NARROWER than '..Said'. Prove '..Said' where nothing that the law and all that it calls make is longer than what came in: it says more and counts as full. Else prove '..UptoSaid'. A law counts once. -/
mutual
def uptoBulk {H : Type} : DataW H → Nat
  | .lit (.string bytes) => bytes.length + 1
  | .lit _ => 1
  | .nil => 1
  | .ptr d => uptoBulk d + 1
  | .slice elems spare => uptoBulkAll elems + uptoBulkAll spare + 1
  | .agg parts => uptoBulkAll parts + 1
  | .iface _ d => uptoBulk d + 1
  | .map entries => uptoBulkEntries entries + 1
  | .held _ => 1
def uptoBulkAll {H : Type} : List (DataW H) → Nat
  | [] => 0
  | d :: r => uptoBulk d + uptoBulkAll r
def uptoBulkEntries {H : Type} : List (Lit × DataW H) → Nat
  | [] => 0
  | x :: r => uptoBulkEntry x + uptoBulkEntries r
def uptoBulkEntry {H : Type} : Lit × DataW H → Nat
  | (.string bytes, d) => bytes.length + uptoBulk d + 1
  | (_, d) => uptoBulk d + 1
 end
def uptoSmall : (H : Type) → List (DataW H) → Bool := fun _ ds => decide (uptoBulkAll ds ≤ 1048576)
def OpenSpec.upto (s : _root_.Go.ChangeSpec) : _root_.Go.OpenSpec := { _root_.Go.OpenSpec.ofChange s with cond := some uptoSmall }

/-- 'meresmanlaw25.LabelBoxes', WHERE WHAT IT READS IS OF BULK AT MOST 1048576: true; the input reads as it did. -/
def labelBoxesUptoRow : OpenClaim := { program := "yteeapkfakehocaa", sum := "4774b8111722400a6835b0ac129be8b8839c11cf680bebc146fd572bc0cf121c", func := "meresman/meresmanlaw25.LabelBoxes", spec := "labelBoxes", unfollowed := true, recurses := true, apart := false, narrowed := true }
def LabelBoxesUptoSaid : Prop := labelBoxesUptoRow.holds Try.pinned (OpenSpec.upto labelBoxesSpec)

/-- 'meresmanlaw25.LabelTaken', WHERE WHAT IT READS IS OF BULK AT MOST 1048576: true; the input reads as it did. -/
def labelTakenUptoRow : OpenClaim := { program := "yteeapkfakehocaa", sum := "4774b8111722400a6835b0ac129be8b8839c11cf680bebc146fd572bc0cf121c", func := "meresman/meresmanlaw25.LabelTaken", spec := "labelTaken", unfollowed := true, recurses := true, apart := false, narrowed := true }
def LabelTakenUptoSaid : Prop := labelTakenUptoRow.holds Try.pinned (OpenSpec.upto labelTakenSpec)

/-- 'meresmanlaw25.LabelValue', WHERE WHAT IT READS IS OF BULK AT MOST 1048576: true; the input reads as it did. -/
def labelValueUptoRow : OpenClaim := { program := "yteeapkfakehocaa", sum := "4774b8111722400a6835b0ac129be8b8839c11cf680bebc146fd572bc0cf121c", func := "meresman/meresmanlaw25.LabelValue", spec := "labelValue", unfollowed := true, recurses := true, apart := false, narrowed := true }
def LabelValueUptoSaid : Prop := labelValueUptoRow.holds Try.pinned (OpenSpec.upto labelValueSpec)

/-- 'meresmanlaw25.LabelBest', WHERE WHAT IT READS IS OF BULK AT MOST 1048576: true; the input reads as it did. -/
def labelBestUptoRow : OpenClaim := { program := "yteeapkfakehocaa", sum := "4774b8111722400a6835b0ac129be8b8839c11cf680bebc146fd572bc0cf121c", func := "meresman/meresmanlaw25.LabelBest", spec := "labelBest", unfollowed := true, recurses := true, apart := false, narrowed := true }
def LabelBestUptoSaid : Prop := labelBestUptoRow.holds Try.pinned (OpenSpec.upto labelBestSpec)

/-- 'meresmanlaw25.LabelPlaces', WHERE WHAT IT READS IS OF BULK AT MOST 1048576: true; the input reads as it did. -/
def labelPlacesUptoRow : OpenClaim := { program := "yteeapkfakehocaa", sum := "4774b8111722400a6835b0ac129be8b8839c11cf680bebc146fd572bc0cf121c", func := "meresman/meresmanlaw25.LabelPlaces", spec := "labelPlaces", unfollowed := true, recurses := true, apart := false, narrowed := true }
def LabelPlacesUptoSaid : Prop := labelPlacesUptoRow.holds Try.pinned (OpenSpec.upto labelPlacesSpec)

/-- 'meresmanlaw25.LabelMoved', WHERE WHAT IT READS IS OF BULK AT MOST 1048576: true; the input reads as it did. -/
def labelMovedUptoRow : OpenClaim := { program := "yteeapkfakehocaa", sum := "4774b8111722400a6835b0ac129be8b8839c11cf680bebc146fd572bc0cf121c", func := "meresman/meresmanlaw25.LabelMoved", spec := "labelMoved", unfollowed := true, recurses := true, apart := false, narrowed := true }
def LabelMovedUptoSaid : Prop := labelMovedUptoRow.holds Try.pinned (OpenSpec.upto labelMovedSpec)

/-- 'meresmanlaw25.LabelBounds', WHERE WHAT IT READS IS OF BULK AT MOST 1048576: true; the input reads as it did. -/
def labelBoundsUptoRow : OpenClaim := { program := "yteeapkfakehocaa", sum := "4774b8111722400a6835b0ac129be8b8839c11cf680bebc146fd572bc0cf121c", func := "meresman/meresmanlaw25.LabelBounds", spec := "labelBounds", unfollowed := true, recurses := true, apart := false, narrowed := true }
def LabelBoundsUptoSaid : Prop := labelBoundsUptoRow.holds Try.pinned (OpenSpec.upto labelBoundsSpec)

/-- 'meresmanlaw25.LabelCertified', WHERE WHAT IT READS IS OF BULK AT MOST 1048576: true; the input reads as it did. -/
def labelCertifiedUptoRow : OpenClaim := { program := "yteeapkfakehocaa", sum := "4774b8111722400a6835b0ac129be8b8839c11cf680bebc146fd572bc0cf121c", func := "meresman/meresmanlaw25.LabelCertified", spec := "labelCertified", unfollowed := true, recurses := true, apart := false, narrowed := true }
def LabelCertifiedUptoSaid : Prop := labelCertifiedUptoRow.holds Try.pinned (OpenSpec.upto labelCertifiedSpec)

end Rows
end Go.Proofs.Yteeapkfakehocaa
