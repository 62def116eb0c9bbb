/-
  What is known of each type of this translation: its underlying type, its zero value, its cells and bytes.
-/
import Derived.Test.YtbjaecofccpahaaGreatProg
import Derived.Deep.Quiet
import Derived.Lib.AppendStr
import Derived.Lib.SliceRun
import Derived.Test.YtbjaecofccpahaaGreatMC
namespace Go.Proofs.YtbjaecofccpahaaGreat
theorem ti_of {P : Program} {t : TypeId} {z : Value} {s b : Nat} (h : (P.info? t).map (fun i => (i.zero, i.size, i.bytes)) = some (some z, s, b)) : TI P t z s b := by
  cases hi : P.info? t with
  | none => rw [hi] at h; cases h
  | some i =>
    rw [hi] at h
    simp only [Option.map_some, Option.some.injEq, Prod.mk.injEq] at h
    exact ⟨i, hi, h.1, h.2.1, h.2.2⟩
theorem ag_of {P : Program} {t : TypeId} {b : Bool} (h : (P.underlying t).map aggD = some b) : AG P t b := by
  cases hi : P.underlying t with
  | none => rw [hi] at h; cases h
  | some d => rw [hi] at h; simp only [Option.map_some, Option.some.injEq] at h; exact ⟨d, hi, h⟩
instance : AG Tryz.prog 0 false := ag_of (by kernel_rfl)
instance : AG Tryz.prog 1 false := ag_of (by kernel_rfl)
instance : TI Tryz.prog 1 .nilFunc 1 8 := ti_of (by kernel_rfl)
instance : UL Tryz.prog 2 (.int .i64) := ⟨Tryz.underlying2⟩
instance : AG Tryz.prog 2 false := ag_of (by kernel_rfl)
instance : TI Tryz.prog 2 (.int .i64 0) 1 8 := ti_of (by kernel_rfl)
instance : UL Tryz.prog 3 (.int .i64) := ⟨Tryz.underlying3⟩
instance : AG Tryz.prog 3 false := ag_of (by kernel_rfl)
instance : TI Tryz.prog 3 (.int .i64 0) 1 8 := ti_of (by kernel_rfl)
instance : UL Tryz.prog 4 .bool := ⟨Tryz.underlying4⟩
instance : AG Tryz.prog 4 false := ag_of (by kernel_rfl)
instance : TI Tryz.prog 4 (.bool false) 1 1 := ti_of (by kernel_rfl)
instance : UL Tryz.prog 5 (.int .u8) := ⟨Tryz.underlying5⟩
instance : AG Tryz.prog 5 false := ag_of (by kernel_rfl)
instance : TI Tryz.prog 5 (.int .u8 0) 1 1 := ti_of (by kernel_rfl)
instance : UL Tryz.prog 6 (.int .u8) := ⟨Tryz.underlying6⟩
instance : AG Tryz.prog 6 false := ag_of (by kernel_rfl)
instance : TI Tryz.prog 6 (.int .u8 0) 1 1 := ti_of (by kernel_rfl)
instance : AG Tryz.prog 7 true := ag_of (by kernel_rfl)
instance : TI Tryz.prog 7 (.agg #[(.int .i64 0), (.int .i64 0), (.bool false), (.int .u8 0)]) 4 24 := ti_of (by kernel_rfl)
instance : AG Tryz.prog 8 true := ag_of (by kernel_rfl)
instance : TI Tryz.prog 8 (.agg #[(.int .i64 0), (.int .i64 0), (.bool false), (.int .u8 0)]) 4 24 := ti_of (by kernel_rfl)
instance : UL Tryz.prog 9 .string := ⟨Tryz.underlying9⟩
instance : AG Tryz.prog 9 false := ag_of (by kernel_rfl)
instance : TI Tryz.prog 9 (.string ⟨#[]⟩) 1 16 := ti_of (by kernel_rfl)
instance : UL Tryz.prog 10 .string := ⟨Tryz.underlying10⟩
instance : AG Tryz.prog 10 false := ag_of (by kernel_rfl)
instance : TI Tryz.prog 10 (.string ⟨#[]⟩) 1 16 := ti_of (by kernel_rfl)
instance : UL Tryz.prog 11 .string := ⟨Tryz.underlying11⟩
instance : AG Tryz.prog 11 false := ag_of (by kernel_rfl)
instance : TI Tryz.prog 11 (.string ⟨#[]⟩) 1 16 := ti_of (by kernel_rfl)
instance : UL Tryz.prog 12 (.int .u64) := ⟨Tryz.underlying12⟩
instance : AG Tryz.prog 12 false := ag_of (by kernel_rfl)
instance : TI Tryz.prog 12 (.int .u64 0) 1 8 := ti_of (by kernel_rfl)
instance : AG Tryz.prog 13 true := ag_of (by kernel_rfl)
instance : TI Tryz.prog 13 (.agg #[(.string ⟨#[]⟩), (.int .u64 0)]) 2 24 := ti_of (by kernel_rfl)
instance : AG Tryz.prog 14 true := ag_of (by kernel_rfl)
instance : TI Tryz.prog 14 (.agg #[(.string ⟨#[]⟩), (.int .u64 0)]) 2 24 := ti_of (by kernel_rfl)
instance : UL Tryz.prog 15 (.pointer 143) := ⟨Tryz.underlying15⟩
instance : AG Tryz.prog 15 false := ag_of (by kernel_rfl)
instance : TI Tryz.prog 15 (.pointer none) 1 8 := ti_of (by kernel_rfl)
instance : UL Tryz.prog 16 (.pointer 146) := ⟨Tryz.underlying16⟩
instance : AG Tryz.prog 16 false := ag_of (by kernel_rfl)
instance : TI Tryz.prog 16 (.pointer none) 1 8 := ti_of (by kernel_rfl)
instance : UL Tryz.prog 17 (.pointer 153) := ⟨Tryz.underlying17⟩
instance : AG Tryz.prog 17 false := ag_of (by kernel_rfl)
instance : TI Tryz.prog 17 (.pointer none) 1 8 := ti_of (by kernel_rfl)
instance : AG Tryz.prog 18 true := ag_of (by kernel_rfl)
instance : TI Tryz.prog 18 (.agg #[(.pointer none)]) 1 8 := ti_of (by kernel_rfl)
instance : AG Tryz.prog 19 true := ag_of (by kernel_rfl)
instance : TI Tryz.prog 19 (.agg #[(.pointer none)]) 1 8 := ti_of (by kernel_rfl)
instance : AG Tryz.prog 20 false := ag_of (by kernel_rfl)
instance : TI Tryz.prog 20 .nilIface 1 16 := ti_of (by kernel_rfl)
instance : UL Tryz.prog 21 (.int .i32) := ⟨Tryz.underlying21⟩
instance : AG Tryz.prog 21 false := ag_of (by kernel_rfl)
instance : TI Tryz.prog 21 (.int .i32 0) 1 4 := ti_of (by kernel_rfl)
instance : UL Tryz.prog 22 (.slice 3) := ⟨Tryz.underlying22⟩
instance : AG Tryz.prog 22 false := ag_of (by kernel_rfl)
instance : TI Tryz.prog 22 (.slice none 0 0) 1 24 := ti_of (by kernel_rfl)
instance : AG Tryz.prog 23 false := ag_of (by kernel_rfl)
instance : TI Tryz.prog 23 .nilFunc 1 8 := ti_of (by kernel_rfl)
instance : UL Tryz.prog 24 (.pointer 62) := ⟨Tryz.underlying24⟩
instance : AG Tryz.prog 24 false := ag_of (by kernel_rfl)
instance : TI Tryz.prog 24 (.pointer none) 1 8 := ti_of (by kernel_rfl)
instance : AG Tryz.prog 25 false := ag_of (by kernel_rfl)
instance : TI Tryz.prog 25 .nilFunc 1 8 := ti_of (by kernel_rfl)
instance : UL Tryz.prog 26 (.pointer 50) := ⟨Tryz.underlying26⟩
instance : AG Tryz.prog 26 false := ag_of (by kernel_rfl)
instance : TI Tryz.prog 26 (.pointer none) 1 8 := ti_of (by kernel_rfl)
instance : AG Tryz.prog 27 false := ag_of (by kernel_rfl)
instance : TI Tryz.prog 27 .nilFunc 1 8 := ti_of (by kernel_rfl)
instance : UL Tryz.prog 28 (.pointer 59) := ⟨Tryz.underlying28⟩
instance : AG Tryz.prog 28 false := ag_of (by kernel_rfl)
instance : TI Tryz.prog 28 (.pointer none) 1 8 := ti_of (by kernel_rfl)
instance : UL Tryz.prog 29 (.slice 39) := ⟨Tryz.underlying29⟩
instance : AG Tryz.prog 29 false := ag_of (by kernel_rfl)
instance : TI Tryz.prog 29 (.slice none 0 0) 1 24 := ti_of (by kernel_rfl)
instance : UL Tryz.prog 30 (.int .i64) := ⟨Tryz.underlying30⟩
instance : AG Tryz.prog 30 false := ag_of (by kernel_rfl)
instance : TI Tryz.prog 30 (.int .i64 0) 1 8 := ti_of (by kernel_rfl)
instance : AG Tryz.prog 31 false := ag_of (by kernel_rfl)
instance : AG Tryz.prog 32 false := ag_of (by kernel_rfl)
instance : TI Tryz.prog 32 .nilFunc 1 8 := ti_of (by kernel_rfl)
instance : UL Tryz.prog 33 (.pointer 44) := ⟨Tryz.underlying33⟩
instance : AG Tryz.prog 33 false := ag_of (by kernel_rfl)
instance : TI Tryz.prog 33 (.pointer none) 1 8 := ti_of (by kernel_rfl)
instance : AG Tryz.prog 34 false := ag_of (by kernel_rfl)
instance : AG Tryz.prog 35 false := ag_of (by kernel_rfl)
instance : TI Tryz.prog 35 .nilFunc 1 8 := ti_of (by kernel_rfl)
instance : AG Tryz.prog 36 false := ag_of (by kernel_rfl)
instance : TI Tryz.prog 36 .nilFunc 1 8 := ti_of (by kernel_rfl)
instance : AG Tryz.prog 37 false := ag_of (by kernel_rfl)
instance : TI Tryz.prog 37 .nilFunc 1 8 := ti_of (by kernel_rfl)
instance : AG Tryz.prog 38 false := ag_of (by kernel_rfl)
instance : TI Tryz.prog 38 .nilFunc 1 8 := ti_of (by kernel_rfl)
instance : UL Tryz.prog 39 (.slice 5) := ⟨Tryz.underlying39⟩
instance : AG Tryz.prog 39 false := ag_of (by kernel_rfl)
instance : TI Tryz.prog 39 (.slice none 0 0) 1 24 := ti_of (by kernel_rfl)
instance : AG Tryz.prog 40 false := ag_of (by kernel_rfl)
instance : TI Tryz.prog 40 .nilFunc 1 8 := ti_of (by kernel_rfl)
instance : AG Tryz.prog 41 false := ag_of (by kernel_rfl)
instance : TI Tryz.prog 41 .nilFunc 1 8 := ti_of (by kernel_rfl)
instance : AG Tryz.prog 42 false := ag_of (by kernel_rfl)
instance : TI Tryz.prog 42 .nilFunc 1 8 := ti_of (by kernel_rfl)
instance : AG Tryz.prog 43 true := ag_of (by kernel_rfl)
instance : TI Tryz.prog 43 (.agg #[(.pointer none), (.int .i64 0), (.int .i64 0), (.bool false)]) 4 32 := ti_of (by kernel_rfl)
instance : AG Tryz.prog 44 true := ag_of (by kernel_rfl)
instance : TI Tryz.prog 44 (.agg #[(.pointer none), (.int .i64 0), (.int .i64 0), (.bool false)]) 4 32 := ti_of (by kernel_rfl)
instance : AG Tryz.prog 45 false := ag_of (by kernel_rfl)
instance : TI Tryz.prog 45 .nilFunc 1 8 := ti_of (by kernel_rfl)
instance : AG Tryz.prog 46 false := ag_of (by kernel_rfl)
instance : AG Tryz.prog 47 false := ag_of (by kernel_rfl)
instance : TI Tryz.prog 47 .nilFunc 1 8 := ti_of (by kernel_rfl)
instance : AG Tryz.prog 48 false := ag_of (by kernel_rfl)
instance : TI Tryz.prog 48 .nilFunc 1 8 := ti_of (by kernel_rfl)
instance : AG Tryz.prog 49 true := ag_of (by kernel_rfl)
instance : TI Tryz.prog 49 (.agg #[(.int .i64 0), (.slice none 0 0), (.slice none 0 0), (.bool false), (.int .i64 0)]) 5 72 := ti_of (by kernel_rfl)
instance : AG Tryz.prog 50 true := ag_of (by kernel_rfl)
instance : TI Tryz.prog 50 (.agg #[(.int .i64 0), (.slice none 0 0), (.slice none 0 0), (.bool false), (.int .i64 0)]) 5 72 := ti_of (by kernel_rfl)
instance : AG Tryz.prog 51 false := ag_of (by kernel_rfl)
instance : TI Tryz.prog 51 .nilFunc 1 8 := ti_of (by kernel_rfl)
instance : AG Tryz.prog 52 false := ag_of (by kernel_rfl)
instance : AG Tryz.prog 53 false := ag_of (by kernel_rfl)
instance : TI Tryz.prog 53 .nilFunc 1 8 := ti_of (by kernel_rfl)
instance : AG Tryz.prog 54 false := ag_of (by kernel_rfl)
instance : AG Tryz.prog 55 false := ag_of (by kernel_rfl)
instance : TI Tryz.prog 55 .nilFunc 1 8 := ti_of (by kernel_rfl)
instance : AG Tryz.prog 56 false := ag_of (by kernel_rfl)
instance : TI Tryz.prog 56 .nilFunc 1 8 := ti_of (by kernel_rfl)
instance : AG Tryz.prog 57 false := ag_of (by kernel_rfl)
instance : TI Tryz.prog 57 .nilFunc 1 8 := ti_of (by kernel_rfl)
instance : AG Tryz.prog 58 true := ag_of (by kernel_rfl)
instance : TI Tryz.prog 58 (.agg #[(.pointer none), (.int .i64 0), (.int .i64 0), (.bool false)]) 4 32 := ti_of (by kernel_rfl)
instance : AG Tryz.prog 59 true := ag_of (by kernel_rfl)
instance : TI Tryz.prog 59 (.agg #[(.pointer none), (.int .i64 0), (.int .i64 0), (.bool false)]) 4 32 := ti_of (by kernel_rfl)
instance : UL Tryz.prog 60 (.map 3 66) := ⟨Tryz.underlying60⟩
instance : AG Tryz.prog 60 false := ag_of (by kernel_rfl)
instance : TI Tryz.prog 60 (.map none) 1 8 := ti_of (by kernel_rfl)
instance : AG Tryz.prog 61 true := ag_of (by kernel_rfl)
instance : TI Tryz.prog 61 (.agg #[(.map none), (.int .i64 0), (.bool false), (.bool false), (.int .i64 0)]) 5 32 := ti_of (by kernel_rfl)
instance : AG Tryz.prog 62 true := ag_of (by kernel_rfl)
instance : TI Tryz.prog 62 (.agg #[(.map none), (.int .i64 0), (.bool false), (.bool false), (.int .i64 0)]) 5 32 := ti_of (by kernel_rfl)
instance : UL Tryz.prog 63 (.slice 68) := ⟨Tryz.underlying63⟩
instance : AG Tryz.prog 63 false := ag_of (by kernel_rfl)
instance : TI Tryz.prog 63 (.slice none 0 0) 1 24 := ti_of (by kernel_rfl)
instance : AG Tryz.prog 64 false := ag_of (by kernel_rfl)
instance : TI Tryz.prog 64 .nilFunc 1 8 := ti_of (by kernel_rfl)
instance : AG Tryz.prog 65 true := ag_of (by kernel_rfl)
instance : TI Tryz.prog 65 (.agg #[(.slice none 0 0), (.int .i64 0)]) 2 32 := ti_of (by kernel_rfl)
instance : AG Tryz.prog 66 true := ag_of (by kernel_rfl)
instance : TI Tryz.prog 66 (.agg #[(.slice none 0 0), (.int .i64 0)]) 2 32 := ti_of (by kernel_rfl)
instance : AG Tryz.prog 67 false := ag_of (by kernel_rfl)
instance : TI Tryz.prog 67 .nilFunc 1 8 := ti_of (by kernel_rfl)
instance : UL Tryz.prog 68 (.pointer 5) := ⟨Tryz.underlying68⟩
instance : AG Tryz.prog 68 false := ag_of (by kernel_rfl)
instance : TI Tryz.prog 68 (.pointer none) 1 8 := ti_of (by kernel_rfl)
instance : AG Tryz.prog 69 false := ag_of (by kernel_rfl)
instance : TI Tryz.prog 69 .nilFunc 1 8 := ti_of (by kernel_rfl)
instance : UL Tryz.prog 70 (.int .u64) := ⟨Tryz.underlying70⟩
instance : AG Tryz.prog 70 false := ag_of (by kernel_rfl)
instance : TI Tryz.prog 70 (.int .u64 0) 1 8 := ti_of (by kernel_rfl)
instance : AG Tryz.prog 71 false := ag_of (by kernel_rfl)
instance : TI Tryz.prog 71 .nilFunc 1 8 := ti_of (by kernel_rfl)
instance : AG Tryz.prog 72 false := ag_of (by kernel_rfl)
instance : TI Tryz.prog 72 .nilFunc 1 8 := ti_of (by kernel_rfl)
instance : AG Tryz.prog 73 false := ag_of (by kernel_rfl)
instance : TI Tryz.prog 73 .nilFunc 1 8 := ti_of (by kernel_rfl)
instance : AG Tryz.prog 74 true := ag_of (by kernel_rfl)
instance : TI Tryz.prog 74 (.agg #[(.slice none 0 0)]) 1 24 := ti_of (by kernel_rfl)
instance : AG Tryz.prog 75 true := ag_of (by kernel_rfl)
instance : TI Tryz.prog 75 (.agg #[(.slice none 0 0)]) 1 24 := ti_of (by kernel_rfl)
instance : AG Tryz.prog 76 false := ag_of (by kernel_rfl)
instance : TI Tryz.prog 76 .nilFunc 1 8 := ti_of (by kernel_rfl)
instance : AG Tryz.prog 77 false := ag_of (by kernel_rfl)
instance : TI Tryz.prog 77 .nilFunc 1 8 := ti_of (by kernel_rfl)
instance : UL Tryz.prog 78 (.int .u64) := ⟨Tryz.underlying78⟩
instance : AG Tryz.prog 78 false := ag_of (by kernel_rfl)
instance : TI Tryz.prog 78 (.int .u64 0) 1 8 := ti_of (by kernel_rfl)
instance : AG Tryz.prog 79 false := ag_of (by kernel_rfl)
instance : TI Tryz.prog 79 .nilFunc 1 8 := ti_of (by kernel_rfl)
instance : AG Tryz.prog 80 false := ag_of (by kernel_rfl)
instance : TI Tryz.prog 80 .nilFunc 1 8 := ti_of (by kernel_rfl)
instance : AG Tryz.prog 81 false := ag_of (by kernel_rfl)
instance : TI Tryz.prog 81 .nilFunc 1 8 := ti_of (by kernel_rfl)
instance : AG Tryz.prog 82 false := ag_of (by kernel_rfl)
instance : TI Tryz.prog 82 .nilFunc 1 8 := ti_of (by kernel_rfl)
instance : AG Tryz.prog 83 false := ag_of (by kernel_rfl)
instance : TI Tryz.prog 83 .nilFunc 1 8 := ti_of (by kernel_rfl)
instance : AG Tryz.prog 84 false := ag_of (by kernel_rfl)
instance : AG Tryz.prog 85 false := ag_of (by kernel_rfl)
instance : TI Tryz.prog 85 .nilFunc 1 8 := ti_of (by kernel_rfl)
instance : AG Tryz.prog 86 false := ag_of (by kernel_rfl)
instance : TI Tryz.prog 86 .nilFunc 1 8 := ti_of (by kernel_rfl)
instance : AG Tryz.prog 87 false := ag_of (by kernel_rfl)
instance : TI Tryz.prog 87 .nilFunc 1 8 := ti_of (by kernel_rfl)
instance : AG Tryz.prog 88 false := ag_of (by kernel_rfl)
instance : TI Tryz.prog 88 .nilFunc 1 8 := ti_of (by kernel_rfl)
instance : AG Tryz.prog 89 false := ag_of (by kernel_rfl)
instance : TI Tryz.prog 89 .nilFunc 1 8 := ti_of (by kernel_rfl)
instance : AG Tryz.prog 90 false := ag_of (by kernel_rfl)
instance : TI Tryz.prog 90 .nilFunc 1 8 := ti_of (by kernel_rfl)
instance : UL Tryz.prog 91 (.pointer 75) := ⟨Tryz.underlying91⟩
instance : AG Tryz.prog 91 false := ag_of (by kernel_rfl)
instance : TI Tryz.prog 91 (.pointer none) 1 8 := ti_of (by kernel_rfl)
instance : AG Tryz.prog 92 false := ag_of (by kernel_rfl)
instance : TI Tryz.prog 92 .nilFunc 1 8 := ti_of (by kernel_rfl)
instance : AG Tryz.prog 93 false := ag_of (by kernel_rfl)
instance : TI Tryz.prog 93 .nilFunc 1 8 := ti_of (by kernel_rfl)
instance : AG Tryz.prog 94 false := ag_of (by kernel_rfl)
instance : TI Tryz.prog 94 .nilFunc 1 8 := ti_of (by kernel_rfl)
instance : AG Tryz.prog 95 false := ag_of (by kernel_rfl)
instance : TI Tryz.prog 95 .nilFunc 1 8 := ti_of (by kernel_rfl)
instance : AG Tryz.prog 96 false := ag_of (by kernel_rfl)
instance : TI Tryz.prog 96 .nilFunc 1 8 := ti_of (by kernel_rfl)
instance : AG Tryz.prog 97 false := ag_of (by kernel_rfl)
instance : TI Tryz.prog 97 .nilFunc 1 8 := ti_of (by kernel_rfl)
instance : UL Tryz.prog 98 (.pointer 100) := ⟨Tryz.underlying98⟩
instance : AG Tryz.prog 98 false := ag_of (by kernel_rfl)
instance : TI Tryz.prog 98 (.pointer none) 1 8 := ti_of (by kernel_rfl)
instance : AG Tryz.prog 99 true := ag_of (by kernel_rfl)
instance : TI Tryz.prog 99 (.agg #[(.slice none 0 0), (.int .i64 0)]) 2 32 := ti_of (by kernel_rfl)
instance : AG Tryz.prog 100 true := ag_of (by kernel_rfl)
instance : TI Tryz.prog 100 (.agg #[(.slice none 0 0), (.int .i64 0)]) 2 32 := ti_of (by kernel_rfl)
instance : AG Tryz.prog 101 false := ag_of (by kernel_rfl)
instance : TI Tryz.prog 101 .nilFunc 1 8 := ti_of (by kernel_rfl)
instance : AG Tryz.prog 102 false := ag_of (by kernel_rfl)
instance : TI Tryz.prog 102 .nilFunc 1 8 := ti_of (by kernel_rfl)
instance : AG Tryz.prog 103 false := ag_of (by kernel_rfl)
instance : TI Tryz.prog 103 .nilFunc 1 8 := ti_of (by kernel_rfl)
instance : UL Tryz.prog 104 (.slice 78) := ⟨Tryz.underlying104⟩
instance : AG Tryz.prog 104 false := ag_of (by kernel_rfl)
instance : TI Tryz.prog 104 (.slice none 0 0) 1 24 := ti_of (by kernel_rfl)
instance : AG Tryz.prog 105 false := ag_of (by kernel_rfl)
instance : TI Tryz.prog 105 .nilFunc 1 8 := ti_of (by kernel_rfl)
instance : AG Tryz.prog 106 false := ag_of (by kernel_rfl)
instance : TI Tryz.prog 106 .nilFunc 1 8 := ti_of (by kernel_rfl)
instance : AG Tryz.prog 107 false := ag_of (by kernel_rfl)
instance : TI Tryz.prog 107 .nilFunc 1 8 := ti_of (by kernel_rfl)
instance : AG Tryz.prog 108 false := ag_of (by kernel_rfl)
instance : TI Tryz.prog 108 .nilFunc 1 8 := ti_of (by kernel_rfl)
instance : AG Tryz.prog 109 false := ag_of (by kernel_rfl)
instance : TI Tryz.prog 109 .nilFunc 1 8 := ti_of (by kernel_rfl)
instance : UL Tryz.prog 110 (.pointer 118) := ⟨Tryz.underlying110⟩
instance : AG Tryz.prog 110 false := ag_of (by kernel_rfl)
instance : TI Tryz.prog 110 (.pointer none) 1 8 := ti_of (by kernel_rfl)
instance : AG Tryz.prog 111 false := ag_of (by kernel_rfl)
instance : TI Tryz.prog 111 .nilFunc 1 8 := ti_of (by kernel_rfl)
instance : AG Tryz.prog 112 false := ag_of (by kernel_rfl)
instance : TI Tryz.prog 112 .nilFunc 1 8 := ti_of (by kernel_rfl)
instance : AG Tryz.prog 113 false := ag_of (by kernel_rfl)
instance : TI Tryz.prog 113 .nilFunc 1 8 := ti_of (by kernel_rfl)
instance : AG Tryz.prog 114 false := ag_of (by kernel_rfl)
instance : TI Tryz.prog 114 .nilFunc 1 8 := ti_of (by kernel_rfl)
instance : AG Tryz.prog 115 false := ag_of (by kernel_rfl)
instance : TI Tryz.prog 115 .nilFunc 1 8 := ti_of (by kernel_rfl)
instance : AG Tryz.prog 116 false := ag_of (by kernel_rfl)
instance : TI Tryz.prog 116 .nilFunc 1 8 := ti_of (by kernel_rfl)
instance : AG Tryz.prog 117 true := ag_of (by kernel_rfl)
instance : TI Tryz.prog 117 (.agg #[(.slice none 0 0), (.int .i64 0)]) 2 32 := ti_of (by kernel_rfl)
instance : AG Tryz.prog 118 true := ag_of (by kernel_rfl)
instance : TI Tryz.prog 118 (.agg #[(.slice none 0 0), (.int .i64 0)]) 2 32 := ti_of (by kernel_rfl)
instance : AG Tryz.prog 119 false := ag_of (by kernel_rfl)
instance : TI Tryz.prog 119 .nilFunc 1 8 := ti_of (by kernel_rfl)
instance : AG Tryz.prog 120 false := ag_of (by kernel_rfl)
instance : TI Tryz.prog 120 .nilFunc 1 8 := ti_of (by kernel_rfl)
instance : AG Tryz.prog 121 false := ag_of (by kernel_rfl)
instance : TI Tryz.prog 121 .nilFunc 1 8 := ti_of (by kernel_rfl)
instance : AG Tryz.prog 122 false := ag_of (by kernel_rfl)
instance : TI Tryz.prog 122 .nilFunc 1 8 := ti_of (by kernel_rfl)
instance : UL Tryz.prog 123 (.int .i64) := ⟨Tryz.underlying123⟩
instance : AG Tryz.prog 123 false := ag_of (by kernel_rfl)
instance : TI Tryz.prog 123 (.int .i64 0) 1 8 := ti_of (by kernel_rfl)
instance : AG Tryz.prog 124 false := ag_of (by kernel_rfl)
instance : AG Tryz.prog 125 false := ag_of (by kernel_rfl)
instance : TI Tryz.prog 125 .nilFunc 1 8 := ti_of (by kernel_rfl)
instance : AG Tryz.prog 126 false := ag_of (by kernel_rfl)
instance : TI Tryz.prog 126 .nilFunc 1 8 := ti_of (by kernel_rfl)
instance : AG Tryz.prog 127 false := ag_of (by kernel_rfl)
instance : TI Tryz.prog 127 .nilFunc 1 8 := ti_of (by kernel_rfl)
instance : AG Tryz.prog 128 false := ag_of (by kernel_rfl)
instance : TI Tryz.prog 128 .nilFunc 1 8 := ti_of (by kernel_rfl)
instance : AG Tryz.prog 129 false := ag_of (by kernel_rfl)
instance : AG Tryz.prog 130 false := ag_of (by kernel_rfl)
instance : TI Tryz.prog 130 .nilFunc 1 8 := ti_of (by kernel_rfl)
instance : AG Tryz.prog 131 false := ag_of (by kernel_rfl)
instance : TI Tryz.prog 131 .nilFunc 1 8 := ti_of (by kernel_rfl)
instance : UL Tryz.prog 132 (.int .u32) := ⟨Tryz.underlying132⟩
instance : AG Tryz.prog 132 false := ag_of (by kernel_rfl)
instance : TI Tryz.prog 132 (.int .u32 0) 1 4 := ti_of (by kernel_rfl)
instance : UL Tryz.prog 133 (.int .u64) := ⟨Tryz.underlying133⟩
instance : AG Tryz.prog 133 false := ag_of (by kernel_rfl)
instance : TI Tryz.prog 133 (.int .u64 0) 1 8 := ti_of (by kernel_rfl)
instance : AG Tryz.prog 134 false := ag_of (by kernel_rfl)
instance : TI Tryz.prog 134 .nilFunc 1 8 := ti_of (by kernel_rfl)
instance : AG Tryz.prog 135 false := ag_of (by kernel_rfl)
instance : TI Tryz.prog 135 .nilFunc 1 8 := ti_of (by kernel_rfl)
instance : UL Tryz.prog 136 (.pointer 3) := ⟨Tryz.underlying136⟩
instance : AG Tryz.prog 136 false := ag_of (by kernel_rfl)
instance : TI Tryz.prog 136 (.pointer none) 1 8 := ti_of (by kernel_rfl)
instance : AG Tryz.prog 137 false := ag_of (by kernel_rfl)
instance : TI Tryz.prog 137 .nilFunc 1 8 := ti_of (by kernel_rfl)
instance : UL Tryz.prog 138 (.pointer 133) := ⟨Tryz.underlying138⟩
instance : AG Tryz.prog 138 false := ag_of (by kernel_rfl)
instance : TI Tryz.prog 138 (.pointer none) 1 8 := ti_of (by kernel_rfl)
instance : AG Tryz.prog 139 false := ag_of (by kernel_rfl)
instance : AG Tryz.prog 140 false := ag_of (by kernel_rfl)
instance : TI Tryz.prog 140 .nilFunc 1 8 := ti_of (by kernel_rfl)
instance : AG Tryz.prog 141 false := ag_of (by kernel_rfl)
instance : TI Tryz.prog 141 .nilFunc 1 8 := ti_of (by kernel_rfl)
instance : AG Tryz.prog 142 true := ag_of (by kernel_rfl)
instance : TI Tryz.prog 142 (.agg #[(.pointer none), (.pointer none), (.pointer none), (.string ⟨#[]⟩)]) 4 40 := ti_of (by kernel_rfl)
instance : AG Tryz.prog 143 true := ag_of (by kernel_rfl)
instance : TI Tryz.prog 143 (.agg #[(.pointer none), (.pointer none), (.pointer none), (.string ⟨#[]⟩)]) 4 40 := ti_of (by kernel_rfl)
instance : UL Tryz.prog 144 (.array 0 16) := ⟨Tryz.underlying144⟩
instance : AG Tryz.prog 144 true := ag_of (by kernel_rfl)
instance : TI Tryz.prog 144 (.agg #[]) 0 0 := ti_of (by kernel_rfl)
instance : AG Tryz.prog 145 true := ag_of (by kernel_rfl)
instance : TI Tryz.prog 145 (.agg #[]) 0 0 := ti_of (by kernel_rfl)
instance : AG Tryz.prog 146 true := ag_of (by kernel_rfl)
instance : TI Tryz.prog 146 (.agg #[]) 0 0 := ti_of (by kernel_rfl)
instance : UL Tryz.prog 147 (.int .u8) := ⟨Tryz.underlying147⟩
instance : AG Tryz.prog 147 false := ag_of (by kernel_rfl)
instance : TI Tryz.prog 147 (.int .u8 0) 1 1 := ti_of (by kernel_rfl)
instance : UL Tryz.prog 148 (.int .u8) := ⟨Tryz.underlying148⟩
instance : AG Tryz.prog 148 false := ag_of (by kernel_rfl)
instance : TI Tryz.prog 148 (.int .u8 0) 1 1 := ti_of (by kernel_rfl)
instance : AG Tryz.prog 149 false := ag_of (by kernel_rfl)
instance : TI Tryz.prog 149 .nilFunc 1 8 := ti_of (by kernel_rfl)
instance : UL Tryz.prog 150 (.int .i32) := ⟨Tryz.underlying150⟩
instance : AG Tryz.prog 150 false := ag_of (by kernel_rfl)
instance : TI Tryz.prog 150 (.int .i32 0) 1 4 := ti_of (by kernel_rfl)
instance : UL Tryz.prog 151 (.int .i32) := ⟨Tryz.underlying151⟩
instance : AG Tryz.prog 151 false := ag_of (by kernel_rfl)
instance : TI Tryz.prog 151 (.int .i32 0) 1 4 := ti_of (by kernel_rfl)
instance : AG Tryz.prog 152 true := ag_of (by kernel_rfl)
instance : TI Tryz.prog 152 (.agg #[(.int .u64 0), (.int .u64 0), (.int .u32 0), (.int .u8 0), (.int .u8 0), (.int .u8 0), (.int .u8 0), .nilFunc, (.pointer none), (.int .i32 0), (.int .i32 0)]) 11 48 := ti_of (by kernel_rfl)
instance : AG Tryz.prog 153 true := ag_of (by kernel_rfl)
instance : TI Tryz.prog 153 (.agg #[(.int .u64 0), (.int .u64 0), (.int .u32 0), (.int .u8 0), (.int .u8 0), (.int .u8 0), (.int .u8 0), .nilFunc, (.pointer none), (.int .i32 0), (.int .i32 0)]) 11 48 := ti_of (by kernel_rfl)
instance : AG Tryz.prog 154 false := ag_of (by kernel_rfl)
instance : TI Tryz.prog 154 .nilFunc 1 8 := ti_of (by kernel_rfl)
instance : AG Tryz.prog 155 false := ag_of (by kernel_rfl)
instance : TI Tryz.prog 155 (.pointer none) 1 8 := ti_of (by kernel_rfl)
end Go.Proofs.YtbjaecofccpahaaGreat
namespace Go.Proofs.YtbjaecofccpahaaGreat
open Go Go.RowKit
set_option linter.unusedVariables false
set_option linter.unusedSimpArgs false
variable {W0 w : World} {L : List HP}
theorem wl_idxOwn1 {P : Program} {ops : Array Oper} {rest : List Oper} {o : Oper} {a : Act} {Q : Exit → Act → World → Prop} {t e : TypeId} {x ix : Operand} (hop : o.op = .indexAddr t x ix) (hw : Region.wanted o (yielded ops a.tmps) = true) {g n cap : Nat} (hx : a.eval x = .slice (some ⟨g, 0, none⟩) n cap)
    {k : IntKind} {zi : Nat} (hi : a.eval ix = .int k (zi : Int)) [UL P t (.slice e)] {z : Value} {by_ : Nat} [TI P e z 1 by_] (h1 : zi < n)
    (kk : wpList P ops Q rest (a.put o.dst (.pointer (some ⟨g, zi, none⟩))) w) : wpList P ops Q (o :: rest) a w :=
  wl_idxOwn (z := z) (s := 1) (by_ := by_) (e := e) hop hw hx hi (by omega) (by omega) (by simpa using kk)
theorem St.own_cel {α : Type} {f : α → Value} {hf : ∀ a, (f a).oneCell' = true} {E : TypeId} {v : Value} {l : List α} (s : St W0 w (own E (e1 f hf) v l :: L)) (hl : l ≠ []) :
    ∃ g cap sp, v = .slice (some ⟨g, 0, none⟩) l.length cap ∧ l.length ≤ cap ∧ cap ≤ maxLen ∧ sp.length = cap - l.length ∧ St W0 w (cel g (l.map f ++ sp) E :: L) := by
  have s1 : St W0 w (ex (fun q : Nat × Nat × List Value => Go.Proofs.YtbjaecofccpahaaGreat.sp [pur (v = .slice (some ⟨q.1, 0, none⟩) l.length q.2.1 ∧ l.length ≤ q.2.1 ∧ q.2.1 ≤ maxLen ∧ q.2.2.length = q.2.1 - l.length), cel q.1 (l.map f ++ q.2.2) E]) :: L) := by
    refine s.imp ?_
    rintro m h ⟨css, ha, k⟩
    rcases k with ⟨_, h0⟩ | ⟨g, cap, cur, hv, hg, hc, hm, hs, ht⟩
    · exact absurd h0 hl
    · have hcs := all2_e1.1 ha
      subst hcs
      rw [flat_one] at ht
      have hsz : (e1 f hf).sz = 1 := rfl
      rw [hsz] at hs ht
      simp only [Nat.mul_one] at hs ht
      have hcur : cur.toList = l.map f ++ cur.toList.drop l.length := by rw [← ht, List.take_append_drop]
      have hcell : Obj.cells (List.map f l ++ List.drop l.length cur.toList).toArray E (0, 0) = Obj.cells cur E (0, 0) := by rw [← hcur]
      refine ⟨(g, cap, cur.toList.drop l.length), Hp.none, h, Hp.none_dj _, Hp.none_le _, Hp.le_refl _, ⟨hv, hc, hm, by simp [hs]⟩, h, Hp.none, Hp.dj_none _, Hp.le_refl _, Hp.none_le _, ?_, trivial⟩
      show h g = some (Obj.cells (List.map f l ++ List.drop l.length cur.toList).toArray E (0, 0))
      rw [hcell, hg]
  obtain ⟨q, h⟩ := s1.ex_
  have h2 := h.open_
  have hp := h2.pur_
  exact ⟨q.1, q.2.1, q.2.2, hp.1, hp.2.1, hp.2.2.1, hp.2.2.2, h2.drop⟩
theorem St.cel_own {α : Type} {f : α → Value} {hf : ∀ a, (f a).oneCell' = true} {E : TypeId} {l : List α} {g cap : Nat} {sp : List Value} (s : St W0 w (cel g (l.map f ++ sp) E :: L)) (h1 : l.length ≤ cap) (h2 : cap ≤ maxLen) (h3 : sp.length = cap - l.length) :
    St W0 w (own E (e1 f hf) (.slice (some ⟨g, 0, none⟩) l.length cap) l :: L) := by
  refine s.imp ?_
  intro m h hc
  refine ⟨l.map fun b => [f b], all2_e1.2 rfl, .inr ⟨g, cap, (l.map f ++ sp).toArray, rfl, ?_, h1, h2, ?_, ?_⟩⟩
  · exact hc
  · simp [e1]; omega
  · rw [flat_one]; simp [e1]
end Go.Proofs.YtbjaecofccpahaaGreat
namespace Go.Proofs.YtbjaecofccpahaaGreat
open Go Go.RowKit
set_option linter.unusedVariables false
set_option linter.unusedSimpArgs false
section
variable {P : Program} {W0 w : World} {L : List HP} {ops : Array Oper} {rest : List Oper} {o : Oper} {a : Act} {Q : Act → Prop}
/-- the lexical walk in the class of my assertions -/
def wq (P : Program) (W0 : World) (L : List HP) (ops : Array Oper) (Q : Act → Prop) (l : List Oper) (a : Act) : Prop := wpQuiet P ops (fun w' => St W0 w' L) Q l a
theorem wp_region_st {id : Nat} {Q : Exit → Act → World → Prop} {l : List Oper} (hS : St W0 w L) (hm : P.follows .mixedOrders = true) (hB : Region.lexB .any l.toArray = true)
    (h : wq P W0 L l.toArray (fun a' => ∀ w', St W0 w' L → Q .normal a' w') l a) : (Code.region id l.toArray true).wp P Q a w :=
  wp_region_quiet (C := fun w' => St W0 w' L) hm hB hS.drew (by simpa [wq] using h)
theorem wq_nil (h : Q a) : wq P W0 L ops Q [] a := h
theorem q_run (hw : Region.wanted o (yielded ops a.tmps) = true) {v : Value} (hr : ∀ w, St W0 w L → (execOp a.eval o).run P w = .ok (.value v) w) (k : wq P W0 L ops Q rest (a.put o.dst v)) : wq P W0 L ops Q (o :: rest) a := by
  show (if Region.wanted o (yielded ops a.tmps) then _ else _)
  rw [if_pos hw]
  refine ⟨v, fun w' h' => ?_, k⟩
  show Oper.quietUpon P _ w' v ((execOp a.eval o).run P w')
  rw [hr w' h']
  exact ⟨rfl, rfl⟩
theorem q_off (hw : Region.wanted o (yielded ops a.tmps) = false) (k : wq P W0 L ops Q rest (a.put o.dst undef)) : wq P W0 L ops Q (o :: rest) a := by
  show (if Region.wanted o (yielded ops a.tmps) then _ else _)
  rw [if_neg (by rw [hw]; simp)]
  exact k
theorem q_call {f : FuncId} (eg : Enters P f) {args : List Value} {xs : Array Operand} {ats : Array TypeId} {dst : Option Tmp} {ty : TypeId} {pos : String} {aft : Array Edge} {gd : Option (Nat × Bool)}
    (hw : Region.wanted ⟨dst, .call { callee := .value (.func f), args := xs, argTypes := ats }, ty, pos, aft, gd⟩ (yielded ops a.tmps) = true) (ha : xs.toList.map a.eval = args) {v : Value}
    (hc : ∀ w, St W0 w L → Calls P f args.toArray w fun e w' => e = .returned v ∧ St W0 w' L)
    (k : wq P W0 L ops Q rest (a.put dst v)) : wq P W0 L ops Q (⟨dst, .call { callee := .value (.func f), args := xs, argTypes := ats }, ty, pos, aft, gd⟩ :: rest) a := by
  show (if Region.wanted _ (yielded ops a.tmps) then _ else _)
  rw [if_pos hw]
  refine ⟨v, fun w' h' => ?_, k⟩
  show Oper.quietUpon P _ w' v ((execOp a.eval _).run P w')
  have hr : (execOp a.eval (⟨dst, .call { callee := .value (.func f), args := xs, argTypes := ats }, ty, pos, aft, gd⟩ : Oper)).run P w' = .ok (.enter f args.toArray) w' := by
    have e : args.toArray = xs.map a.eval := by rw [← ha, ← Array.toList_map]
    rw [e]
    unfold execOp
    simp [resolve, Act.eval, Deferred.ofValue, invoke]
    exact eg _ _
  rw [hr]
  exact ⟨rfl, hc w' h'⟩
theorem q_move {x : Operand} {v : Value} {dst : Option Tmp} {ty : TypeId} {pos : String} {aft : Array Edge} {gd : Option (Nat × Bool)} (hw : Region.wanted ⟨dst, .move x, ty, pos, aft, gd⟩ (yielded ops a.tmps) = true) (hx : a.eval x = v)
    (k : wq P W0 L ops Q rest (a.put dst v)) : wq P W0 L ops Q (⟨dst, .move x, ty, pos, aft, gd⟩ :: rest) a :=
  q_run hw (fun w _ => by unfold execOp; simp [hx]) k
theorem q_assign {x : Operand} {v : Value} {dst : Option Tmp} {ty : TypeId} {pos : String} {aft : Array Edge} {gd : Option (Nat × Bool)} (hw : Region.wanted ⟨dst, .assign x, ty, pos, aft, gd⟩ (yielded ops a.tmps) = true) (hx : a.eval x = v)
    (k : wq P W0 L ops Q rest (a.put dst v)) : wq P W0 L ops Q (⟨dst, .assign x, ty, pos, aft, gd⟩ :: rest) a :=
  q_run hw (fun w _ => by unfold execOp; simp [hx]) k
theorem q_binop {b : BinOp} {t u : TypeId} {x y : Operand} {v1 v2 v : Value} {dst : Option Tmp} {ty : TypeId} {pos : String} {aft : Array Edge} {gd : Option (Nat × Bool)} (hw : Region.wanted ⟨dst, .binOp b t x y u, ty, pos, aft, gd⟩ (yielded ops a.tmps) = true)
    (hx : a.eval x = v1) (hy : a.eval y = v2) (hg : ∀ w, (eqGuard b t x y v1 v2).run P w = .ok () w) (hr : ∀ w, (binOp b t v1 v2).run P w = .ok v w)
    (k : wq P W0 L ops Q rest (a.put dst v)) : wq P W0 L ops Q (⟨dst, .binOp b t x y u, ty, pos, aft, gd⟩ :: rest) a :=
  q_run hw (fun w _ => by unfold execOp; simp [hx, hy, hg w, hr w]) k
theorem q_load {t : TypeId} {x : Operand} {p : Addr} {v : Value} {dst : Option Tmp} {ty : TypeId} {pos : String} {aft : Array Edge} {gd : Option (Nat × Bool)} (hw : Region.wanted ⟨dst, .load t x, ty, pos, aft, gd⟩ (yielded ops a.tmps) = true) (hx : a.eval x = .pointer (some p)) [AG P t false]
    (hc : ∀ w, St W0 w L → w.cell? p = some v) (k : wq P W0 L ops Q rest (a.put dst v)) : wq P W0 L ops Q (⟨dst, .load t x, ty, pos, aft, gd⟩ :: rest) a :=
  q_run hw (fun w h => by unfold execOp; simp [hx, load_run (hc w h)]) k
theorem q_idx1 {t e : TypeId} {x ix : Operand} {b off n cap : Nat} {kd : IntKind} {i : Nat} {dst : Option Tmp} {ty : TypeId} {pos : String} {aft : Array Edge} {gd : Option (Nat × Bool)} (hw : Region.wanted ⟨dst, .indexAddr t x ix, ty, pos, aft, gd⟩ (yielded ops a.tmps) = true)
    (hx : a.eval x = .slice (some ⟨b, off, none⟩) n cap) (hi : a.eval ix = .int kd (i : Int)) [UL P t (.slice e)] {z : Value} {by_ : Nat} [TI P e z 1 by_] (h1 : i < n)
    (k : wq P W0 L ops Q rest (a.put dst (.pointer (some ⟨b, off + i, none⟩)))) : wq P W0 L ops Q (⟨dst, .indexAddr t x ix, ty, pos, aft, gd⟩ :: rest) a :=
  q_run hw (fun w h => by unfold execOp; simp [hx, hi, indexAt_run (P := P) (t := t) (e := e) (s := 1) (by omega : (0 : Int) ≤ (i : Int)) (by omega : (i : Int) < (n : Int)), add0]) k
theorem St.cellsAt {α : Type} {f : α → Value} {hf : ∀ a, (f a).oneCell' = true} {b off n cap i : Nat} {l : List α} {x : α} (hsrc : Src L (e1 f hf) (.slice (some ⟨b, off, none⟩) n cap) l) (hi : l[i]? = some x) (w : World) (hS : St W0 w L) :
    w.cell? ⟨b, off + i, none⟩ = some (f x) := by
  obtain ⟨b', off', x', hx', hc, hA⟩ := (hsrc.sl hS).cell1 (List.getElem?_eq_some_iff.1 hi).1
  rw [hi] at hx'
  injection hx' with hx'
  injection hA with hA
  injection hA with h1 h2 _
  subst hx'; subst h1; subst h2
  exact hc
theorem q_string {t ts : TypeId} {x : Operand} {e : TypeId} {y : Value} {l : List UInt8} {dst : Option Tmp} {ty : TypeId} {pos : String} {aft : Array Edge} {gd : Option (Nat × Bool)} (hw : Region.wanted ⟨dst, .convert ts t x, ty, pos, aft, gd⟩ (yielded ops a.tmps) = true)
    (hx : a.eval x = y) [us : UL P t .string] [u : UL P ts (.slice e)] [ub : UL P e (.int .u8)] (hsrc : Src L eB y l)
    (k : wq P W0 L ops Q rest (a.put dst (.string ⟨l.toArray⟩))) : wq P W0 L ops Q (⟨dst, .convert ts t x, ty, pos, aft, gd⟩ :: rest) a := by
  refine q_run hw (fun w hS => ?_) k
  have hsl : Sl (Hp.of w) eB y l := hsrc.sl hS
  obtain ⟨A, c, css, rfl, hc, ha, hr⟩ := hsl
  unfold execOp
  simp only [hx, Sem.run_bind]
  rcases hr with h | ⟨b, off, cs, T, fr, hA, hb, hcs⟩
  · subst h
    have hz : (convert ts t (.slice A 0 c)).run P w = .ok (.string ⟨#[]⟩) w := by
      rcases A with _ | ad
      · rw [run_convert_bytes_string w ts t e none 0 c u.pf ub.pf us.pf]; rfl
      · exact run_convert_bytes_back (P := P) w ts t e ad c [] u.pf ub.pf us.pf (fun j hj => by simp at hj)
    simp [hz]
  · subst hA
    rw [run_convert_bytes_back (P := P) w ts t e ⟨b, off, none⟩ c l u.pf ub.pf us.pf (fun j hj => ?_)]
    · rfl
    · have ha := all2_e1.1 ha
      subst ha
      rw [flat_one] at hcs
      have := hcs j (bv l[j]) (by simp [List.getElem?_eq_getElem hj])
      have hb' : w.heap[b]? = some (.cells cs T fr) := hb
      rw [add0]
      simp [World.cell?, hb', this]
end
end Go.Proofs.YtbjaecofccpahaaGreat
namespace Go.Proofs.YtbjaecofccpahaaGreat
open Go Go.RowKit
set_option linter.unusedVariables false
set_option linter.unusedSimpArgs false
section
variable {P : Program} {W0 w : World} {L : List HP}
theorem append_str_run {t tu ty e : TypeId} {by_ : Nat} [u : UL P t (.slice e)] [us : UL P tu .string] [ti : TI P e (.int .u8 0) 1 1] {v : Value} {l : List UInt8} (S : St W0 w (own e eB v l :: L)) (s : ByteArray)
    (hb : l.length + s.size ≤ 140737488355328) :
    ∃ v' w', (Builtin.append_ #[t, tu] ty #[v, .string s]).run P w = .ok v' w' ∧ St W0 w' (own e eB v' (l ++ s.data.toList) :: L) := by
  obtain ⟨i, hi, hz, hsz, hby⟩ := ti.pf
  obtain ⟨css, hrow, hlens, hcl, k⟩ := S.own_turn
  have hr1 : eB.sz = 1 := rfl
  obtain ⟨v', w', hr, hown, hg, hnil⟩ := Lib.run_append_own_string (P := P) w 0 t tu ty e i u.pf us.pf hi hz hsz hby v l.length css.flatten hrow s (by unfold maxLen; omega) hb (Nat.zero_le _)
  refine ⟨v', w', hr, k (css' := css ++ (s.data.toList.map fun b => [bv b])) ?_ ?_ hg ?_⟩
  · intro m h _ ha
    exact ha.append (all2_e1.2 rfl)
  · rw [List.flatten_append, flat_one]
    have e1 : (l ++ s.data.toList).length = l.length + s.size := by rw [List.length_append]; rfl
    rw [e1]
    exact hown
  · rcases hrow.2 with ⟨rfl, hn⟩ | ⟨g, cap, cur, rfl, hbg, hg', hnc, hcm, hcs, htake⟩
    · by_cases hs : s.size = 0
      · rw [hnil.2 ⟨rfl, hs⟩]; exact .inl rfl
      · rw [run_append_nil_string w t tu ty e i _ u.pf us.pf hi hz s (by omega) (by omega) (by rw [hby]; omega)] at hr
        injection hr with h1 h2
        rw [← h1]
        exact .inr rfl
    · by_cases hroom : l.length + s.size ≤ cap
      · rw [Lib.run_append_room_string w t tu ty e i u.pf us.pf hi hsz g l.length cap cur hg' s hroom (by rw [hcs, hr1]; omega)] at hr
        injection hr with h1 h2
        rw [← h1]
        exact .inl rfl
      · have hcells : ∀ j v, css.flatten[j]? = some v → w.cell? ((⟨g, 0, none⟩ : Addr).add j) = some v := fun j u' hu' => hrow.cells (g := g) rfl j u' hu'
        rw [Lib.run_append_grow_string w t tu ty e i _ u.pf us.pf hi hz ⟨g, 0, none⟩ l.length cap css.flatten (by rw [hsz]; exact hrow.1) hcells s (by omega) (by omega) (by rw [hby]; have := nextslicecap_le (need := l.length + s.size) (old := cap) (by omega); omega)] at hr
        injection hr with h1 h2
        rw [← h1]
        exact .inr rfl
variable {ops : Array Oper} {rest : List Oper} {o : Oper} {a : Act} {Q : Exit → Act → World → Prop}
theorem L_lit0 (hS : St W0 w L) {dst : Option Tmp} {t : TypeId} {ty : TypeId} {pos : String} {aft : Array Edge} {gd : Option (Nat × Bool)} {e : TypeId} {z : Value} {sz by_ : Nat} [u : UL P t (.slice e)] [ti : TI P e z sz by_]
    {α : Type} {R : Enc α} (hw : Region.wanted ⟨dst, .buildSlice t 0 #[], ty, pos, aft, gd⟩ (yielded ops a.tmps) = true) (hR : R.sz = sz)
    (k : ∀ g w', St W0 w' (own e R (.slice (some ⟨g, 0, none⟩) 0 0) ([] : List α) :: L) → wpList P ops Q rest (a.put dst (.slice (some ⟨g, 0, none⟩) 0 0)) w') : wpList P ops Q (⟨dst, .buildSlice t 0 #[], ty, pos, aft, gd⟩ :: rest) a w := by
  obtain ⟨i, hi, hz, hsz, hby⟩ := ti.pf
  have hr : (Instr.buildSlice t 0 #[]).run P w = .ok (.slice (some ⟨w.heap.size, 0, none⟩) 0 0) (w.alloc (.cells #[] e)) := by
    simp [Instr.buildSlice, run_underlying u.pf, sizeOf, typeInfo, hi, Instr.fill, newRow]
    have e0 : Array.range 0 = #[] := by decide
    rw [e0]
    simp
  refine step_val (v := .slice (some ⟨w.heap.size, 0, none⟩) 0 0) (w' := w.alloc (.cells #[] e)) hw (by unfold execOp; simp [hr]) (k w.heap.size _ ?_)
  refine (hS.alloc (.cells #[] e)).imp ?_
  intro m h hb
  exact ⟨[], trivial, .inr ⟨w.heap.size, 0, #[], rfl, hb, Nat.le_refl _, by unfold maxLen; omega, by simp, by simp⟩⟩
theorem L_appstr (hS : St W0 w L) {dst : Option Tmp} {t tu : TypeId} {sx sy : Operand} {ty : TypeId} {pos : String} {aft : Array Edge} {gd : Option (Nat × Bool)}
    {e : TypeId} [u : UL P t (.slice e)] [us : UL P tu .string] [ti : TI P e (.int .u8 0) 1 1] {v : Value} {l : List UInt8} {sv : ByteArray} {i : Nat}
    (hw : Region.wanted ⟨dst, .call { callee := .builtin .append, args := #[sx, sy], argTypes := #[t, tu] }, ty, pos, aft, gd⟩ (yielded ops a.tmps) = true) (hv : a.eval sx = v) (hy : a.eval sy = .string sv) (hm : L[i]? = some (own e eB v l))
    (hb : l.length + sv.size ≤ 140737488355328)
    (k : ∀ A c w', St W0 w' (L.set i (own e eB (.slice A (l.length + sv.size) c) (l ++ sv.data.toList))) → wpList P ops Q rest (a.put dst (.slice A (l.length + sv.size) c)) w') :
    wpList P ops Q (⟨dst, .call { callee := .builtin .append, args := #[sx, sy], argTypes := #[t, tu] }, ty, pos, aft, gd⟩ :: rest) a w := by
  obtain ⟨v', w', hr, hS'⟩ := append_str_run (P := P) (t := t) (tu := tu) (ty := ty) (e := e) (by_ := 1) (hS.at_ hm) sv hb
  obtain ⟨A, c, rfl, _⟩ := (hS'.rdo (.head _)).form
  have hl : (l ++ sv.data.toList).length = l.length + sv.size := by rw [List.length_append]; rfl
  rw [hl] at hr hS'
  refine step_val (v := .slice A (l.length + sv.size) c) (w' := w') hw ?_ (k A c w' (hS'.back hm))
  unfold execOp
  simp only [resolve, invoke, builtin, Sem.run_bind, Sem.run_pure, Result.andThen_ok, List.map_toArray, List.map_cons, List.map_nil, hv, hy, hr]
theorem L_eqnil {dst : Option Tmp} {t u' : TypeId} {x : Operand} {n' c' : Nat} {ty : TypeId} {pos : String} {aft : Array Edge} {gd : Option (Nat × Bool)} {e : TypeId} [u : UL P t (.slice e)] {A : Option Addr} {n c : Nat}
    (hw : Region.wanted ⟨dst, .binOp .eql t x (.const (.slice none n' c')) u', ty, pos, aft, gd⟩ (yielded ops a.tmps) = true) (hx : a.eval x = .slice A n c)
    (k : wpList P ops Q rest (a.put dst (.bool A.isNone)) w) : wpList P ops Q (⟨dst, .binOp .eql t x (.const (.slice none n' c')) u', ty, pos, aft, gd⟩ :: rest) a w := by
  refine step_val (v := .bool A.isNone) (w' := w) hw ?_ k
  have h := Lib.run_eql_slice_nil (P := P) w t e A n c n' c' u.pf
  unfold execOp
  have hg : (eqGuard .eql t x (.const (.slice none n' c')) (.slice A n c) (.slice none n' c')).run P w = .ok () w := by simp [eqGuard]
  have he : a.eval (.const (.slice none n' c')) = .slice none n' c' := rfl
  simp only [hx, he, Sem.run_bind, hg, h, Result.andThen_ok]
  rfl
end
end Go.Proofs.YtbjaecofccpahaaGreat
