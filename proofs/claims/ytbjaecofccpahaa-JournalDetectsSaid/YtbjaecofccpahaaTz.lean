/-
  What is known of each struct type's fields.
-/
import Derived.Test.YtbjaecofccpahaaTy
import Derived.Test.YtbjaecofccpahaaG
namespace Go.Proofs.Ytbjaecofccpahaa
open Go Go.RowKit
instance : FD Try.prog 7 0 0 2 := fd_of (by kernel_rfl)
instance : FD Try.prog 7 1 1 3 := fd_of (by kernel_rfl)
instance : FD Try.prog 7 2 2 4 := fd_of (by kernel_rfl)
instance : FD Try.prog 7 3 3 6 := fd_of (by kernel_rfl)
instance : FD Try.prog 8 0 0 2 := fd_of (by kernel_rfl)
instance : FD Try.prog 8 1 1 3 := fd_of (by kernel_rfl)
instance : FD Try.prog 8 2 2 4 := fd_of (by kernel_rfl)
instance : FD Try.prog 8 3 3 6 := fd_of (by kernel_rfl)
instance : FD Try.prog 13 0 0 9 := fd_of (by kernel_rfl)
instance : FD Try.prog 13 1 1 12 := fd_of (by kernel_rfl)
instance : FD Try.prog 14 0 0 9 := fd_of (by kernel_rfl)
instance : FD Try.prog 14 1 1 12 := fd_of (by kernel_rfl)
instance : FD Try.prog 18 0 0 17 := fd_of (by kernel_rfl)
instance : FD Try.prog 19 0 0 17 := fd_of (by kernel_rfl)
instance : FD Try.prog 48 0 0 23 := fd_of (by kernel_rfl)
instance : FD Try.prog 49 0 0 23 := fd_of (by kernel_rfl)
instance : FD Try.prog 69 0 0 24 := fd_of (by kernel_rfl)
instance : FD Try.prog 69 1 1 3 := fd_of (by kernel_rfl)
instance : FD Try.prog 69 2 2 3 := fd_of (by kernel_rfl)
instance : FD Try.prog 69 3 3 4 := fd_of (by kernel_rfl)
instance : FD Try.prog 70 0 0 24 := fd_of (by kernel_rfl)
instance : FD Try.prog 70 1 1 3 := fd_of (by kernel_rfl)
instance : FD Try.prog 70 2 2 3 := fd_of (by kernel_rfl)
instance : FD Try.prog 70 3 3 4 := fd_of (by kernel_rfl)
instance : FD Try.prog 72 0 0 71 := fd_of (by kernel_rfl)
instance : FD Try.prog 72 1 1 3 := fd_of (by kernel_rfl)
instance : FD Try.prog 72 2 2 4 := fd_of (by kernel_rfl)
instance : FD Try.prog 72 3 3 4 := fd_of (by kernel_rfl)
instance : FD Try.prog 72 4 4 3 := fd_of (by kernel_rfl)
instance : FD Try.prog 73 0 0 71 := fd_of (by kernel_rfl)
instance : FD Try.prog 73 1 1 3 := fd_of (by kernel_rfl)
instance : FD Try.prog 73 2 2 4 := fd_of (by kernel_rfl)
instance : FD Try.prog 73 3 3 4 := fd_of (by kernel_rfl)
instance : FD Try.prog 73 4 4 3 := fd_of (by kernel_rfl)
instance : FD Try.prog 76 0 0 23 := fd_of (by kernel_rfl)
instance : FD Try.prog 76 1 1 3 := fd_of (by kernel_rfl)
instance : FD Try.prog 77 0 0 23 := fd_of (by kernel_rfl)
instance : FD Try.prog 77 1 1 3 := fd_of (by kernel_rfl)
instance : FD Try.prog 90 0 0 23 := fd_of (by kernel_rfl)
instance : FD Try.prog 90 1 1 28 := fd_of (by kernel_rfl)
instance : FD Try.prog 91 0 0 23 := fd_of (by kernel_rfl)
instance : FD Try.prog 91 1 1 28 := fd_of (by kernel_rfl)
instance : FD Try.prog 109 0 0 23 := fd_of (by kernel_rfl)
instance : FD Try.prog 109 1 1 28 := fd_of (by kernel_rfl)
instance : FD Try.prog 110 0 0 23 := fd_of (by kernel_rfl)
instance : FD Try.prog 110 1 1 28 := fd_of (by kernel_rfl)
instance : FD Try.prog 139 0 0 17 := fd_of (by kernel_rfl)
instance : FD Try.prog 139 1 1 17 := fd_of (by kernel_rfl)
instance : FD Try.prog 139 2 2 17 := fd_of (by kernel_rfl)
instance : FD Try.prog 139 3 3 9 := fd_of (by kernel_rfl)
instance : FD Try.prog 140 0 0 17 := fd_of (by kernel_rfl)
instance : FD Try.prog 140 1 1 17 := fd_of (by kernel_rfl)
instance : FD Try.prog 140 2 2 17 := fd_of (by kernel_rfl)
instance : FD Try.prog 140 3 3 9 := fd_of (by kernel_rfl)
instance : FD Try.prog 142 0 0 141 := fd_of (by kernel_rfl)
instance : FD Try.prog 143 0 0 141 := fd_of (by kernel_rfl)
instance : FD Try.prog 149 0 0 12 := fd_of (by kernel_rfl)
instance : FD Try.prog 149 1 1 12 := fd_of (by kernel_rfl)
instance : FD Try.prog 149 2 2 129 := fd_of (by kernel_rfl)
instance : FD Try.prog 149 3 3 144 := fd_of (by kernel_rfl)
instance : FD Try.prog 149 4 4 5 := fd_of (by kernel_rfl)
instance : FD Try.prog 149 5 5 5 := fd_of (by kernel_rfl)
instance : FD Try.prog 149 6 6 145 := fd_of (by kernel_rfl)
instance : FD Try.prog 149 7 7 146 := fd_of (by kernel_rfl)
instance : FD Try.prog 149 8 8 79 := fd_of (by kernel_rfl)
instance : FD Try.prog 149 9 9 147 := fd_of (by kernel_rfl)
instance : FD Try.prog 149 10 10 148 := fd_of (by kernel_rfl)
instance : FD Try.prog 150 0 0 12 := fd_of (by kernel_rfl)
instance : FD Try.prog 150 1 1 12 := fd_of (by kernel_rfl)
instance : FD Try.prog 150 2 2 129 := fd_of (by kernel_rfl)
instance : FD Try.prog 150 3 3 144 := fd_of (by kernel_rfl)
instance : FD Try.prog 150 4 4 5 := fd_of (by kernel_rfl)
instance : FD Try.prog 150 5 5 5 := fd_of (by kernel_rfl)
instance : FD Try.prog 150 6 6 145 := fd_of (by kernel_rfl)
instance : FD Try.prog 150 7 7 146 := fd_of (by kernel_rfl)
instance : FD Try.prog 150 8 8 79 := fd_of (by kernel_rfl)
instance : FD Try.prog 150 9 9 147 := fd_of (by kernel_rfl)
instance : FD Try.prog 150 10 10 148 := fd_of (by kernel_rfl)
instance : BD Try.prog 7 [(0, 1), (1, 1), (2, 1), (3, 1)] [(.int .i64 0), (.int .i64 0), (.bool false), (.int .u8 0)] := ⟨fun w => by kernel_rfl, fun w => by kernel_rfl⟩
instance : BD Try.prog 8 [(0, 1), (1, 1), (2, 1), (3, 1)] [(.int .i64 0), (.int .i64 0), (.bool false), (.int .u8 0)] := ⟨fun w => by kernel_rfl, fun w => by kernel_rfl⟩
instance : BD Try.prog 13 [(0, 1), (1, 1)] [(.string ⟨#[]⟩), (.int .u64 0)] := ⟨fun w => by kernel_rfl, fun w => by kernel_rfl⟩
instance : BD Try.prog 14 [(0, 1), (1, 1)] [(.string ⟨#[]⟩), (.int .u64 0)] := ⟨fun w => by kernel_rfl, fun w => by kernel_rfl⟩
instance : BD Try.prog 18 [(0, 1)] [(.pointer none)] := ⟨fun w => by kernel_rfl, fun w => by kernel_rfl⟩
instance : BD Try.prog 19 [(0, 1)] [(.pointer none)] := ⟨fun w => by kernel_rfl, fun w => by kernel_rfl⟩
instance : BD Try.prog 48 [(0, 1)] [(.slice none 0 0)] := ⟨fun w => by kernel_rfl, fun w => by kernel_rfl⟩
instance : BD Try.prog 49 [(0, 1)] [(.slice none 0 0)] := ⟨fun w => by kernel_rfl, fun w => by kernel_rfl⟩
instance : BD Try.prog 69 [(0, 1), (1, 1), (2, 1), (3, 1)] [(.pointer none), (.int .i64 0), (.int .i64 0), (.bool false)] := ⟨fun w => by kernel_rfl, fun w => by kernel_rfl⟩
instance : BD Try.prog 70 [(0, 1), (1, 1), (2, 1), (3, 1)] [(.pointer none), (.int .i64 0), (.int .i64 0), (.bool false)] := ⟨fun w => by kernel_rfl, fun w => by kernel_rfl⟩
instance : BD Try.prog 72 [(0, 1), (1, 1), (2, 1), (3, 1), (4, 1)] [(.map none), (.int .i64 0), (.bool false), (.bool false), (.int .i64 0)] := ⟨fun w => by kernel_rfl, fun w => by kernel_rfl⟩
instance : BD Try.prog 73 [(0, 1), (1, 1), (2, 1), (3, 1), (4, 1)] [(.map none), (.int .i64 0), (.bool false), (.bool false), (.int .i64 0)] := ⟨fun w => by kernel_rfl, fun w => by kernel_rfl⟩
instance : BD Try.prog 76 [(0, 1), (1, 1)] [(.slice none 0 0), (.int .i64 0)] := ⟨fun w => by kernel_rfl, fun w => by kernel_rfl⟩
instance : BD Try.prog 77 [(0, 1), (1, 1)] [(.slice none 0 0), (.int .i64 0)] := ⟨fun w => by kernel_rfl, fun w => by kernel_rfl⟩
instance : BD Try.prog 90 [(0, 1), (1, 1)] [(.slice none 0 0), (.int .i64 0)] := ⟨fun w => by kernel_rfl, fun w => by kernel_rfl⟩
instance : BD Try.prog 91 [(0, 1), (1, 1)] [(.slice none 0 0), (.int .i64 0)] := ⟨fun w => by kernel_rfl, fun w => by kernel_rfl⟩
instance : BD Try.prog 109 [(0, 1), (1, 1)] [(.slice none 0 0), (.int .i64 0)] := ⟨fun w => by kernel_rfl, fun w => by kernel_rfl⟩
instance : BD Try.prog 110 [(0, 1), (1, 1)] [(.slice none 0 0), (.int .i64 0)] := ⟨fun w => by kernel_rfl, fun w => by kernel_rfl⟩
instance : BD Try.prog 139 [(0, 1), (1, 1), (2, 1), (3, 1)] [(.pointer none), (.pointer none), (.pointer none), (.string ⟨#[]⟩)] := ⟨fun w => by kernel_rfl, fun w => by kernel_rfl⟩
instance : BD Try.prog 140 [(0, 1), (1, 1), (2, 1), (3, 1)] [(.pointer none), (.pointer none), (.pointer none), (.string ⟨#[]⟩)] := ⟨fun w => by kernel_rfl, fun w => by kernel_rfl⟩
instance : BD Try.prog 142 [(0, 0)] [] := ⟨fun w => by kernel_rfl, fun w => by kernel_rfl⟩
instance : BD Try.prog 143 [(0, 0)] [] := ⟨fun w => by kernel_rfl, fun w => by kernel_rfl⟩
instance : BD Try.prog 149 [(0, 1), (1, 1), (2, 1), (3, 1), (4, 1), (5, 1), (6, 1), (7, 1), (8, 1), (9, 1), (10, 1)] [(.int .u64 0), (.int .u64 0), (.int .u32 0), (.int .u8 0), (.int .u8 0), (.int .u8 0), (.int .u8 0), .nilFunc, (.pointer none), (.int .i32 0), (.int .i32 0)] := ⟨fun w => by kernel_rfl, fun w => by kernel_rfl⟩
instance : BD Try.prog 150 [(0, 1), (1, 1), (2, 1), (3, 1), (4, 1), (5, 1), (6, 1), (7, 1), (8, 1), (9, 1), (10, 1)] [(.int .u64 0), (.int .u64 0), (.int .u32 0), (.int .u8 0), (.int .u8 0), (.int .u8 0), (.int .u8 0), .nilFunc, (.pointer none), (.int .i32 0), (.int .i32 0)] := ⟨fun w => by kernel_rfl, fun w => by kernel_rfl⟩
end Go.Proofs.Ytbjaecofccpahaa
