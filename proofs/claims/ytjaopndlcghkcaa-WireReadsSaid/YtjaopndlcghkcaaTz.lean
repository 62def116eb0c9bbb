/-
  What is known of each struct type's fields.
-/
import Derived.Test.YtjaopndlcghkcaaTy
import Derived.Test.YtjaopndlcghkcaaG
namespace Go.Proofs.Ytjaopndlcghkcaa
open Go Go.RowKit
instance : FD Try.prog 7 0 0 2 := fd_of (by kernel_rfl)
instance : FD Try.prog 7 1 1 3 := fd_of (by kernel_rfl)
instance : FD Try.prog 7 2 2 4 := fd_of (by kernel_rfl)
instance : FD Try.prog 7 3 3 6 := fd_of (by kernel_rfl)
instance : FD Try.prog 8 0 0 2 := fd_of (by kernel_rfl)
instance : FD Try.prog 8 1 1 3 := fd_of (by kernel_rfl)
instance : FD Try.prog 8 2 2 4 := fd_of (by kernel_rfl)
instance : FD Try.prog 8 3 3 6 := fd_of (by kernel_rfl)
instance : FD Try.prog 13 0 0 9 := fd_of (by kernel_rfl)
instance : FD Try.prog 13 1 1 12 := fd_of (by kernel_rfl)
instance : FD Try.prog 14 0 0 9 := fd_of (by kernel_rfl)
instance : FD Try.prog 14 1 1 12 := fd_of (by kernel_rfl)
instance : FD Try.prog 18 0 0 17 := fd_of (by kernel_rfl)
instance : FD Try.prog 19 0 0 17 := fd_of (by kernel_rfl)
instance : FD Try.prog 25 0 0 24 := fd_of (by kernel_rfl)
instance : FD Try.prog 26 0 0 24 := fd_of (by kernel_rfl)
instance : FD Try.prog 43 0 0 24 := fd_of (by kernel_rfl)
instance : FD Try.prog 43 1 1 42 := fd_of (by kernel_rfl)
instance : FD Try.prog 44 0 0 24 := fd_of (by kernel_rfl)
instance : FD Try.prog 44 1 1 42 := fd_of (by kernel_rfl)
instance : FD Try.prog 46 0 0 3 := fd_of (by kernel_rfl)
instance : FD Try.prog 46 1 1 22 := fd_of (by kernel_rfl)
instance : FD Try.prog 46 2 2 3 := fd_of (by kernel_rfl)
instance : FD Try.prog 46 3 3 24 := fd_of (by kernel_rfl)
instance : FD Try.prog 46 4 4 33 := fd_of (by kernel_rfl)
instance : FD Try.prog 47 0 0 3 := fd_of (by kernel_rfl)
instance : FD Try.prog 47 1 1 22 := fd_of (by kernel_rfl)
instance : FD Try.prog 47 2 2 3 := fd_of (by kernel_rfl)
instance : FD Try.prog 47 3 3 24 := fd_of (by kernel_rfl)
instance : FD Try.prog 47 4 4 33 := fd_of (by kernel_rfl)
instance : FD Try.prog 78 0 0 24 := fd_of (by kernel_rfl)
instance : FD Try.prog 78 1 1 42 := fd_of (by kernel_rfl)
instance : FD Try.prog 79 0 0 24 := fd_of (by kernel_rfl)
instance : FD Try.prog 79 1 1 42 := fd_of (by kernel_rfl)
instance : FD Try.prog 92 0 0 17 := fd_of (by kernel_rfl)
instance : FD Try.prog 92 1 1 17 := fd_of (by kernel_rfl)
instance : FD Try.prog 92 2 2 17 := fd_of (by kernel_rfl)
instance : FD Try.prog 92 3 3 9 := fd_of (by kernel_rfl)
instance : FD Try.prog 93 0 0 17 := fd_of (by kernel_rfl)
instance : FD Try.prog 93 1 1 17 := fd_of (by kernel_rfl)
instance : FD Try.prog 93 2 2 17 := fd_of (by kernel_rfl)
instance : FD Try.prog 93 3 3 9 := fd_of (by kernel_rfl)
instance : FD Try.prog 95 0 0 94 := fd_of (by kernel_rfl)
instance : FD Try.prog 96 0 0 94 := fd_of (by kernel_rfl)
instance : FD Try.prog 104 0 0 12 := fd_of (by kernel_rfl)
instance : FD Try.prog 104 1 1 12 := fd_of (by kernel_rfl)
instance : FD Try.prog 104 2 2 97 := fd_of (by kernel_rfl)
instance : FD Try.prog 104 3 3 98 := fd_of (by kernel_rfl)
instance : FD Try.prog 104 4 4 5 := fd_of (by kernel_rfl)
instance : FD Try.prog 104 5 5 5 := fd_of (by kernel_rfl)
instance : FD Try.prog 104 6 6 99 := fd_of (by kernel_rfl)
instance : FD Try.prog 104 7 7 100 := fd_of (by kernel_rfl)
instance : FD Try.prog 104 8 8 101 := fd_of (by kernel_rfl)
instance : FD Try.prog 104 9 9 102 := fd_of (by kernel_rfl)
instance : FD Try.prog 104 10 10 103 := fd_of (by kernel_rfl)
instance : FD Try.prog 105 0 0 12 := fd_of (by kernel_rfl)
instance : FD Try.prog 105 1 1 12 := fd_of (by kernel_rfl)
instance : FD Try.prog 105 2 2 97 := fd_of (by kernel_rfl)
instance : FD Try.prog 105 3 3 98 := fd_of (by kernel_rfl)
instance : FD Try.prog 105 4 4 5 := fd_of (by kernel_rfl)
instance : FD Try.prog 105 5 5 5 := fd_of (by kernel_rfl)
instance : FD Try.prog 105 6 6 99 := fd_of (by kernel_rfl)
instance : FD Try.prog 105 7 7 100 := fd_of (by kernel_rfl)
instance : FD Try.prog 105 8 8 101 := fd_of (by kernel_rfl)
instance : FD Try.prog 105 9 9 102 := fd_of (by kernel_rfl)
instance : FD Try.prog 105 10 10 103 := fd_of (by kernel_rfl)
instance : BD Try.prog 7 [(0, 1), (1, 1), (2, 1), (3, 1)] [(.int .i64 0), (.int .i64 0), (.bool false), (.int .u8 0)] := ⟨fun w => by kernel_rfl, fun w => by kernel_rfl⟩
instance : BD Try.prog 8 [(0, 1), (1, 1), (2, 1), (3, 1)] [(.int .i64 0), (.int .i64 0), (.bool false), (.int .u8 0)] := ⟨fun w => by kernel_rfl, fun w => by kernel_rfl⟩
instance : BD Try.prog 13 [(0, 1), (1, 1)] [(.string ⟨#[]⟩), (.int .u64 0)] := ⟨fun w => by kernel_rfl, fun w => by kernel_rfl⟩
instance : BD Try.prog 14 [(0, 1), (1, 1)] [(.string ⟨#[]⟩), (.int .u64 0)] := ⟨fun w => by kernel_rfl, fun w => by kernel_rfl⟩
instance : BD Try.prog 18 [(0, 1)] [(.pointer none)] := ⟨fun w => by kernel_rfl, fun w => by kernel_rfl⟩
instance : BD Try.prog 19 [(0, 1)] [(.pointer none)] := ⟨fun w => by kernel_rfl, fun w => by kernel_rfl⟩
instance : BD Try.prog 25 [(0, 1)] [(.slice none 0 0)] := ⟨fun w => by kernel_rfl, fun w => by kernel_rfl⟩
instance : BD Try.prog 26 [(0, 1)] [(.slice none 0 0)] := ⟨fun w => by kernel_rfl, fun w => by kernel_rfl⟩
instance : BD Try.prog 43 [(0, 1), (1, 1)] [(.slice none 0 0), (.int .i64 0)] := ⟨fun w => by kernel_rfl, fun w => by kernel_rfl⟩
instance : BD Try.prog 44 [(0, 1), (1, 1)] [(.slice none 0 0), (.int .i64 0)] := ⟨fun w => by kernel_rfl, fun w => by kernel_rfl⟩
instance : BD Try.prog 46 [(0, 1), (1, 1), (2, 1), (3, 1), (4, 1)] [(.int .i64 0), (.int .u64 0), (.int .i64 0), (.slice none 0 0), (.slice none 0 0)] := ⟨fun w => by kernel_rfl, fun w => by kernel_rfl⟩
instance : BD Try.prog 47 [(0, 1), (1, 1), (2, 1), (3, 1), (4, 1)] [(.int .i64 0), (.int .u64 0), (.int .i64 0), (.slice none 0 0), (.slice none 0 0)] := ⟨fun w => by kernel_rfl, fun w => by kernel_rfl⟩
instance : BD Try.prog 78 [(0, 1), (1, 1)] [(.slice none 0 0), (.int .i64 0)] := ⟨fun w => by kernel_rfl, fun w => by kernel_rfl⟩
instance : BD Try.prog 79 [(0, 1), (1, 1)] [(.slice none 0 0), (.int .i64 0)] := ⟨fun w => by kernel_rfl, fun w => by kernel_rfl⟩
instance : BD Try.prog 92 [(0, 1), (1, 1), (2, 1), (3, 1)] [(.pointer none), (.pointer none), (.pointer none), (.string ⟨#[]⟩)] := ⟨fun w => by kernel_rfl, fun w => by kernel_rfl⟩
instance : BD Try.prog 93 [(0, 1), (1, 1), (2, 1), (3, 1)] [(.pointer none), (.pointer none), (.pointer none), (.string ⟨#[]⟩)] := ⟨fun w => by kernel_rfl, fun w => by kernel_rfl⟩
instance : BD Try.prog 95 [(0, 0)] [] := ⟨fun w => by kernel_rfl, fun w => by kernel_rfl⟩
instance : BD Try.prog 96 [(0, 0)] [] := ⟨fun w => by kernel_rfl, fun w => by kernel_rfl⟩
instance : BD Try.prog 104 [(0, 1), (1, 1), (2, 1), (3, 1), (4, 1), (5, 1), (6, 1), (7, 1), (8, 1), (9, 1), (10, 1)] [(.int .u64 0), (.int .u64 0), (.int .u32 0), (.int .u8 0), (.int .u8 0), (.int .u8 0), (.int .u8 0), .nilFunc, (.pointer none), (.int .i32 0), (.int .i32 0)] := ⟨fun w => by kernel_rfl, fun w => by kernel_rfl⟩
instance : BD Try.prog 105 [(0, 1), (1, 1), (2, 1), (3, 1), (4, 1), (5, 1), (6, 1), (7, 1), (8, 1), (9, 1), (10, 1)] [(.int .u64 0), (.int .u64 0), (.int .u32 0), (.int .u8 0), (.int .u8 0), (.int .u8 0), (.int .u8 0), .nilFunc, (.pointer none), (.int .i32 0), (.int .i32 0)] := ⟨fun w => by kernel_rfl, fun w => by kernel_rfl⟩
end Go.Proofs.Ytjaopndlcghkcaa
