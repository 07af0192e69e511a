/- Texts in one file: Tab C2 C3 C4 C5 G1 FwM FwR. -/
import Derived.Test.YtckhibfbdnoigaaGreatOC1
import Derived.Test.YtckhibfbdnoigaaGreatProg
import Derived.KernelRfl
import Derived.Deep.Slices
import Derived.WalkKit
import Derived.ProofKit
import Derived.OpenShut
import Derived.ShutString
import Derived.ChangeOld
/- Closed facts on the types and functions of the program. Written by a program of my own (tables.py). -/
namespace Go.Proofs.YtckhibfbdnoigaaGreat
instance : CSize Tryz.prog 0 1 := ⟨by kernel_rfl⟩
instance : CNotAgg Tryz.prog 0 := ⟨by kernel_rfl⟩
instance : CZero Tryz.prog 0 (.tuple #[]) := ⟨by kernel_rfl⟩
instance : CBytes Tryz.prog 0 0 := ⟨by kernel_rfl⟩
instance : CSize Tryz.prog 1 1 := ⟨by kernel_rfl⟩
instance : CNotAgg Tryz.prog 1 := ⟨by kernel_rfl⟩
instance : CBytes Tryz.prog 1 8 := ⟨by kernel_rfl⟩
instance : CSize Tryz.prog 2 1 := ⟨by kernel_rfl⟩
instance : CNotAgg Tryz.prog 2 := ⟨by kernel_rfl⟩
instance : CZero Tryz.prog 2 (.int .i64 0) := ⟨by kernel_rfl⟩
instance : CBytes Tryz.prog 2 8 := ⟨by kernel_rfl⟩
instance : CInt Tryz.prog 2 .i64 := ⟨by kernel_rfl⟩
instance : CSize Tryz.prog 3 1 := ⟨by kernel_rfl⟩
instance : CNotAgg Tryz.prog 3 := ⟨by kernel_rfl⟩
instance : CZero Tryz.prog 3 (.int .i64 0) := ⟨by kernel_rfl⟩
instance : CBytes Tryz.prog 3 8 := ⟨by kernel_rfl⟩
instance : CInt Tryz.prog 3 .i64 := ⟨by kernel_rfl⟩
instance : CSize Tryz.prog 4 1 := ⟨by kernel_rfl⟩
instance : CNotAgg Tryz.prog 4 := ⟨by kernel_rfl⟩
instance : CZero Tryz.prog 4 (.bool false) := ⟨by kernel_rfl⟩
instance : CBytes Tryz.prog 4 1 := ⟨by kernel_rfl⟩
instance : CSize Tryz.prog 5 1 := ⟨by kernel_rfl⟩
instance : CNotAgg Tryz.prog 5 := ⟨by kernel_rfl⟩
instance : CZero Tryz.prog 5 (.int .u8 0) := ⟨by kernel_rfl⟩
instance : CBytes Tryz.prog 5 1 := ⟨by kernel_rfl⟩
instance : CInt Tryz.prog 5 .u8 := ⟨by kernel_rfl⟩
instance : CSize Tryz.prog 6 1 := ⟨by kernel_rfl⟩
instance : CNotAgg Tryz.prog 6 := ⟨by kernel_rfl⟩
instance : CZero Tryz.prog 6 (.int .u8 0) := ⟨by kernel_rfl⟩
instance : CBytes Tryz.prog 6 1 := ⟨by kernel_rfl⟩
instance : CInt Tryz.prog 6 .u8 := ⟨by kernel_rfl⟩
instance : CAgg Tryz.prog 7 4 := ⟨by kernel_rfl⟩
instance : CSize Tryz.prog 7 4 := ⟨by kernel_rfl⟩
instance : CZero Tryz.prog 7 (.agg #[.int .i64 0, .int .i64 0, .bool false, .int .u8 0]) := ⟨by kernel_rfl⟩
instance : CBytes Tryz.prog 7 24 := ⟨by kernel_rfl⟩
instance : CPlaces Tryz.prog 7 [(0, 1), (1, 1), (2, 1), (3, 1)] := ⟨by kernel_rfl⟩
instance : CField Tryz.prog 7 0 0 := ⟨by kernel_rfl⟩
instance : CField Tryz.prog 7 1 1 := ⟨by kernel_rfl⟩
instance : CField Tryz.prog 7 2 2 := ⟨by kernel_rfl⟩
instance : CField Tryz.prog 7 3 3 := ⟨by kernel_rfl⟩
instance : CAgg Tryz.prog 8 4 := ⟨by kernel_rfl⟩
instance : CSize Tryz.prog 8 4 := ⟨by kernel_rfl⟩
instance : CZero Tryz.prog 8 (.agg #[.int .i64 0, .int .i64 0, .bool false, .int .u8 0]) := ⟨by kernel_rfl⟩
instance : CBytes Tryz.prog 8 24 := ⟨by kernel_rfl⟩
instance : CPlaces Tryz.prog 8 [(0, 1), (1, 1), (2, 1), (3, 1)] := ⟨by kernel_rfl⟩
instance : CField Tryz.prog 8 0 0 := ⟨by kernel_rfl⟩
instance : CField Tryz.prog 8 1 1 := ⟨by kernel_rfl⟩
instance : CField Tryz.prog 8 2 2 := ⟨by kernel_rfl⟩
instance : CField Tryz.prog 8 3 3 := ⟨by kernel_rfl⟩
instance : CSize Tryz.prog 9 1 := ⟨by kernel_rfl⟩
instance : CNotAgg Tryz.prog 9 := ⟨by kernel_rfl⟩
instance : CIsStr Tryz.prog 9 := ⟨by kernel_rfl⟩
instance : CZero Tryz.prog 9 (.string ⟨#[]⟩) := ⟨by kernel_rfl⟩
instance : CBytes Tryz.prog 9 16 := ⟨by kernel_rfl⟩
instance : CSize Tryz.prog 10 1 := ⟨by kernel_rfl⟩
instance : CNotAgg Tryz.prog 10 := ⟨by kernel_rfl⟩
instance : CIsStr Tryz.prog 10 := ⟨by kernel_rfl⟩
instance : CZero Tryz.prog 10 (.string ⟨#[]⟩) := ⟨by kernel_rfl⟩
instance : CBytes Tryz.prog 10 16 := ⟨by kernel_rfl⟩
instance : CSize Tryz.prog 11 1 := ⟨by kernel_rfl⟩
instance : CNotAgg Tryz.prog 11 := ⟨by kernel_rfl⟩
instance : CIsStr Tryz.prog 11 := ⟨by kernel_rfl⟩
instance : CZero Tryz.prog 11 (.string ⟨#[]⟩) := ⟨by kernel_rfl⟩
instance : CBytes Tryz.prog 11 16 := ⟨by kernel_rfl⟩
instance : CSize Tryz.prog 12 1 := ⟨by kernel_rfl⟩
instance : CNotAgg Tryz.prog 12 := ⟨by kernel_rfl⟩
instance : CZero Tryz.prog 12 (.int .u64 0) := ⟨by kernel_rfl⟩
instance : CBytes Tryz.prog 12 8 := ⟨by kernel_rfl⟩
instance : CInt Tryz.prog 12 .u64 := ⟨by kernel_rfl⟩
instance : CAgg Tryz.prog 13 2 := ⟨by kernel_rfl⟩
instance : CSize Tryz.prog 13 2 := ⟨by kernel_rfl⟩
instance : CZero Tryz.prog 13 (.agg #[.string ⟨#[]⟩, .int .u64 0]) := ⟨by kernel_rfl⟩
instance : CBytes Tryz.prog 13 24 := ⟨by kernel_rfl⟩
instance : CPlaces Tryz.prog 13 [(0, 1), (1, 1)] := ⟨by kernel_rfl⟩
instance : CField Tryz.prog 13 0 0 := ⟨by kernel_rfl⟩
instance : CField Tryz.prog 13 1 1 := ⟨by kernel_rfl⟩
instance : CAgg Tryz.prog 14 2 := ⟨by kernel_rfl⟩
instance : CSize Tryz.prog 14 2 := ⟨by kernel_rfl⟩
instance : CZero Tryz.prog 14 (.agg #[.string ⟨#[]⟩, .int .u64 0]) := ⟨by kernel_rfl⟩
instance : CBytes Tryz.prog 14 24 := ⟨by kernel_rfl⟩
instance : CPlaces Tryz.prog 14 [(0, 1), (1, 1)] := ⟨by kernel_rfl⟩
instance : CField Tryz.prog 14 0 0 := ⟨by kernel_rfl⟩
instance : CField Tryz.prog 14 1 1 := ⟨by kernel_rfl⟩
instance : CSize Tryz.prog 15 1 := ⟨by kernel_rfl⟩
instance : CNotAgg Tryz.prog 15 := ⟨by kernel_rfl⟩
instance : CZero Tryz.prog 15 (.pointer none) := ⟨by kernel_rfl⟩
instance : CBytes Tryz.prog 15 8 := ⟨by kernel_rfl⟩
instance : CSize Tryz.prog 16 1 := ⟨by kernel_rfl⟩
instance : CNotAgg Tryz.prog 16 := ⟨by kernel_rfl⟩
instance : CZero Tryz.prog 16 (.pointer none) := ⟨by kernel_rfl⟩
instance : CBytes Tryz.prog 16 8 := ⟨by kernel_rfl⟩
instance : CSize Tryz.prog 17 1 := ⟨by kernel_rfl⟩
instance : CNotAgg Tryz.prog 17 := ⟨by kernel_rfl⟩
instance : CZero Tryz.prog 17 (.pointer none) := ⟨by kernel_rfl⟩
instance : CBytes Tryz.prog 17 8 := ⟨by kernel_rfl⟩
instance : CAgg Tryz.prog 18 1 := ⟨by kernel_rfl⟩
instance : CSize Tryz.prog 18 1 := ⟨by kernel_rfl⟩
instance : CZero Tryz.prog 18 (.agg #[.pointer none]) := ⟨by kernel_rfl⟩
instance : CBytes Tryz.prog 18 8 := ⟨by kernel_rfl⟩
instance : CPlaces Tryz.prog 18 [(0, 1)] := ⟨by kernel_rfl⟩
instance : CField Tryz.prog 18 0 0 := ⟨by kernel_rfl⟩
instance : CAgg Tryz.prog 19 1 := ⟨by kernel_rfl⟩
instance : CSize Tryz.prog 19 1 := ⟨by kernel_rfl⟩
instance : CZero Tryz.prog 19 (.agg #[.pointer none]) := ⟨by kernel_rfl⟩
instance : CBytes Tryz.prog 19 8 := ⟨by kernel_rfl⟩
instance : CPlaces Tryz.prog 19 [(0, 1)] := ⟨by kernel_rfl⟩
instance : CField Tryz.prog 19 0 0 := ⟨by kernel_rfl⟩
instance : CSize Tryz.prog 20 1 := ⟨by kernel_rfl⟩
instance : CNotAgg Tryz.prog 20 := ⟨by kernel_rfl⟩
instance : CBytes Tryz.prog 20 16 := ⟨by kernel_rfl⟩
instance : CSize Tryz.prog 21 1 := ⟨by kernel_rfl⟩
instance : CNotAgg Tryz.prog 21 := ⟨by kernel_rfl⟩
instance : CZero Tryz.prog 21 (.int .i32 0) := ⟨by kernel_rfl⟩
instance : CBytes Tryz.prog 21 4 := ⟨by kernel_rfl⟩
instance : CInt Tryz.prog 21 .i32 := ⟨by kernel_rfl⟩
instance : CSlice Tryz.prog 22 9 1 := ⟨by kernel_rfl⟩
instance : CSize Tryz.prog 22 1 := ⟨by kernel_rfl⟩
instance : CNotAgg Tryz.prog 22 := ⟨by kernel_rfl⟩
instance : CIsSlice Tryz.prog 22 := ⟨by kernel_rfl⟩
instance : CZero Tryz.prog 22 (.slice none 0 0) := ⟨by kernel_rfl⟩
instance : CBytes Tryz.prog 22 24 := ⟨by kernel_rfl⟩
instance : CSlice Tryz.prog 23 3 1 := ⟨by kernel_rfl⟩
instance : CSize Tryz.prog 23 1 := ⟨by kernel_rfl⟩
instance : CNotAgg Tryz.prog 23 := ⟨by kernel_rfl⟩
instance : CIsSlice Tryz.prog 23 := ⟨by kernel_rfl⟩
instance : CZero Tryz.prog 23 (.slice none 0 0) := ⟨by kernel_rfl⟩
instance : CBytes Tryz.prog 23 24 := ⟨by kernel_rfl⟩
instance : CSlice Tryz.prog 24 80 7 := ⟨by kernel_rfl⟩
instance : CSize Tryz.prog 24 1 := ⟨by kernel_rfl⟩
instance : CNotAgg Tryz.prog 24 := ⟨by kernel_rfl⟩
instance : CIsSlice Tryz.prog 24 := ⟨by kernel_rfl⟩
instance : CZero Tryz.prog 24 (.slice none 0 0) := ⟨by kernel_rfl⟩
instance : CBytes Tryz.prog 24 24 := ⟨by kernel_rfl⟩
instance : CSlice Tryz.prog 25 134 3 := ⟨by kernel_rfl⟩
instance : CSize Tryz.prog 25 1 := ⟨by kernel_rfl⟩
instance : CNotAgg Tryz.prog 25 := ⟨by kernel_rfl⟩
instance : CIsSlice Tryz.prog 25 := ⟨by kernel_rfl⟩
instance : CZero Tryz.prog 25 (.slice none 0 0) := ⟨by kernel_rfl⟩
instance : CBytes Tryz.prog 25 24 := ⟨by kernel_rfl⟩
instance : CSlice Tryz.prog 26 137 6 := ⟨by kernel_rfl⟩
instance : CSize Tryz.prog 26 1 := ⟨by kernel_rfl⟩
instance : CNotAgg Tryz.prog 26 := ⟨by kernel_rfl⟩
instance : CIsSlice Tryz.prog 26 := ⟨by kernel_rfl⟩
instance : CZero Tryz.prog 26 (.slice none 0 0) := ⟨by kernel_rfl⟩
instance : CBytes Tryz.prog 26 24 := ⟨by kernel_rfl⟩
instance : CSlice Tryz.prog 27 69 5 := ⟨by kernel_rfl⟩
instance : CSize Tryz.prog 27 1 := ⟨by kernel_rfl⟩
instance : CNotAgg Tryz.prog 27 := ⟨by kernel_rfl⟩
instance : CIsSlice Tryz.prog 27 := ⟨by kernel_rfl⟩
instance : CZero Tryz.prog 27 (.slice none 0 0) := ⟨by kernel_rfl⟩
instance : CBytes Tryz.prog 27 24 := ⟨by kernel_rfl⟩
instance : CAgg Tryz.prog 28 7 := ⟨by kernel_rfl⟩
instance : CSize Tryz.prog 28 7 := ⟨by kernel_rfl⟩
instance : CZero Tryz.prog 28 (.agg #[.string ⟨#[]⟩, .slice none 0 0, .slice none 0 0, .slice none 0 0, .slice none 0 0, .slice none 0 0, .slice none 0 0]) := ⟨by kernel_rfl⟩
instance : CBytes Tryz.prog 28 160 := ⟨by kernel_rfl⟩
instance : CPlaces Tryz.prog 28 [(0, 1), (1, 1), (2, 1), (3, 1), (4, 1), (5, 1), (6, 1)] := ⟨by kernel_rfl⟩
instance : CField Tryz.prog 28 0 0 := ⟨by kernel_rfl⟩
instance : CField Tryz.prog 28 1 1 := ⟨by kernel_rfl⟩
instance : CField Tryz.prog 28 2 2 := ⟨by kernel_rfl⟩
instance : CField Tryz.prog 28 3 3 := ⟨by kernel_rfl⟩
instance : CField Tryz.prog 28 4 4 := ⟨by kernel_rfl⟩
instance : CField Tryz.prog 28 5 5 := ⟨by kernel_rfl⟩
instance : CField Tryz.prog 28 6 6 := ⟨by kernel_rfl⟩
instance : CAgg Tryz.prog 29 7 := ⟨by kernel_rfl⟩
instance : CSize Tryz.prog 29 7 := ⟨by kernel_rfl⟩
instance : CZero Tryz.prog 29 (.agg #[.string ⟨#[]⟩, .slice none 0 0, .slice none 0 0, .slice none 0 0, .slice none 0 0, .slice none 0 0, .slice none 0 0]) := ⟨by kernel_rfl⟩
instance : CBytes Tryz.prog 29 160 := ⟨by kernel_rfl⟩
instance : CPlaces Tryz.prog 29 [(0, 1), (1, 1), (2, 1), (3, 1), (4, 1), (5, 1), (6, 1)] := ⟨by kernel_rfl⟩
instance : CField Tryz.prog 29 0 0 := ⟨by kernel_rfl⟩
instance : CField Tryz.prog 29 1 1 := ⟨by kernel_rfl⟩
instance : CField Tryz.prog 29 2 2 := ⟨by kernel_rfl⟩
instance : CField Tryz.prog 29 3 3 := ⟨by kernel_rfl⟩
instance : CField Tryz.prog 29 4 4 := ⟨by kernel_rfl⟩
instance : CField Tryz.prog 29 5 5 := ⟨by kernel_rfl⟩
instance : CField Tryz.prog 29 6 6 := ⟨by kernel_rfl⟩
instance : CSize Tryz.prog 30 1 := ⟨by kernel_rfl⟩
instance : CNotAgg Tryz.prog 30 := ⟨by kernel_rfl⟩
instance : CBytes Tryz.prog 30 8 := ⟨by kernel_rfl⟩
instance : CSize Tryz.prog 31 1 := ⟨by kernel_rfl⟩
instance : CNotAgg Tryz.prog 31 := ⟨by kernel_rfl⟩
instance : CBytes Tryz.prog 31 8 := ⟨by kernel_rfl⟩
instance : CSize Tryz.prog 32 1 := ⟨by kernel_rfl⟩
instance : CNotAgg Tryz.prog 32 := ⟨by kernel_rfl⟩
instance : CZero Tryz.prog 32 (.int .i64 0) := ⟨by kernel_rfl⟩
instance : CBytes Tryz.prog 32 8 := ⟨by kernel_rfl⟩
instance : CInt Tryz.prog 32 .i64 := ⟨by kernel_rfl⟩
instance : CSize Tryz.prog 33 1 := ⟨by kernel_rfl⟩
instance : CNotAgg Tryz.prog 33 := ⟨by kernel_rfl⟩
instance : CBytes Tryz.prog 33 8 := ⟨by kernel_rfl⟩
instance : CSlice Tryz.prog 34 59 6 := ⟨by kernel_rfl⟩
instance : CSize Tryz.prog 34 1 := ⟨by kernel_rfl⟩
instance : CNotAgg Tryz.prog 34 := ⟨by kernel_rfl⟩
instance : CIsSlice Tryz.prog 34 := ⟨by kernel_rfl⟩
instance : CZero Tryz.prog 34 (.slice none 0 0) := ⟨by kernel_rfl⟩
instance : CBytes Tryz.prog 34 24 := ⟨by kernel_rfl⟩
instance : CSlice Tryz.prog 35 85 3 := ⟨by kernel_rfl⟩
instance : CSize Tryz.prog 35 1 := ⟨by kernel_rfl⟩
instance : CNotAgg Tryz.prog 35 := ⟨by kernel_rfl⟩
instance : CIsSlice Tryz.prog 35 := ⟨by kernel_rfl⟩
instance : CZero Tryz.prog 35 (.slice none 0 0) := ⟨by kernel_rfl⟩
instance : CBytes Tryz.prog 35 24 := ⟨by kernel_rfl⟩
instance : CAgg Tryz.prog 36 10 := ⟨by kernel_rfl⟩
instance : CSize Tryz.prog 36 10 := ⟨by kernel_rfl⟩
instance : CZero Tryz.prog 36 (.agg #[.string ⟨#[]⟩, .slice none 0 0, .slice none 0 0, .slice none 0 0, .slice none 0 0, .slice none 0 0, .slice none 0 0, .int .i64 0, .slice none 0 0, .slice none 0 0]) := ⟨by kernel_rfl⟩
instance : CBytes Tryz.prog 36 216 := ⟨by kernel_rfl⟩
instance : CPlaces Tryz.prog 36 [(0, 7), (7, 1), (8, 1), (9, 1)] := ⟨by kernel_rfl⟩
instance : CField Tryz.prog 36 0 0 := ⟨by kernel_rfl⟩
instance : CField Tryz.prog 36 1 7 := ⟨by kernel_rfl⟩
instance : CField Tryz.prog 36 2 8 := ⟨by kernel_rfl⟩
instance : CField Tryz.prog 36 3 9 := ⟨by kernel_rfl⟩
instance : CAgg Tryz.prog 37 10 := ⟨by kernel_rfl⟩
instance : CSize Tryz.prog 37 10 := ⟨by kernel_rfl⟩
instance : CZero Tryz.prog 37 (.agg #[.string ⟨#[]⟩, .slice none 0 0, .slice none 0 0, .slice none 0 0, .slice none 0 0, .slice none 0 0, .slice none 0 0, .int .i64 0, .slice none 0 0, .slice none 0 0]) := ⟨by kernel_rfl⟩
instance : CBytes Tryz.prog 37 216 := ⟨by kernel_rfl⟩
instance : CPlaces Tryz.prog 37 [(0, 7), (7, 1), (8, 1), (9, 1)] := ⟨by kernel_rfl⟩
instance : CField Tryz.prog 37 0 0 := ⟨by kernel_rfl⟩
instance : CField Tryz.prog 37 1 7 := ⟨by kernel_rfl⟩
instance : CField Tryz.prog 37 2 8 := ⟨by kernel_rfl⟩
instance : CField Tryz.prog 37 3 9 := ⟨by kernel_rfl⟩
instance : CSize Tryz.prog 38 1 := ⟨by kernel_rfl⟩
instance : CNotAgg Tryz.prog 38 := ⟨by kernel_rfl⟩
instance : CBytes Tryz.prog 38 8 := ⟨by kernel_rfl⟩
instance : CSlice Tryz.prog 39 23 1 := ⟨by kernel_rfl⟩
instance : CSize Tryz.prog 39 1 := ⟨by kernel_rfl⟩
instance : CNotAgg Tryz.prog 39 := ⟨by kernel_rfl⟩
instance : CIsSlice Tryz.prog 39 := ⟨by kernel_rfl⟩
instance : CZero Tryz.prog 39 (.slice none 0 0) := ⟨by kernel_rfl⟩
instance : CBytes Tryz.prog 39 24 := ⟨by kernel_rfl⟩
instance : CSize Tryz.prog 40 1 := ⟨by kernel_rfl⟩
instance : CNotAgg Tryz.prog 40 := ⟨by kernel_rfl⟩
instance : CZero Tryz.prog 40 (.tuple #[.slice none 0 0, .int .i64 0]) := ⟨by kernel_rfl⟩
instance : CBytes Tryz.prog 40 0 := ⟨by kernel_rfl⟩
instance : CSize Tryz.prog 41 1 := ⟨by kernel_rfl⟩
instance : CNotAgg Tryz.prog 41 := ⟨by kernel_rfl⟩
instance : CBytes Tryz.prog 41 8 := ⟨by kernel_rfl⟩
instance : CSlice Tryz.prog 42 87 5 := ⟨by kernel_rfl⟩
instance : CSize Tryz.prog 42 1 := ⟨by kernel_rfl⟩
instance : CNotAgg Tryz.prog 42 := ⟨by kernel_rfl⟩
instance : CIsSlice Tryz.prog 42 := ⟨by kernel_rfl⟩
instance : CZero Tryz.prog 42 (.slice none 0 0) := ⟨by kernel_rfl⟩
instance : CBytes Tryz.prog 42 24 := ⟨by kernel_rfl⟩
instance : CSize Tryz.prog 43 1 := ⟨by kernel_rfl⟩
instance : CNotAgg Tryz.prog 43 := ⟨by kernel_rfl⟩
instance : CZero Tryz.prog 43 (.tuple #[.slice none 0 0, .int .i64 0]) := ⟨by kernel_rfl⟩
instance : CBytes Tryz.prog 43 0 := ⟨by kernel_rfl⟩
instance : CSize Tryz.prog 44 1 := ⟨by kernel_rfl⟩
instance : CNotAgg Tryz.prog 44 := ⟨by kernel_rfl⟩
instance : CBytes Tryz.prog 44 8 := ⟨by kernel_rfl⟩
instance : CAgg Tryz.prog 45 2 := ⟨by kernel_rfl⟩
instance : CSize Tryz.prog 45 2 := ⟨by kernel_rfl⟩
instance : CZero Tryz.prog 45 (.agg #[.string ⟨#[]⟩, .slice none 0 0]) := ⟨by kernel_rfl⟩
instance : CBytes Tryz.prog 45 40 := ⟨by kernel_rfl⟩
instance : CPlaces Tryz.prog 45 [(0, 1), (1, 1)] := ⟨by kernel_rfl⟩
instance : CField Tryz.prog 45 0 0 := ⟨by kernel_rfl⟩
instance : CField Tryz.prog 45 1 1 := ⟨by kernel_rfl⟩
instance : CAgg Tryz.prog 46 2 := ⟨by kernel_rfl⟩
instance : CSize Tryz.prog 46 2 := ⟨by kernel_rfl⟩
instance : CZero Tryz.prog 46 (.agg #[.string ⟨#[]⟩, .slice none 0 0]) := ⟨by kernel_rfl⟩
instance : CBytes Tryz.prog 46 40 := ⟨by kernel_rfl⟩
instance : CPlaces Tryz.prog 46 [(0, 1), (1, 1)] := ⟨by kernel_rfl⟩
instance : CField Tryz.prog 46 0 0 := ⟨by kernel_rfl⟩
instance : CField Tryz.prog 46 1 1 := ⟨by kernel_rfl⟩
instance : CSlice Tryz.prog 47 46 2 := ⟨by kernel_rfl⟩
instance : CSize Tryz.prog 47 1 := ⟨by kernel_rfl⟩
instance : CNotAgg Tryz.prog 47 := ⟨by kernel_rfl⟩
instance : CIsSlice Tryz.prog 47 := ⟨by kernel_rfl⟩
instance : CZero Tryz.prog 47 (.slice none 0 0) := ⟨by kernel_rfl⟩
instance : CBytes Tryz.prog 47 24 := ⟨by kernel_rfl⟩
instance : CSize Tryz.prog 48 1 := ⟨by kernel_rfl⟩
instance : CNotAgg Tryz.prog 48 := ⟨by kernel_rfl⟩
instance : CBytes Tryz.prog 48 8 := ⟨by kernel_rfl⟩
instance : CSize Tryz.prog 49 1 := ⟨by kernel_rfl⟩
instance : CNotAgg Tryz.prog 49 := ⟨by kernel_rfl⟩
instance : CBytes Tryz.prog 49 8 := ⟨by kernel_rfl⟩
instance : CSize Tryz.prog 50 1 := ⟨by kernel_rfl⟩
instance : CNotAgg Tryz.prog 50 := ⟨by kernel_rfl⟩
instance : CBytes Tryz.prog 50 8 := ⟨by kernel_rfl⟩
instance : CSlice Tryz.prog 51 54 4 := ⟨by kernel_rfl⟩
instance : CSize Tryz.prog 51 1 := ⟨by kernel_rfl⟩
instance : CNotAgg Tryz.prog 51 := ⟨by kernel_rfl⟩
instance : CIsSlice Tryz.prog 51 := ⟨by kernel_rfl⟩
instance : CZero Tryz.prog 51 (.slice none 0 0) := ⟨by kernel_rfl⟩
instance : CBytes Tryz.prog 51 24 := ⟨by kernel_rfl⟩
instance : CSize Tryz.prog 52 1 := ⟨by kernel_rfl⟩
instance : CNotAgg Tryz.prog 52 := ⟨by kernel_rfl⟩
instance : CBytes Tryz.prog 52 8 := ⟨by kernel_rfl⟩
instance : CAgg Tryz.prog 53 4 := ⟨by kernel_rfl⟩
instance : CSize Tryz.prog 53 4 := ⟨by kernel_rfl⟩
instance : CZero Tryz.prog 53 (.agg #[.int .i64 0, .int .i64 0, .int .i64 0, .int .i64 0]) := ⟨by kernel_rfl⟩
instance : CBytes Tryz.prog 53 32 := ⟨by kernel_rfl⟩
instance : CPlaces Tryz.prog 53 [(0, 1), (1, 1), (2, 1), (3, 1)] := ⟨by kernel_rfl⟩
instance : CField Tryz.prog 53 0 0 := ⟨by kernel_rfl⟩
instance : CField Tryz.prog 53 1 1 := ⟨by kernel_rfl⟩
instance : CField Tryz.prog 53 2 2 := ⟨by kernel_rfl⟩
instance : CField Tryz.prog 53 3 3 := ⟨by kernel_rfl⟩
instance : CAgg Tryz.prog 54 4 := ⟨by kernel_rfl⟩
instance : CSize Tryz.prog 54 4 := ⟨by kernel_rfl⟩
instance : CZero Tryz.prog 54 (.agg #[.int .i64 0, .int .i64 0, .int .i64 0, .int .i64 0]) := ⟨by kernel_rfl⟩
instance : CBytes Tryz.prog 54 32 := ⟨by kernel_rfl⟩
instance : CPlaces Tryz.prog 54 [(0, 1), (1, 1), (2, 1), (3, 1)] := ⟨by kernel_rfl⟩
instance : CField Tryz.prog 54 0 0 := ⟨by kernel_rfl⟩
instance : CField Tryz.prog 54 1 1 := ⟨by kernel_rfl⟩
instance : CField Tryz.prog 54 2 2 := ⟨by kernel_rfl⟩
instance : CField Tryz.prog 54 3 3 := ⟨by kernel_rfl⟩
instance : CSize Tryz.prog 55 1 := ⟨by kernel_rfl⟩
instance : CNotAgg Tryz.prog 55 := ⟨by kernel_rfl⟩
instance : CZero Tryz.prog 55 (.tuple #[.slice none 0 0, .int .i64 0]) := ⟨by kernel_rfl⟩
instance : CBytes Tryz.prog 55 0 := ⟨by kernel_rfl⟩
instance : CSize Tryz.prog 56 1 := ⟨by kernel_rfl⟩
instance : CNotAgg Tryz.prog 56 := ⟨by kernel_rfl⟩
instance : CBytes Tryz.prog 56 8 := ⟨by kernel_rfl⟩
instance : CSize Tryz.prog 57 1 := ⟨by kernel_rfl⟩
instance : CNotAgg Tryz.prog 57 := ⟨by kernel_rfl⟩
instance : CBytes Tryz.prog 57 8 := ⟨by kernel_rfl⟩
instance : CAgg Tryz.prog 58 6 := ⟨by kernel_rfl⟩
instance : CSize Tryz.prog 58 6 := ⟨by kernel_rfl⟩
instance : CZero Tryz.prog 58 (.agg #[.int .i64 0, .int .i64 0, .int .i64 0, .int .i64 0, .int .i64 0, .int .i64 0]) := ⟨by kernel_rfl⟩
instance : CBytes Tryz.prog 58 48 := ⟨by kernel_rfl⟩
instance : CPlaces Tryz.prog 58 [(0, 1), (1, 1), (2, 1), (3, 1), (4, 1), (5, 1)] := ⟨by kernel_rfl⟩
instance : CField Tryz.prog 58 0 0 := ⟨by kernel_rfl⟩
instance : CField Tryz.prog 58 1 1 := ⟨by kernel_rfl⟩
instance : CField Tryz.prog 58 2 2 := ⟨by kernel_rfl⟩
instance : CField Tryz.prog 58 3 3 := ⟨by kernel_rfl⟩
instance : CField Tryz.prog 58 4 4 := ⟨by kernel_rfl⟩
instance : CField Tryz.prog 58 5 5 := ⟨by kernel_rfl⟩
instance : CAgg Tryz.prog 59 6 := ⟨by kernel_rfl⟩
instance : CSize Tryz.prog 59 6 := ⟨by kernel_rfl⟩
instance : CZero Tryz.prog 59 (.agg #[.int .i64 0, .int .i64 0, .int .i64 0, .int .i64 0, .int .i64 0, .int .i64 0]) := ⟨by kernel_rfl⟩
instance : CBytes Tryz.prog 59 48 := ⟨by kernel_rfl⟩
instance : CPlaces Tryz.prog 59 [(0, 1), (1, 1), (2, 1), (3, 1), (4, 1), (5, 1)] := ⟨by kernel_rfl⟩
instance : CField Tryz.prog 59 0 0 := ⟨by kernel_rfl⟩
instance : CField Tryz.prog 59 1 1 := ⟨by kernel_rfl⟩
instance : CField Tryz.prog 59 2 2 := ⟨by kernel_rfl⟩
instance : CField Tryz.prog 59 3 3 := ⟨by kernel_rfl⟩
instance : CField Tryz.prog 59 4 4 := ⟨by kernel_rfl⟩
instance : CField Tryz.prog 59 5 5 := ⟨by kernel_rfl⟩
instance : CSize Tryz.prog 60 1 := ⟨by kernel_rfl⟩
instance : CNotAgg Tryz.prog 60 := ⟨by kernel_rfl⟩
instance : CBytes Tryz.prog 60 8 := ⟨by kernel_rfl⟩
instance : CSize Tryz.prog 61 1 := ⟨by kernel_rfl⟩
instance : CNotAgg Tryz.prog 61 := ⟨by kernel_rfl⟩
instance : CBytes Tryz.prog 61 8 := ⟨by kernel_rfl⟩
instance : CSize Tryz.prog 62 1 := ⟨by kernel_rfl⟩
instance : CNotAgg Tryz.prog 62 := ⟨by kernel_rfl⟩
instance : CBytes Tryz.prog 62 8 := ⟨by kernel_rfl⟩
instance : CSize Tryz.prog 63 1 := ⟨by kernel_rfl⟩
instance : CNotAgg Tryz.prog 63 := ⟨by kernel_rfl⟩
instance : CZero Tryz.prog 63 (.tuple #[.int .i64 0, .int .i64 0]) := ⟨by kernel_rfl⟩
instance : CBytes Tryz.prog 63 0 := ⟨by kernel_rfl⟩
instance : CSize Tryz.prog 64 1 := ⟨by kernel_rfl⟩
instance : CNotAgg Tryz.prog 64 := ⟨by kernel_rfl⟩
instance : CBytes Tryz.prog 64 8 := ⟨by kernel_rfl⟩
instance : CSize Tryz.prog 65 1 := ⟨by kernel_rfl⟩
instance : CNotAgg Tryz.prog 65 := ⟨by kernel_rfl⟩
instance : CZero Tryz.prog 65 (.tuple #[.bool false, .int .i64 0]) := ⟨by kernel_rfl⟩
instance : CBytes Tryz.prog 65 0 := ⟨by kernel_rfl⟩
instance : CSize Tryz.prog 66 1 := ⟨by kernel_rfl⟩
instance : CNotAgg Tryz.prog 66 := ⟨by kernel_rfl⟩
instance : CBytes Tryz.prog 66 8 := ⟨by kernel_rfl⟩
instance : CSize Tryz.prog 67 1 := ⟨by kernel_rfl⟩
instance : CNotAgg Tryz.prog 67 := ⟨by kernel_rfl⟩
instance : CBytes Tryz.prog 67 8 := ⟨by kernel_rfl⟩
instance : CAgg Tryz.prog 68 5 := ⟨by kernel_rfl⟩
instance : CSize Tryz.prog 68 5 := ⟨by kernel_rfl⟩
instance : CZero Tryz.prog 68 (.agg #[.string ⟨#[]⟩, .int .i64 0, .int .i64 0, .slice none 0 0, .slice none 0 0]) := ⟨by kernel_rfl⟩
instance : CBytes Tryz.prog 68 80 := ⟨by kernel_rfl⟩
instance : CPlaces Tryz.prog 68 [(0, 1), (1, 1), (2, 1), (3, 1), (4, 1)] := ⟨by kernel_rfl⟩
instance : CField Tryz.prog 68 0 0 := ⟨by kernel_rfl⟩
instance : CField Tryz.prog 68 1 1 := ⟨by kernel_rfl⟩
instance : CField Tryz.prog 68 2 2 := ⟨by kernel_rfl⟩
instance : CField Tryz.prog 68 3 3 := ⟨by kernel_rfl⟩
instance : CField Tryz.prog 68 4 4 := ⟨by kernel_rfl⟩
instance : CAgg Tryz.prog 69 5 := ⟨by kernel_rfl⟩
instance : CSize Tryz.prog 69 5 := ⟨by kernel_rfl⟩
instance : CZero Tryz.prog 69 (.agg #[.string ⟨#[]⟩, .int .i64 0, .int .i64 0, .slice none 0 0, .slice none 0 0]) := ⟨by kernel_rfl⟩
instance : CBytes Tryz.prog 69 80 := ⟨by kernel_rfl⟩
instance : CPlaces Tryz.prog 69 [(0, 1), (1, 1), (2, 1), (3, 1), (4, 1)] := ⟨by kernel_rfl⟩
instance : CField Tryz.prog 69 0 0 := ⟨by kernel_rfl⟩
instance : CField Tryz.prog 69 1 1 := ⟨by kernel_rfl⟩
instance : CField Tryz.prog 69 2 2 := ⟨by kernel_rfl⟩
instance : CField Tryz.prog 69 3 3 := ⟨by kernel_rfl⟩
instance : CField Tryz.prog 69 4 4 := ⟨by kernel_rfl⟩
instance : CSize Tryz.prog 70 1 := ⟨by kernel_rfl⟩
instance : CNotAgg Tryz.prog 70 := ⟨by kernel_rfl⟩
instance : CBytes Tryz.prog 70 8 := ⟨by kernel_rfl⟩
instance : CSize Tryz.prog 71 1 := ⟨by kernel_rfl⟩
instance : CNotAgg Tryz.prog 71 := ⟨by kernel_rfl⟩
instance : CBytes Tryz.prog 71 8 := ⟨by kernel_rfl⟩
instance : CSlice Tryz.prog 72 4 1 := ⟨by kernel_rfl⟩
instance : CSize Tryz.prog 72 1 := ⟨by kernel_rfl⟩
instance : CNotAgg Tryz.prog 72 := ⟨by kernel_rfl⟩
instance : CIsSlice Tryz.prog 72 := ⟨by kernel_rfl⟩
instance : CZero Tryz.prog 72 (.slice none 0 0) := ⟨by kernel_rfl⟩
instance : CBytes Tryz.prog 72 24 := ⟨by kernel_rfl⟩
instance : CSize Tryz.prog 73 1 := ⟨by kernel_rfl⟩
instance : CNotAgg Tryz.prog 73 := ⟨by kernel_rfl⟩
instance : CBytes Tryz.prog 73 8 := ⟨by kernel_rfl⟩
instance : CSize Tryz.prog 74 1 := ⟨by kernel_rfl⟩
instance : CNotAgg Tryz.prog 74 := ⟨by kernel_rfl⟩
instance : CBytes Tryz.prog 74 8 := ⟨by kernel_rfl⟩
instance : CSize Tryz.prog 75 1 := ⟨by kernel_rfl⟩
instance : CNotAgg Tryz.prog 75 := ⟨by kernel_rfl⟩
instance : CBytes Tryz.prog 75 8 := ⟨by kernel_rfl⟩
instance : CSlice Tryz.prog 76 132 2 := ⟨by kernel_rfl⟩
instance : CSize Tryz.prog 76 1 := ⟨by kernel_rfl⟩
instance : CNotAgg Tryz.prog 76 := ⟨by kernel_rfl⟩
instance : CIsSlice Tryz.prog 76 := ⟨by kernel_rfl⟩
instance : CZero Tryz.prog 76 (.slice none 0 0) := ⟨by kernel_rfl⟩
instance : CBytes Tryz.prog 76 24 := ⟨by kernel_rfl⟩
instance : CSlice Tryz.prog 77 197 2 := ⟨by kernel_rfl⟩
instance : CSize Tryz.prog 77 1 := ⟨by kernel_rfl⟩
instance : CNotAgg Tryz.prog 77 := ⟨by kernel_rfl⟩
instance : CIsSlice Tryz.prog 77 := ⟨by kernel_rfl⟩
instance : CZero Tryz.prog 77 (.slice none 0 0) := ⟨by kernel_rfl⟩
instance : CBytes Tryz.prog 77 24 := ⟨by kernel_rfl⟩
instance : CSlice Tryz.prog 78 130 2 := ⟨by kernel_rfl⟩
instance : CSize Tryz.prog 78 1 := ⟨by kernel_rfl⟩
instance : CNotAgg Tryz.prog 78 := ⟨by kernel_rfl⟩
instance : CIsSlice Tryz.prog 78 := ⟨by kernel_rfl⟩
instance : CZero Tryz.prog 78 (.slice none 0 0) := ⟨by kernel_rfl⟩
instance : CBytes Tryz.prog 78 24 := ⟨by kernel_rfl⟩
instance : CAgg Tryz.prog 79 7 := ⟨by kernel_rfl⟩
instance : CSize Tryz.prog 79 7 := ⟨by kernel_rfl⟩
instance : CZero Tryz.prog 79 (.agg #[.string ⟨#[]⟩, .slice none 0 0, .int .i64 0, .slice none 0 0, .slice none 0 0, .slice none 0 0, .bool false]) := ⟨by kernel_rfl⟩
instance : CBytes Tryz.prog 79 128 := ⟨by kernel_rfl⟩
instance : CPlaces Tryz.prog 79 [(0, 1), (1, 1), (2, 1), (3, 1), (4, 1), (5, 1), (6, 1)] := ⟨by kernel_rfl⟩
instance : CField Tryz.prog 79 0 0 := ⟨by kernel_rfl⟩
instance : CField Tryz.prog 79 1 1 := ⟨by kernel_rfl⟩
instance : CField Tryz.prog 79 2 2 := ⟨by kernel_rfl⟩
instance : CField Tryz.prog 79 3 3 := ⟨by kernel_rfl⟩
instance : CField Tryz.prog 79 4 4 := ⟨by kernel_rfl⟩
instance : CField Tryz.prog 79 5 5 := ⟨by kernel_rfl⟩
instance : CField Tryz.prog 79 6 6 := ⟨by kernel_rfl⟩
instance : CAgg Tryz.prog 80 7 := ⟨by kernel_rfl⟩
instance : CSize Tryz.prog 80 7 := ⟨by kernel_rfl⟩
instance : CZero Tryz.prog 80 (.agg #[.string ⟨#[]⟩, .slice none 0 0, .int .i64 0, .slice none 0 0, .slice none 0 0, .slice none 0 0, .bool false]) := ⟨by kernel_rfl⟩
instance : CBytes Tryz.prog 80 128 := ⟨by kernel_rfl⟩
instance : CPlaces Tryz.prog 80 [(0, 1), (1, 1), (2, 1), (3, 1), (4, 1), (5, 1), (6, 1)] := ⟨by kernel_rfl⟩
instance : CField Tryz.prog 80 0 0 := ⟨by kernel_rfl⟩
instance : CField Tryz.prog 80 1 1 := ⟨by kernel_rfl⟩
instance : CField Tryz.prog 80 2 2 := ⟨by kernel_rfl⟩
instance : CField Tryz.prog 80 3 3 := ⟨by kernel_rfl⟩
instance : CField Tryz.prog 80 4 4 := ⟨by kernel_rfl⟩
instance : CField Tryz.prog 80 5 5 := ⟨by kernel_rfl⟩
instance : CField Tryz.prog 80 6 6 := ⟨by kernel_rfl⟩
instance : CAgg Tryz.prog 81 10 := ⟨by kernel_rfl⟩
instance : CSize Tryz.prog 81 10 := ⟨by kernel_rfl⟩
instance : CZero Tryz.prog 81 (.agg #[.string ⟨#[]⟩, .slice none 0 0, .slice none 0 0, .slice none 0 0, .slice none 0 0, .slice none 0 0, .slice none 0 0, .slice none 0 0, .slice none 0 0, .slice none 0 0]) := ⟨by kernel_rfl⟩
instance : CBytes Tryz.prog 81 232 := ⟨by kernel_rfl⟩
instance : CPlaces Tryz.prog 81 [(0, 7), (7, 1), (8, 1), (9, 1)] := ⟨by kernel_rfl⟩
instance : CField Tryz.prog 81 0 0 := ⟨by kernel_rfl⟩
instance : CField Tryz.prog 81 1 7 := ⟨by kernel_rfl⟩
instance : CField Tryz.prog 81 2 8 := ⟨by kernel_rfl⟩
instance : CField Tryz.prog 81 3 9 := ⟨by kernel_rfl⟩
instance : CAgg Tryz.prog 82 10 := ⟨by kernel_rfl⟩
instance : CSize Tryz.prog 82 10 := ⟨by kernel_rfl⟩
instance : CZero Tryz.prog 82 (.agg #[.string ⟨#[]⟩, .slice none 0 0, .slice none 0 0, .slice none 0 0, .slice none 0 0, .slice none 0 0, .slice none 0 0, .slice none 0 0, .slice none 0 0, .slice none 0 0]) := ⟨by kernel_rfl⟩
instance : CBytes Tryz.prog 82 232 := ⟨by kernel_rfl⟩
instance : CPlaces Tryz.prog 82 [(0, 7), (7, 1), (8, 1), (9, 1)] := ⟨by kernel_rfl⟩
instance : CField Tryz.prog 82 0 0 := ⟨by kernel_rfl⟩
instance : CField Tryz.prog 82 1 7 := ⟨by kernel_rfl⟩
instance : CField Tryz.prog 82 2 8 := ⟨by kernel_rfl⟩
instance : CField Tryz.prog 82 3 9 := ⟨by kernel_rfl⟩
instance : CSize Tryz.prog 83 1 := ⟨by kernel_rfl⟩
instance : CNotAgg Tryz.prog 83 := ⟨by kernel_rfl⟩
instance : CBytes Tryz.prog 83 8 := ⟨by kernel_rfl⟩
instance : CAgg Tryz.prog 84 3 := ⟨by kernel_rfl⟩
instance : CSize Tryz.prog 84 3 := ⟨by kernel_rfl⟩
instance : CZero Tryz.prog 84 (.agg #[.int .i64 0, .int .i64 0, .int .i64 0]) := ⟨by kernel_rfl⟩
instance : CBytes Tryz.prog 84 24 := ⟨by kernel_rfl⟩
instance : CPlaces Tryz.prog 84 [(0, 1), (1, 1), (2, 1)] := ⟨by kernel_rfl⟩
instance : CField Tryz.prog 84 0 0 := ⟨by kernel_rfl⟩
instance : CField Tryz.prog 84 1 1 := ⟨by kernel_rfl⟩
instance : CField Tryz.prog 84 2 2 := ⟨by kernel_rfl⟩
instance : CAgg Tryz.prog 85 3 := ⟨by kernel_rfl⟩
instance : CSize Tryz.prog 85 3 := ⟨by kernel_rfl⟩
instance : CZero Tryz.prog 85 (.agg #[.int .i64 0, .int .i64 0, .int .i64 0]) := ⟨by kernel_rfl⟩
instance : CBytes Tryz.prog 85 24 := ⟨by kernel_rfl⟩
instance : CPlaces Tryz.prog 85 [(0, 1), (1, 1), (2, 1)] := ⟨by kernel_rfl⟩
instance : CField Tryz.prog 85 0 0 := ⟨by kernel_rfl⟩
instance : CField Tryz.prog 85 1 1 := ⟨by kernel_rfl⟩
instance : CField Tryz.prog 85 2 2 := ⟨by kernel_rfl⟩
instance : CAgg Tryz.prog 86 5 := ⟨by kernel_rfl⟩
instance : CSize Tryz.prog 86 5 := ⟨by kernel_rfl⟩
instance : CZero Tryz.prog 86 (.agg #[.int .i64 0, .int .i64 0, .int .i64 0, .int .i64 0, .int .i64 0]) := ⟨by kernel_rfl⟩
instance : CBytes Tryz.prog 86 40 := ⟨by kernel_rfl⟩
instance : CPlaces Tryz.prog 86 [(0, 1), (1, 1), (2, 1), (3, 1), (4, 1)] := ⟨by kernel_rfl⟩
instance : CField Tryz.prog 86 0 0 := ⟨by kernel_rfl⟩
instance : CField Tryz.prog 86 1 1 := ⟨by kernel_rfl⟩
instance : CField Tryz.prog 86 2 2 := ⟨by kernel_rfl⟩
instance : CField Tryz.prog 86 3 3 := ⟨by kernel_rfl⟩
instance : CField Tryz.prog 86 4 4 := ⟨by kernel_rfl⟩
instance : CAgg Tryz.prog 87 5 := ⟨by kernel_rfl⟩
instance : CSize Tryz.prog 87 5 := ⟨by kernel_rfl⟩
instance : CZero Tryz.prog 87 (.agg #[.int .i64 0, .int .i64 0, .int .i64 0, .int .i64 0, .int .i64 0]) := ⟨by kernel_rfl⟩
instance : CBytes Tryz.prog 87 40 := ⟨by kernel_rfl⟩
instance : CPlaces Tryz.prog 87 [(0, 1), (1, 1), (2, 1), (3, 1), (4, 1)] := ⟨by kernel_rfl⟩
instance : CField Tryz.prog 87 0 0 := ⟨by kernel_rfl⟩
instance : CField Tryz.prog 87 1 1 := ⟨by kernel_rfl⟩
instance : CField Tryz.prog 87 2 2 := ⟨by kernel_rfl⟩
instance : CField Tryz.prog 87 3 3 := ⟨by kernel_rfl⟩
instance : CField Tryz.prog 87 4 4 := ⟨by kernel_rfl⟩
instance : CSize Tryz.prog 88 1 := ⟨by kernel_rfl⟩
instance : CNotAgg Tryz.prog 88 := ⟨by kernel_rfl⟩
instance : CBytes Tryz.prog 88 8 := ⟨by kernel_rfl⟩
instance : CSize Tryz.prog 89 1 := ⟨by kernel_rfl⟩
instance : CNotAgg Tryz.prog 89 := ⟨by kernel_rfl⟩
instance : CZero Tryz.prog 89 (.tuple #[.int .i64 0, .bool false]) := ⟨by kernel_rfl⟩
instance : CBytes Tryz.prog 89 0 := ⟨by kernel_rfl⟩
instance : CSize Tryz.prog 90 1 := ⟨by kernel_rfl⟩
instance : CNotAgg Tryz.prog 90 := ⟨by kernel_rfl⟩
instance : CBytes Tryz.prog 90 8 := ⟨by kernel_rfl⟩
instance : CSize Tryz.prog 91 1 := ⟨by kernel_rfl⟩
instance : CNotAgg Tryz.prog 91 := ⟨by kernel_rfl⟩
instance : CBytes Tryz.prog 91 8 := ⟨by kernel_rfl⟩
instance : CSize Tryz.prog 92 1 := ⟨by kernel_rfl⟩
instance : CNotAgg Tryz.prog 92 := ⟨by kernel_rfl⟩
instance : CBytes Tryz.prog 92 8 := ⟨by kernel_rfl⟩
instance : CSize Tryz.prog 93 1 := ⟨by kernel_rfl⟩
instance : CNotAgg Tryz.prog 93 := ⟨by kernel_rfl⟩
instance : CBytes Tryz.prog 93 8 := ⟨by kernel_rfl⟩
instance : CSize Tryz.prog 94 1 := ⟨by kernel_rfl⟩
instance : CNotAgg Tryz.prog 94 := ⟨by kernel_rfl⟩
instance : CBytes Tryz.prog 94 8 := ⟨by kernel_rfl⟩
instance : CSize Tryz.prog 95 1 := ⟨by kernel_rfl⟩
instance : CNotAgg Tryz.prog 95 := ⟨by kernel_rfl⟩
instance : CBytes Tryz.prog 95 8 := ⟨by kernel_rfl⟩
instance : CSize Tryz.prog 96 1 := ⟨by kernel_rfl⟩
instance : CNotAgg Tryz.prog 96 := ⟨by kernel_rfl⟩
instance : CBytes Tryz.prog 96 8 := ⟨by kernel_rfl⟩
instance : CSize Tryz.prog 97 1 := ⟨by kernel_rfl⟩
instance : CNotAgg Tryz.prog 97 := ⟨by kernel_rfl⟩
instance : CZero Tryz.prog 97 (.pointer none) := ⟨by kernel_rfl⟩
instance : CBytes Tryz.prog 97 8 := ⟨by kernel_rfl⟩
instance : CSize Tryz.prog 98 1 := ⟨by kernel_rfl⟩
instance : CNotAgg Tryz.prog 98 := ⟨by kernel_rfl⟩
instance : CBytes Tryz.prog 98 8 := ⟨by kernel_rfl⟩
instance : CSize Tryz.prog 99 1 := ⟨by kernel_rfl⟩
instance : CNotAgg Tryz.prog 99 := ⟨by kernel_rfl⟩
instance : CBytes Tryz.prog 99 8 := ⟨by kernel_rfl⟩
instance : CAgg Tryz.prog 100 4 := ⟨by kernel_rfl⟩
instance : CSize Tryz.prog 100 4 := ⟨by kernel_rfl⟩
instance : CZero Tryz.prog 100 (.agg #[.slice none 0 0, .slice none 0 0, .slice none 0 0, .slice none 0 0]) := ⟨by kernel_rfl⟩
instance : CBytes Tryz.prog 100 96 := ⟨by kernel_rfl⟩
instance : CPlaces Tryz.prog 100 [(0, 1), (1, 1), (2, 1), (3, 1)] := ⟨by kernel_rfl⟩
instance : CField Tryz.prog 100 0 0 := ⟨by kernel_rfl⟩
instance : CField Tryz.prog 100 1 1 := ⟨by kernel_rfl⟩
instance : CField Tryz.prog 100 2 2 := ⟨by kernel_rfl⟩
instance : CField Tryz.prog 100 3 3 := ⟨by kernel_rfl⟩
instance : CAgg Tryz.prog 101 4 := ⟨by kernel_rfl⟩
instance : CSize Tryz.prog 101 4 := ⟨by kernel_rfl⟩
instance : CZero Tryz.prog 101 (.agg #[.slice none 0 0, .slice none 0 0, .slice none 0 0, .slice none 0 0]) := ⟨by kernel_rfl⟩
instance : CBytes Tryz.prog 101 96 := ⟨by kernel_rfl⟩
instance : CPlaces Tryz.prog 101 [(0, 1), (1, 1), (2, 1), (3, 1)] := ⟨by kernel_rfl⟩
instance : CField Tryz.prog 101 0 0 := ⟨by kernel_rfl⟩
instance : CField Tryz.prog 101 1 1 := ⟨by kernel_rfl⟩
instance : CField Tryz.prog 101 2 2 := ⟨by kernel_rfl⟩
instance : CField Tryz.prog 101 3 3 := ⟨by kernel_rfl⟩
instance : CSize Tryz.prog 102 1 := ⟨by kernel_rfl⟩
instance : CNotAgg Tryz.prog 102 := ⟨by kernel_rfl⟩
instance : CZero Tryz.prog 102 (.tuple #[.int .i64 0, .int .i64 0, .int .i64 0, .bool false]) := ⟨by kernel_rfl⟩
instance : CBytes Tryz.prog 102 0 := ⟨by kernel_rfl⟩
instance : CSize Tryz.prog 103 1 := ⟨by kernel_rfl⟩
instance : CNotAgg Tryz.prog 103 := ⟨by kernel_rfl⟩
instance : CBytes Tryz.prog 103 8 := ⟨by kernel_rfl⟩
instance : CSize Tryz.prog 104 1 := ⟨by kernel_rfl⟩
instance : CNotAgg Tryz.prog 104 := ⟨by kernel_rfl⟩
instance : CBytes Tryz.prog 104 8 := ⟨by kernel_rfl⟩
instance : CSize Tryz.prog 105 1 := ⟨by kernel_rfl⟩
instance : CNotAgg Tryz.prog 105 := ⟨by kernel_rfl⟩
instance : CZero Tryz.prog 105 (.int .u64 0) := ⟨by kernel_rfl⟩
instance : CBytes Tryz.prog 105 8 := ⟨by kernel_rfl⟩
instance : CInt Tryz.prog 105 .u64 := ⟨by kernel_rfl⟩
instance : CSize Tryz.prog 106 1 := ⟨by kernel_rfl⟩
instance : CNotAgg Tryz.prog 106 := ⟨by kernel_rfl⟩
instance : CBytes Tryz.prog 106 8 := ⟨by kernel_rfl⟩
instance : CSlice Tryz.prog 107 173 1 := ⟨by kernel_rfl⟩
instance : CSize Tryz.prog 107 1 := ⟨by kernel_rfl⟩
instance : CNotAgg Tryz.prog 107 := ⟨by kernel_rfl⟩
instance : CIsSlice Tryz.prog 107 := ⟨by kernel_rfl⟩
instance : CZero Tryz.prog 107 (.slice none 0 0) := ⟨by kernel_rfl⟩
instance : CBytes Tryz.prog 107 24 := ⟨by kernel_rfl⟩
instance : CSlice Tryz.prog 108 173 1 := ⟨by kernel_rfl⟩
instance : CSize Tryz.prog 108 1 := ⟨by kernel_rfl⟩
instance : CNotAgg Tryz.prog 108 := ⟨by kernel_rfl⟩
instance : CIsSlice Tryz.prog 108 := ⟨by kernel_rfl⟩
instance : CZero Tryz.prog 108 (.slice none 0 0) := ⟨by kernel_rfl⟩
instance : CBytes Tryz.prog 108 24 := ⟨by kernel_rfl⟩
instance : CAgg Tryz.prog 109 2 := ⟨by kernel_rfl⟩
instance : CSize Tryz.prog 109 2 := ⟨by kernel_rfl⟩
instance : CZero Tryz.prog 109 (.agg #[.bool false, .slice none 0 0]) := ⟨by kernel_rfl⟩
instance : CBytes Tryz.prog 109 32 := ⟨by kernel_rfl⟩
instance : CPlaces Tryz.prog 109 [(0, 1), (1, 1)] := ⟨by kernel_rfl⟩
instance : CField Tryz.prog 109 0 0 := ⟨by kernel_rfl⟩
instance : CField Tryz.prog 109 1 1 := ⟨by kernel_rfl⟩
instance : CAgg Tryz.prog 110 2 := ⟨by kernel_rfl⟩
instance : CSize Tryz.prog 110 2 := ⟨by kernel_rfl⟩
instance : CZero Tryz.prog 110 (.agg #[.bool false, .slice none 0 0]) := ⟨by kernel_rfl⟩
instance : CBytes Tryz.prog 110 32 := ⟨by kernel_rfl⟩
instance : CPlaces Tryz.prog 110 [(0, 1), (1, 1)] := ⟨by kernel_rfl⟩
instance : CField Tryz.prog 110 0 0 := ⟨by kernel_rfl⟩
instance : CField Tryz.prog 110 1 1 := ⟨by kernel_rfl⟩
instance : CAgg Tryz.prog 111 3 := ⟨by kernel_rfl⟩
instance : CSize Tryz.prog 111 3 := ⟨by kernel_rfl⟩
instance : CZero Tryz.prog 111 (.agg #[.bool false, .slice none 0 0, .slice none 0 0]) := ⟨by kernel_rfl⟩
instance : CBytes Tryz.prog 111 56 := ⟨by kernel_rfl⟩
instance : CPlaces Tryz.prog 111 [(0, 2), (2, 1)] := ⟨by kernel_rfl⟩
instance : CField Tryz.prog 111 0 0 := ⟨by kernel_rfl⟩
instance : CField Tryz.prog 111 1 2 := ⟨by kernel_rfl⟩
instance : CAgg Tryz.prog 112 3 := ⟨by kernel_rfl⟩
instance : CSize Tryz.prog 112 3 := ⟨by kernel_rfl⟩
instance : CZero Tryz.prog 112 (.agg #[.bool false, .slice none 0 0, .slice none 0 0]) := ⟨by kernel_rfl⟩
instance : CBytes Tryz.prog 112 56 := ⟨by kernel_rfl⟩
instance : CPlaces Tryz.prog 112 [(0, 2), (2, 1)] := ⟨by kernel_rfl⟩
instance : CField Tryz.prog 112 0 0 := ⟨by kernel_rfl⟩
instance : CField Tryz.prog 112 1 2 := ⟨by kernel_rfl⟩
instance : CSlice Tryz.prog 113 115 6 := ⟨by kernel_rfl⟩
instance : CSize Tryz.prog 113 1 := ⟨by kernel_rfl⟩
instance : CNotAgg Tryz.prog 113 := ⟨by kernel_rfl⟩
instance : CIsSlice Tryz.prog 113 := ⟨by kernel_rfl⟩
instance : CZero Tryz.prog 113 (.slice none 0 0) := ⟨by kernel_rfl⟩
instance : CBytes Tryz.prog 113 24 := ⟨by kernel_rfl⟩
instance : CAgg Tryz.prog 114 6 := ⟨by kernel_rfl⟩
instance : CSize Tryz.prog 114 6 := ⟨by kernel_rfl⟩
instance : CZero Tryz.prog 114 (.agg #[.int .i64 0, .bool false, .slice none 0 0, .slice none 0 0, .string ⟨#[]⟩, .slice none 0 0]) := ⟨by kernel_rfl⟩
instance : CBytes Tryz.prog 114 104 := ⟨by kernel_rfl⟩
instance : CPlaces Tryz.prog 114 [(0, 1), (1, 3), (4, 1), (5, 1)] := ⟨by kernel_rfl⟩
instance : CField Tryz.prog 114 0 0 := ⟨by kernel_rfl⟩
instance : CField Tryz.prog 114 1 1 := ⟨by kernel_rfl⟩
instance : CField Tryz.prog 114 2 4 := ⟨by kernel_rfl⟩
instance : CField Tryz.prog 114 3 5 := ⟨by kernel_rfl⟩
instance : CAgg Tryz.prog 115 6 := ⟨by kernel_rfl⟩
instance : CSize Tryz.prog 115 6 := ⟨by kernel_rfl⟩
instance : CZero Tryz.prog 115 (.agg #[.int .i64 0, .bool false, .slice none 0 0, .slice none 0 0, .string ⟨#[]⟩, .slice none 0 0]) := ⟨by kernel_rfl⟩
instance : CBytes Tryz.prog 115 104 := ⟨by kernel_rfl⟩
instance : CPlaces Tryz.prog 115 [(0, 1), (1, 3), (4, 1), (5, 1)] := ⟨by kernel_rfl⟩
instance : CField Tryz.prog 115 0 0 := ⟨by kernel_rfl⟩
instance : CField Tryz.prog 115 1 1 := ⟨by kernel_rfl⟩
instance : CField Tryz.prog 115 2 4 := ⟨by kernel_rfl⟩
instance : CField Tryz.prog 115 3 5 := ⟨by kernel_rfl⟩
instance : CAgg Tryz.prog 116 8 := ⟨by kernel_rfl⟩
instance : CArr Tryz.prog 116 8 1 := ⟨by kernel_rfl⟩
instance : CSize Tryz.prog 116 8 := ⟨by kernel_rfl⟩
instance : CZero Tryz.prog 116 (.agg #[.bool false, .bool false, .bool false, .bool false, .bool false, .bool false, .bool false, .bool false]) := ⟨by kernel_rfl⟩
instance : CBytes Tryz.prog 116 8 := ⟨by kernel_rfl⟩
instance : CSize Tryz.prog 117 1 := ⟨by kernel_rfl⟩
instance : CNotAgg Tryz.prog 117 := ⟨by kernel_rfl⟩
instance : CBytes Tryz.prog 117 8 := ⟨by kernel_rfl⟩
instance : CSize Tryz.prog 118 1 := ⟨by kernel_rfl⟩
instance : CNotAgg Tryz.prog 118 := ⟨by kernel_rfl⟩
instance : CZero Tryz.prog 118 (.map none) := ⟨by kernel_rfl⟩
instance : CBytes Tryz.prog 118 8 := ⟨by kernel_rfl⟩
instance : CMap Tryz.prog 118 3 3 := ⟨by kernel_rfl⟩
instance : CSize Tryz.prog 119 1 := ⟨by kernel_rfl⟩
instance : CNotAgg Tryz.prog 119 := ⟨by kernel_rfl⟩
instance : CZero Tryz.prog 119 (.map none) := ⟨by kernel_rfl⟩
instance : CBytes Tryz.prog 119 8 := ⟨by kernel_rfl⟩
instance : CMap Tryz.prog 119 3 122 := ⟨by kernel_rfl⟩
instance : CSize Tryz.prog 120 1 := ⟨by kernel_rfl⟩
instance : CNotAgg Tryz.prog 120 := ⟨by kernel_rfl⟩
instance : CZero Tryz.prog 120 (.tuple #[.slice none 0 0, .map none, .int .i64 0]) := ⟨by kernel_rfl⟩
instance : CBytes Tryz.prog 120 0 := ⟨by kernel_rfl⟩
instance : CSize Tryz.prog 121 1 := ⟨by kernel_rfl⟩
instance : CNotAgg Tryz.prog 121 := ⟨by kernel_rfl⟩
instance : CBytes Tryz.prog 121 8 := ⟨by kernel_rfl⟩
instance : CSize Tryz.prog 122 1 := ⟨by kernel_rfl⟩
instance : CNotAgg Tryz.prog 122 := ⟨by kernel_rfl⟩
instance : CZero Tryz.prog 122 (.pointer none) := ⟨by kernel_rfl⟩
instance : CBytes Tryz.prog 122 8 := ⟨by kernel_rfl⟩
instance : CSize Tryz.prog 123 1 := ⟨by kernel_rfl⟩
instance : CNotAgg Tryz.prog 123 := ⟨by kernel_rfl⟩
instance : CZero Tryz.prog 123 (.tuple #[.pointer none, .bool false]) := ⟨by kernel_rfl⟩
instance : CBytes Tryz.prog 123 0 := ⟨by kernel_rfl⟩
instance : CAgg Tryz.prog 124 16 := ⟨by kernel_rfl⟩
instance : CArr Tryz.prog 124 16 1 := ⟨by kernel_rfl⟩
instance : CSize Tryz.prog 124 16 := ⟨by kernel_rfl⟩
instance : CZero Tryz.prog 124 (.agg #[.bool false, .bool false, .bool false, .bool false, .bool false, .bool false, .bool false, .bool false, .bool false, .bool false, .bool false, .bool false, .bool false, .bool false, .bool false, .bool false]) := ⟨by kernel_rfl⟩
instance : CBytes Tryz.prog 124 16 := ⟨by kernel_rfl⟩
instance : CAgg Tryz.prog 125 17 := ⟨by kernel_rfl⟩
instance : CSize Tryz.prog 125 17 := ⟨by kernel_rfl⟩
instance : CZero Tryz.prog 125 (.agg #[.bool false, .bool false, .bool false, .bool false, .bool false, .bool false, .bool false, .bool false, .bool false, .bool false, .bool false, .bool false, .bool false, .bool false, .bool false, .bool false, .int .i64 0]) := ⟨by kernel_rfl⟩
instance : CBytes Tryz.prog 125 24 := ⟨by kernel_rfl⟩
instance : CPlaces Tryz.prog 125 [(0, 16), (16, 1)] := ⟨by kernel_rfl⟩
instance : CField Tryz.prog 125 0 0 := ⟨by kernel_rfl⟩
instance : CField Tryz.prog 125 1 16 := ⟨by kernel_rfl⟩
instance : CAgg Tryz.prog 126 17 := ⟨by kernel_rfl⟩
instance : CSize Tryz.prog 126 17 := ⟨by kernel_rfl⟩
instance : CZero Tryz.prog 126 (.agg #[.bool false, .bool false, .bool false, .bool false, .bool false, .bool false, .bool false, .bool false, .bool false, .bool false, .bool false, .bool false, .bool false, .bool false, .bool false, .bool false, .int .i64 0]) := ⟨by kernel_rfl⟩
instance : CBytes Tryz.prog 126 24 := ⟨by kernel_rfl⟩
instance : CPlaces Tryz.prog 126 [(0, 16), (16, 1)] := ⟨by kernel_rfl⟩
instance : CField Tryz.prog 126 0 0 := ⟨by kernel_rfl⟩
instance : CField Tryz.prog 126 1 16 := ⟨by kernel_rfl⟩
instance : CSize Tryz.prog 127 1 := ⟨by kernel_rfl⟩
instance : CNotAgg Tryz.prog 127 := ⟨by kernel_rfl⟩
instance : CBytes Tryz.prog 127 8 := ⟨by kernel_rfl⟩
instance : CSize Tryz.prog 128 1 := ⟨by kernel_rfl⟩
instance : CNotAgg Tryz.prog 128 := ⟨by kernel_rfl⟩
instance : CBytes Tryz.prog 128 8 := ⟨by kernel_rfl⟩
instance : CAgg Tryz.prog 129 2 := ⟨by kernel_rfl⟩
instance : CSize Tryz.prog 129 2 := ⟨by kernel_rfl⟩
instance : CZero Tryz.prog 129 (.agg #[.int .i64 0, .int .i64 0]) := ⟨by kernel_rfl⟩
instance : CBytes Tryz.prog 129 16 := ⟨by kernel_rfl⟩
instance : CPlaces Tryz.prog 129 [(0, 1), (1, 1)] := ⟨by kernel_rfl⟩
instance : CField Tryz.prog 129 0 0 := ⟨by kernel_rfl⟩
instance : CField Tryz.prog 129 1 1 := ⟨by kernel_rfl⟩
instance : CAgg Tryz.prog 130 2 := ⟨by kernel_rfl⟩
instance : CSize Tryz.prog 130 2 := ⟨by kernel_rfl⟩
instance : CZero Tryz.prog 130 (.agg #[.int .i64 0, .int .i64 0]) := ⟨by kernel_rfl⟩
instance : CBytes Tryz.prog 130 16 := ⟨by kernel_rfl⟩
instance : CPlaces Tryz.prog 130 [(0, 1), (1, 1)] := ⟨by kernel_rfl⟩
instance : CField Tryz.prog 130 0 0 := ⟨by kernel_rfl⟩
instance : CField Tryz.prog 130 1 1 := ⟨by kernel_rfl⟩
instance : CAgg Tryz.prog 131 2 := ⟨by kernel_rfl⟩
instance : CSize Tryz.prog 131 2 := ⟨by kernel_rfl⟩
instance : CZero Tryz.prog 131 (.agg #[.string ⟨#[]⟩, .slice none 0 0]) := ⟨by kernel_rfl⟩
instance : CBytes Tryz.prog 131 40 := ⟨by kernel_rfl⟩
instance : CPlaces Tryz.prog 131 [(0, 1), (1, 1)] := ⟨by kernel_rfl⟩
instance : CField Tryz.prog 131 0 0 := ⟨by kernel_rfl⟩
instance : CField Tryz.prog 131 1 1 := ⟨by kernel_rfl⟩
instance : CAgg Tryz.prog 132 2 := ⟨by kernel_rfl⟩
instance : CSize Tryz.prog 132 2 := ⟨by kernel_rfl⟩
instance : CZero Tryz.prog 132 (.agg #[.string ⟨#[]⟩, .slice none 0 0]) := ⟨by kernel_rfl⟩
instance : CBytes Tryz.prog 132 40 := ⟨by kernel_rfl⟩
instance : CPlaces Tryz.prog 132 [(0, 1), (1, 1)] := ⟨by kernel_rfl⟩
instance : CField Tryz.prog 132 0 0 := ⟨by kernel_rfl⟩
instance : CField Tryz.prog 132 1 1 := ⟨by kernel_rfl⟩
instance : CAgg Tryz.prog 133 3 := ⟨by kernel_rfl⟩
instance : CSize Tryz.prog 133 3 := ⟨by kernel_rfl⟩
instance : CZero Tryz.prog 133 (.agg #[.int .i64 0, .int .i64 0, .bool false]) := ⟨by kernel_rfl⟩
instance : CBytes Tryz.prog 133 24 := ⟨by kernel_rfl⟩
instance : CPlaces Tryz.prog 133 [(0, 1), (1, 1), (2, 1)] := ⟨by kernel_rfl⟩
instance : CField Tryz.prog 133 0 0 := ⟨by kernel_rfl⟩
instance : CField Tryz.prog 133 1 1 := ⟨by kernel_rfl⟩
instance : CField Tryz.prog 133 2 2 := ⟨by kernel_rfl⟩
instance : CAgg Tryz.prog 134 3 := ⟨by kernel_rfl⟩
instance : CSize Tryz.prog 134 3 := ⟨by kernel_rfl⟩
instance : CZero Tryz.prog 134 (.agg #[.int .i64 0, .int .i64 0, .bool false]) := ⟨by kernel_rfl⟩
instance : CBytes Tryz.prog 134 24 := ⟨by kernel_rfl⟩
instance : CPlaces Tryz.prog 134 [(0, 1), (1, 1), (2, 1)] := ⟨by kernel_rfl⟩
instance : CField Tryz.prog 134 0 0 := ⟨by kernel_rfl⟩
instance : CField Tryz.prog 134 1 1 := ⟨by kernel_rfl⟩
instance : CField Tryz.prog 134 2 2 := ⟨by kernel_rfl⟩
instance : CSize Tryz.prog 135 1 := ⟨by kernel_rfl⟩
instance : CNotAgg Tryz.prog 135 := ⟨by kernel_rfl⟩
instance : CBytes Tryz.prog 135 8 := ⟨by kernel_rfl⟩
instance : CAgg Tryz.prog 136 6 := ⟨by kernel_rfl⟩
instance : CSize Tryz.prog 136 6 := ⟨by kernel_rfl⟩
instance : CZero Tryz.prog 136 (.agg #[.int .i64 0, .int .i64 0, .int .i64 0, .int .i64 0, .bool false, .int .i64 0]) := ⟨by kernel_rfl⟩
instance : CBytes Tryz.prog 136 48 := ⟨by kernel_rfl⟩
instance : CPlaces Tryz.prog 136 [(0, 1), (1, 1), (2, 1), (3, 1), (4, 1), (5, 1)] := ⟨by kernel_rfl⟩
instance : CField Tryz.prog 136 0 0 := ⟨by kernel_rfl⟩
instance : CField Tryz.prog 136 1 1 := ⟨by kernel_rfl⟩
instance : CField Tryz.prog 136 2 2 := ⟨by kernel_rfl⟩
instance : CField Tryz.prog 136 3 3 := ⟨by kernel_rfl⟩
instance : CField Tryz.prog 136 4 4 := ⟨by kernel_rfl⟩
instance : CField Tryz.prog 136 5 5 := ⟨by kernel_rfl⟩
instance : CAgg Tryz.prog 137 6 := ⟨by kernel_rfl⟩
instance : CSize Tryz.prog 137 6 := ⟨by kernel_rfl⟩
instance : CZero Tryz.prog 137 (.agg #[.int .i64 0, .int .i64 0, .int .i64 0, .int .i64 0, .bool false, .int .i64 0]) := ⟨by kernel_rfl⟩
instance : CBytes Tryz.prog 137 48 := ⟨by kernel_rfl⟩
instance : CPlaces Tryz.prog 137 [(0, 1), (1, 1), (2, 1), (3, 1), (4, 1), (5, 1)] := ⟨by kernel_rfl⟩
instance : CField Tryz.prog 137 0 0 := ⟨by kernel_rfl⟩
instance : CField Tryz.prog 137 1 1 := ⟨by kernel_rfl⟩
instance : CField Tryz.prog 137 2 2 := ⟨by kernel_rfl⟩
instance : CField Tryz.prog 137 3 3 := ⟨by kernel_rfl⟩
instance : CField Tryz.prog 137 4 4 := ⟨by kernel_rfl⟩
instance : CField Tryz.prog 137 5 5 := ⟨by kernel_rfl⟩
instance : CSize Tryz.prog 138 1 := ⟨by kernel_rfl⟩
instance : CNotAgg Tryz.prog 138 := ⟨by kernel_rfl⟩
instance : CBytes Tryz.prog 138 8 := ⟨by kernel_rfl⟩
instance : CSize Tryz.prog 139 1 := ⟨by kernel_rfl⟩
instance : CNotAgg Tryz.prog 139 := ⟨by kernel_rfl⟩
instance : CBytes Tryz.prog 139 8 := ⟨by kernel_rfl⟩
instance : CSize Tryz.prog 140 1 := ⟨by kernel_rfl⟩
instance : CNotAgg Tryz.prog 140 := ⟨by kernel_rfl⟩
instance : CZero Tryz.prog 140 (.tuple #[.slice none 0 0, .bool false]) := ⟨by kernel_rfl⟩
instance : CBytes Tryz.prog 140 0 := ⟨by kernel_rfl⟩
instance : CSize Tryz.prog 141 1 := ⟨by kernel_rfl⟩
instance : CNotAgg Tryz.prog 141 := ⟨by kernel_rfl⟩
instance : CBytes Tryz.prog 141 8 := ⟨by kernel_rfl⟩
instance : CSize Tryz.prog 142 1 := ⟨by kernel_rfl⟩
instance : CNotAgg Tryz.prog 142 := ⟨by kernel_rfl⟩
instance : CBytes Tryz.prog 142 8 := ⟨by kernel_rfl⟩
instance : CSize Tryz.prog 143 1 := ⟨by kernel_rfl⟩
instance : CNotAgg Tryz.prog 143 := ⟨by kernel_rfl⟩
instance : CBytes Tryz.prog 143 8 := ⟨by kernel_rfl⟩
instance : CSize Tryz.prog 144 1 := ⟨by kernel_rfl⟩
instance : CNotAgg Tryz.prog 144 := ⟨by kernel_rfl⟩
instance : CBytes Tryz.prog 144 8 := ⟨by kernel_rfl⟩
instance : CSize Tryz.prog 145 1 := ⟨by kernel_rfl⟩
instance : CNotAgg Tryz.prog 145 := ⟨by kernel_rfl⟩
instance : CBytes Tryz.prog 145 8 := ⟨by kernel_rfl⟩
instance : CSize Tryz.prog 146 1 := ⟨by kernel_rfl⟩
instance : CNotAgg Tryz.prog 146 := ⟨by kernel_rfl⟩
instance : CBytes Tryz.prog 146 8 := ⟨by kernel_rfl⟩
instance : CSize Tryz.prog 147 1 := ⟨by kernel_rfl⟩
instance : CNotAgg Tryz.prog 147 := ⟨by kernel_rfl⟩
instance : CBytes Tryz.prog 147 8 := ⟨by kernel_rfl⟩
instance : CSize Tryz.prog 148 1 := ⟨by kernel_rfl⟩
instance : CNotAgg Tryz.prog 148 := ⟨by kernel_rfl⟩
instance : CBytes Tryz.prog 148 8 := ⟨by kernel_rfl⟩
instance : CSize Tryz.prog 149 1 := ⟨by kernel_rfl⟩
instance : CNotAgg Tryz.prog 149 := ⟨by kernel_rfl⟩
instance : CBytes Tryz.prog 149 8 := ⟨by kernel_rfl⟩
instance : CSize Tryz.prog 150 1 := ⟨by kernel_rfl⟩
instance : CNotAgg Tryz.prog 150 := ⟨by kernel_rfl⟩
instance : CBytes Tryz.prog 150 16 := ⟨by kernel_rfl⟩
instance : CSize Tryz.prog 151 1 := ⟨by kernel_rfl⟩
instance : CNotAgg Tryz.prog 151 := ⟨by kernel_rfl⟩
instance : CBytes Tryz.prog 151 16 := ⟨by kernel_rfl⟩
instance : CSize Tryz.prog 152 1 := ⟨by kernel_rfl⟩
instance : CNotAgg Tryz.prog 152 := ⟨by kernel_rfl⟩
instance : CBytes Tryz.prog 152 8 := ⟨by kernel_rfl⟩
instance : CSize Tryz.prog 153 1 := ⟨by kernel_rfl⟩
instance : CNotAgg Tryz.prog 153 := ⟨by kernel_rfl⟩
instance : CBytes Tryz.prog 153 8 := ⟨by kernel_rfl⟩
instance : CSize Tryz.prog 154 1 := ⟨by kernel_rfl⟩
instance : CNotAgg Tryz.prog 154 := ⟨by kernel_rfl⟩
instance : CBytes Tryz.prog 154 8 := ⟨by kernel_rfl⟩
instance : CSize Tryz.prog 155 1 := ⟨by kernel_rfl⟩
instance : CNotAgg Tryz.prog 155 := ⟨by kernel_rfl⟩
instance : CBytes Tryz.prog 155 8 := ⟨by kernel_rfl⟩
instance : CSize Tryz.prog 156 1 := ⟨by kernel_rfl⟩
instance : CNotAgg Tryz.prog 156 := ⟨by kernel_rfl⟩
instance : CZero Tryz.prog 156 (.map none) := ⟨by kernel_rfl⟩
instance : CBytes Tryz.prog 156 8 := ⟨by kernel_rfl⟩
instance : CMap Tryz.prog 156 9 4 := ⟨by kernel_rfl⟩
instance : CSize Tryz.prog 157 1 := ⟨by kernel_rfl⟩
instance : CNotAgg Tryz.prog 157 := ⟨by kernel_rfl⟩
instance : CZero Tryz.prog 157 (.tuple #[.slice none 0 0, .int .i64 0]) := ⟨by kernel_rfl⟩
instance : CBytes Tryz.prog 157 0 := ⟨by kernel_rfl⟩
instance : CSize Tryz.prog 158 1 := ⟨by kernel_rfl⟩
instance : CNotAgg Tryz.prog 158 := ⟨by kernel_rfl⟩
instance : CBytes Tryz.prog 158 8 := ⟨by kernel_rfl⟩
instance : CSize Tryz.prog 159 1 := ⟨by kernel_rfl⟩
instance : CNotAgg Tryz.prog 159 := ⟨by kernel_rfl⟩
instance : CBytes Tryz.prog 159 8 := ⟨by kernel_rfl⟩
instance : CSize Tryz.prog 160 1 := ⟨by kernel_rfl⟩
instance : CNotAgg Tryz.prog 160 := ⟨by kernel_rfl⟩
instance : CZero Tryz.prog 160 (.map none) := ⟨by kernel_rfl⟩
instance : CBytes Tryz.prog 160 8 := ⟨by kernel_rfl⟩
instance : CMap Tryz.prog 160 3 161 := ⟨by kernel_rfl⟩
instance : CSize Tryz.prog 161 1 := ⟨by kernel_rfl⟩
instance : CNotAgg Tryz.prog 161 := ⟨by kernel_rfl⟩
instance : CZero Tryz.prog 161 (.map none) := ⟨by kernel_rfl⟩
instance : CBytes Tryz.prog 161 8 := ⟨by kernel_rfl⟩
instance : CMap Tryz.prog 161 3 4 := ⟨by kernel_rfl⟩
instance : CSize Tryz.prog 162 1 := ⟨by kernel_rfl⟩
instance : CNotAgg Tryz.prog 162 := ⟨by kernel_rfl⟩
instance : CZero Tryz.prog 162 (.tuple #[.map none, .bool false]) := ⟨by kernel_rfl⟩
instance : CBytes Tryz.prog 162 0 := ⟨by kernel_rfl⟩
instance : CSize Tryz.prog 163 1 := ⟨by kernel_rfl⟩
instance : CNotAgg Tryz.prog 163 := ⟨by kernel_rfl⟩
instance : CBytes Tryz.prog 163 8 := ⟨by kernel_rfl⟩
instance : CSize Tryz.prog 164 1 := ⟨by kernel_rfl⟩
instance : CNotAgg Tryz.prog 164 := ⟨by kernel_rfl⟩
instance : CBytes Tryz.prog 164 8 := ⟨by kernel_rfl⟩
instance : CSize Tryz.prog 165 1 := ⟨by kernel_rfl⟩
instance : CNotAgg Tryz.prog 165 := ⟨by kernel_rfl⟩
instance : CBytes Tryz.prog 165 8 := ⟨by kernel_rfl⟩
instance : CSize Tryz.prog 166 1 := ⟨by kernel_rfl⟩
instance : CNotAgg Tryz.prog 166 := ⟨by kernel_rfl⟩
instance : CZero Tryz.prog 166 (.int .i64 0) := ⟨by kernel_rfl⟩
instance : CBytes Tryz.prog 166 8 := ⟨by kernel_rfl⟩
instance : CInt Tryz.prog 166 .i64 := ⟨by kernel_rfl⟩
instance : CSize Tryz.prog 167 1 := ⟨by kernel_rfl⟩
instance : CNotAgg Tryz.prog 167 := ⟨by kernel_rfl⟩
instance : CZero Tryz.prog 167 (.tuple #[.int .i64 0, .int .i64 0]) := ⟨by kernel_rfl⟩
instance : CBytes Tryz.prog 167 0 := ⟨by kernel_rfl⟩
instance : CSize Tryz.prog 168 1 := ⟨by kernel_rfl⟩
instance : CNotAgg Tryz.prog 168 := ⟨by kernel_rfl⟩
instance : CBytes Tryz.prog 168 8 := ⟨by kernel_rfl⟩
instance : CSize Tryz.prog 169 1 := ⟨by kernel_rfl⟩
instance : CNotAgg Tryz.prog 169 := ⟨by kernel_rfl⟩
instance : CBytes Tryz.prog 169 8 := ⟨by kernel_rfl⟩
instance : CSize Tryz.prog 170 1 := ⟨by kernel_rfl⟩
instance : CNotAgg Tryz.prog 170 := ⟨by kernel_rfl⟩
instance : CBytes Tryz.prog 170 8 := ⟨by kernel_rfl⟩
instance : CSize Tryz.prog 171 1 := ⟨by kernel_rfl⟩
instance : CNotAgg Tryz.prog 171 := ⟨by kernel_rfl⟩
instance : CBytes Tryz.prog 171 8 := ⟨by kernel_rfl⟩
instance : CSize Tryz.prog 172 1 := ⟨by kernel_rfl⟩
instance : CNotAgg Tryz.prog 172 := ⟨by kernel_rfl⟩
instance : CBytes Tryz.prog 172 8 := ⟨by kernel_rfl⟩
instance : CSize Tryz.prog 173 1 := ⟨by kernel_rfl⟩
instance : CNotAgg Tryz.prog 173 := ⟨by kernel_rfl⟩
instance : CZero Tryz.prog 173 (.int .u32 0) := ⟨by kernel_rfl⟩
instance : CBytes Tryz.prog 173 4 := ⟨by kernel_rfl⟩
instance : CInt Tryz.prog 173 .u32 := ⟨by kernel_rfl⟩
instance : CSize Tryz.prog 174 1 := ⟨by kernel_rfl⟩
instance : CNotAgg Tryz.prog 174 := ⟨by kernel_rfl⟩
instance : CBytes Tryz.prog 174 8 := ⟨by kernel_rfl⟩
instance : CSize Tryz.prog 175 1 := ⟨by kernel_rfl⟩
instance : CNotAgg Tryz.prog 175 := ⟨by kernel_rfl⟩
instance : CZero Tryz.prog 175 (.int .u64 0) := ⟨by kernel_rfl⟩
instance : CBytes Tryz.prog 175 8 := ⟨by kernel_rfl⟩
instance : CInt Tryz.prog 175 .u64 := ⟨by kernel_rfl⟩
instance : CSlice Tryz.prog 176 179 2 := ⟨by kernel_rfl⟩
instance : CSize Tryz.prog 176 1 := ⟨by kernel_rfl⟩
instance : CNotAgg Tryz.prog 176 := ⟨by kernel_rfl⟩
instance : CIsSlice Tryz.prog 176 := ⟨by kernel_rfl⟩
instance : CZero Tryz.prog 176 (.slice none 0 0) := ⟨by kernel_rfl⟩
instance : CBytes Tryz.prog 176 24 := ⟨by kernel_rfl⟩
instance : CSize Tryz.prog 177 1 := ⟨by kernel_rfl⟩
instance : CNotAgg Tryz.prog 177 := ⟨by kernel_rfl⟩
instance : CBytes Tryz.prog 177 8 := ⟨by kernel_rfl⟩
instance : CAgg Tryz.prog 178 2 := ⟨by kernel_rfl⟩
instance : CSize Tryz.prog 178 2 := ⟨by kernel_rfl⟩
instance : CZero Tryz.prog 178 (.agg #[.int .i64 0, .int .i64 0]) := ⟨by kernel_rfl⟩
instance : CBytes Tryz.prog 178 16 := ⟨by kernel_rfl⟩
instance : CPlaces Tryz.prog 178 [(0, 1), (1, 1)] := ⟨by kernel_rfl⟩
instance : CField Tryz.prog 178 0 0 := ⟨by kernel_rfl⟩
instance : CField Tryz.prog 178 1 1 := ⟨by kernel_rfl⟩
instance : CAgg Tryz.prog 179 2 := ⟨by kernel_rfl⟩
instance : CSize Tryz.prog 179 2 := ⟨by kernel_rfl⟩
instance : CZero Tryz.prog 179 (.agg #[.int .i64 0, .int .i64 0]) := ⟨by kernel_rfl⟩
instance : CBytes Tryz.prog 179 16 := ⟨by kernel_rfl⟩
instance : CPlaces Tryz.prog 179 [(0, 1), (1, 1)] := ⟨by kernel_rfl⟩
instance : CField Tryz.prog 179 0 0 := ⟨by kernel_rfl⟩
instance : CField Tryz.prog 179 1 1 := ⟨by kernel_rfl⟩
instance : CSize Tryz.prog 180 1 := ⟨by kernel_rfl⟩
instance : CNotAgg Tryz.prog 180 := ⟨by kernel_rfl⟩
instance : CBytes Tryz.prog 180 8 := ⟨by kernel_rfl⟩
instance : CSize Tryz.prog 181 1 := ⟨by kernel_rfl⟩
instance : CNotAgg Tryz.prog 181 := ⟨by kernel_rfl⟩
instance : CBytes Tryz.prog 181 8 := ⟨by kernel_rfl⟩
instance : CSize Tryz.prog 182 1 := ⟨by kernel_rfl⟩
instance : CNotAgg Tryz.prog 182 := ⟨by kernel_rfl⟩
instance : CBytes Tryz.prog 182 8 := ⟨by kernel_rfl⟩
instance : CSlice Tryz.prog 183 214 5 := ⟨by kernel_rfl⟩
instance : CSize Tryz.prog 183 1 := ⟨by kernel_rfl⟩
instance : CNotAgg Tryz.prog 183 := ⟨by kernel_rfl⟩
instance : CIsSlice Tryz.prog 183 := ⟨by kernel_rfl⟩
instance : CZero Tryz.prog 183 (.slice none 0 0) := ⟨by kernel_rfl⟩
instance : CBytes Tryz.prog 183 24 := ⟨by kernel_rfl⟩
instance : CAgg Tryz.prog 184 3 := ⟨by kernel_rfl⟩
instance : CSize Tryz.prog 184 3 := ⟨by kernel_rfl⟩
instance : CZero Tryz.prog 184 (.agg #[.slice none 0 0, .int .i64 0, .slice none 0 0]) := ⟨by kernel_rfl⟩
instance : CBytes Tryz.prog 184 56 := ⟨by kernel_rfl⟩
instance : CPlaces Tryz.prog 184 [(0, 1), (1, 1), (2, 1)] := ⟨by kernel_rfl⟩
instance : CField Tryz.prog 184 0 0 := ⟨by kernel_rfl⟩
instance : CField Tryz.prog 184 1 1 := ⟨by kernel_rfl⟩
instance : CField Tryz.prog 184 2 2 := ⟨by kernel_rfl⟩
instance : CAgg Tryz.prog 185 3 := ⟨by kernel_rfl⟩
instance : CSize Tryz.prog 185 3 := ⟨by kernel_rfl⟩
instance : CZero Tryz.prog 185 (.agg #[.slice none 0 0, .int .i64 0, .slice none 0 0]) := ⟨by kernel_rfl⟩
instance : CBytes Tryz.prog 185 56 := ⟨by kernel_rfl⟩
instance : CPlaces Tryz.prog 185 [(0, 1), (1, 1), (2, 1)] := ⟨by kernel_rfl⟩
instance : CField Tryz.prog 185 0 0 := ⟨by kernel_rfl⟩
instance : CField Tryz.prog 185 1 1 := ⟨by kernel_rfl⟩
instance : CField Tryz.prog 185 2 2 := ⟨by kernel_rfl⟩
instance : CSize Tryz.prog 186 1 := ⟨by kernel_rfl⟩
instance : CNotAgg Tryz.prog 186 := ⟨by kernel_rfl⟩
instance : CBytes Tryz.prog 186 8 := ⟨by kernel_rfl⟩
instance : CSize Tryz.prog 187 1 := ⟨by kernel_rfl⟩
instance : CNotAgg Tryz.prog 187 := ⟨by kernel_rfl⟩
instance : CBytes Tryz.prog 187 8 := ⟨by kernel_rfl⟩
instance : CSize Tryz.prog 188 1 := ⟨by kernel_rfl⟩
instance : CNotAgg Tryz.prog 188 := ⟨by kernel_rfl⟩
instance : CBytes Tryz.prog 188 8 := ⟨by kernel_rfl⟩
instance : CSize Tryz.prog 189 1 := ⟨by kernel_rfl⟩
instance : CNotAgg Tryz.prog 189 := ⟨by kernel_rfl⟩
instance : CBytes Tryz.prog 189 8 := ⟨by kernel_rfl⟩
instance : CAgg Tryz.prog 190 2 := ⟨by kernel_rfl⟩
instance : CSize Tryz.prog 190 2 := ⟨by kernel_rfl⟩
instance : CZero Tryz.prog 190 (.agg #[.slice none 0 0, .int .i64 0]) := ⟨by kernel_rfl⟩
instance : CBytes Tryz.prog 190 32 := ⟨by kernel_rfl⟩
instance : CPlaces Tryz.prog 190 [(0, 1), (1, 1)] := ⟨by kernel_rfl⟩
instance : CField Tryz.prog 190 0 0 := ⟨by kernel_rfl⟩
instance : CField Tryz.prog 190 1 1 := ⟨by kernel_rfl⟩
instance : CAgg Tryz.prog 191 2 := ⟨by kernel_rfl⟩
instance : CSize Tryz.prog 191 2 := ⟨by kernel_rfl⟩
instance : CZero Tryz.prog 191 (.agg #[.slice none 0 0, .int .i64 0]) := ⟨by kernel_rfl⟩
instance : CBytes Tryz.prog 191 32 := ⟨by kernel_rfl⟩
instance : CPlaces Tryz.prog 191 [(0, 1), (1, 1)] := ⟨by kernel_rfl⟩
instance : CField Tryz.prog 191 0 0 := ⟨by kernel_rfl⟩
instance : CField Tryz.prog 191 1 1 := ⟨by kernel_rfl⟩
instance : CSize Tryz.prog 192 1 := ⟨by kernel_rfl⟩
instance : CNotAgg Tryz.prog 192 := ⟨by kernel_rfl⟩
instance : CBytes Tryz.prog 192 8 := ⟨by kernel_rfl⟩
instance : CSize Tryz.prog 193 1 := ⟨by kernel_rfl⟩
instance : CNotAgg Tryz.prog 193 := ⟨by kernel_rfl⟩
instance : CZero Tryz.prog 193 (.tuple #[.slice none 0 0, .slice none 0 0, .int .i64 0]) := ⟨by kernel_rfl⟩
instance : CBytes Tryz.prog 193 0 := ⟨by kernel_rfl⟩
instance : CSize Tryz.prog 194 1 := ⟨by kernel_rfl⟩
instance : CNotAgg Tryz.prog 194 := ⟨by kernel_rfl⟩
instance : CBytes Tryz.prog 194 8 := ⟨by kernel_rfl⟩
instance : CSize Tryz.prog 195 1 := ⟨by kernel_rfl⟩
instance : CNotAgg Tryz.prog 195 := ⟨by kernel_rfl⟩
instance : CBytes Tryz.prog 195 8 := ⟨by kernel_rfl⟩
instance : CAgg Tryz.prog 196 2 := ⟨by kernel_rfl⟩
instance : CSize Tryz.prog 196 2 := ⟨by kernel_rfl⟩
instance : CZero Tryz.prog 196 (.agg #[.int .i64 0, .int .i64 0]) := ⟨by kernel_rfl⟩
instance : CBytes Tryz.prog 196 16 := ⟨by kernel_rfl⟩
instance : CPlaces Tryz.prog 196 [(0, 1), (1, 1)] := ⟨by kernel_rfl⟩
instance : CField Tryz.prog 196 0 0 := ⟨by kernel_rfl⟩
instance : CField Tryz.prog 196 1 1 := ⟨by kernel_rfl⟩
instance : CAgg Tryz.prog 197 2 := ⟨by kernel_rfl⟩
instance : CSize Tryz.prog 197 2 := ⟨by kernel_rfl⟩
instance : CZero Tryz.prog 197 (.agg #[.int .i64 0, .int .i64 0]) := ⟨by kernel_rfl⟩
instance : CBytes Tryz.prog 197 16 := ⟨by kernel_rfl⟩
instance : CPlaces Tryz.prog 197 [(0, 1), (1, 1)] := ⟨by kernel_rfl⟩
instance : CField Tryz.prog 197 0 0 := ⟨by kernel_rfl⟩
instance : CField Tryz.prog 197 1 1 := ⟨by kernel_rfl⟩
instance : CSize Tryz.prog 198 1 := ⟨by kernel_rfl⟩
instance : CNotAgg Tryz.prog 198 := ⟨by kernel_rfl⟩
instance : CBytes Tryz.prog 198 8 := ⟨by kernel_rfl⟩
instance : CSize Tryz.prog 199 1 := ⟨by kernel_rfl⟩
instance : CNotAgg Tryz.prog 199 := ⟨by kernel_rfl⟩
instance : CBytes Tryz.prog 199 8 := ⟨by kernel_rfl⟩
instance : CSize Tryz.prog 200 1 := ⟨by kernel_rfl⟩
instance : CNotAgg Tryz.prog 200 := ⟨by kernel_rfl⟩
instance : CZero Tryz.prog 200 (.int .u64 0) := ⟨by kernel_rfl⟩
instance : CBytes Tryz.prog 200 8 := ⟨by kernel_rfl⟩
instance : CInt Tryz.prog 200 .u64 := ⟨by kernel_rfl⟩
instance : CSize Tryz.prog 201 1 := ⟨by kernel_rfl⟩
instance : CNotAgg Tryz.prog 201 := ⟨by kernel_rfl⟩
instance : CBytes Tryz.prog 201 8 := ⟨by kernel_rfl⟩
instance : CSize Tryz.prog 202 1 := ⟨by kernel_rfl⟩
instance : CNotAgg Tryz.prog 202 := ⟨by kernel_rfl⟩
instance : CBytes Tryz.prog 202 8 := ⟨by kernel_rfl⟩
instance : CSize Tryz.prog 203 1 := ⟨by kernel_rfl⟩
instance : CNotAgg Tryz.prog 203 := ⟨by kernel_rfl⟩
instance : CBytes Tryz.prog 203 8 := ⟨by kernel_rfl⟩
instance : CSize Tryz.prog 204 1 := ⟨by kernel_rfl⟩
instance : CNotAgg Tryz.prog 204 := ⟨by kernel_rfl⟩
instance : CZero Tryz.prog 204 (.pointer none) := ⟨by kernel_rfl⟩
instance : CBytes Tryz.prog 204 8 := ⟨by kernel_rfl⟩
instance : CSize Tryz.prog 205 1 := ⟨by kernel_rfl⟩
instance : CNotAgg Tryz.prog 205 := ⟨by kernel_rfl⟩
instance : CBytes Tryz.prog 205 8 := ⟨by kernel_rfl⟩
instance : CSize Tryz.prog 206 1 := ⟨by kernel_rfl⟩
instance : CNotAgg Tryz.prog 206 := ⟨by kernel_rfl⟩
instance : CBytes Tryz.prog 206 8 := ⟨by kernel_rfl⟩
instance : CSize Tryz.prog 207 1 := ⟨by kernel_rfl⟩
instance : CNotAgg Tryz.prog 207 := ⟨by kernel_rfl⟩
instance : CBytes Tryz.prog 207 8 := ⟨by kernel_rfl⟩
instance : CSize Tryz.prog 208 1 := ⟨by kernel_rfl⟩
instance : CNotAgg Tryz.prog 208 := ⟨by kernel_rfl⟩
instance : CZero Tryz.prog 208 (.tuple #[.int .i64 0, .int .i64 0]) := ⟨by kernel_rfl⟩
instance : CBytes Tryz.prog 208 0 := ⟨by kernel_rfl⟩
instance : CSize Tryz.prog 209 1 := ⟨by kernel_rfl⟩
instance : CNotAgg Tryz.prog 209 := ⟨by kernel_rfl⟩
instance : CBytes Tryz.prog 209 8 := ⟨by kernel_rfl⟩
instance : CSize Tryz.prog 210 1 := ⟨by kernel_rfl⟩
instance : CNotAgg Tryz.prog 210 := ⟨by kernel_rfl⟩
instance : CBytes Tryz.prog 210 8 := ⟨by kernel_rfl⟩
instance : CSize Tryz.prog 211 1 := ⟨by kernel_rfl⟩
instance : CNotAgg Tryz.prog 211 := ⟨by kernel_rfl⟩
instance : CBytes Tryz.prog 211 8 := ⟨by kernel_rfl⟩
instance : CSlice Tryz.prog 212 112 3 := ⟨by kernel_rfl⟩
instance : CSize Tryz.prog 212 1 := ⟨by kernel_rfl⟩
instance : CNotAgg Tryz.prog 212 := ⟨by kernel_rfl⟩
instance : CIsSlice Tryz.prog 212 := ⟨by kernel_rfl⟩
instance : CZero Tryz.prog 212 (.slice none 0 0) := ⟨by kernel_rfl⟩
instance : CBytes Tryz.prog 212 24 := ⟨by kernel_rfl⟩
instance : CAgg Tryz.prog 213 5 := ⟨by kernel_rfl⟩
instance : CSize Tryz.prog 213 5 := ⟨by kernel_rfl⟩
instance : CZero Tryz.prog 213 (.agg #[.string ⟨#[]⟩, .bool false, .slice none 0 0, .slice none 0 0, .slice none 0 0]) := ⟨by kernel_rfl⟩
instance : CBytes Tryz.prog 213 96 := ⟨by kernel_rfl⟩
instance : CPlaces Tryz.prog 213 [(0, 1), (1, 3), (4, 1)] := ⟨by kernel_rfl⟩
instance : CField Tryz.prog 213 0 0 := ⟨by kernel_rfl⟩
instance : CField Tryz.prog 213 1 1 := ⟨by kernel_rfl⟩
instance : CField Tryz.prog 213 2 4 := ⟨by kernel_rfl⟩
instance : CAgg Tryz.prog 214 5 := ⟨by kernel_rfl⟩
instance : CSize Tryz.prog 214 5 := ⟨by kernel_rfl⟩
instance : CZero Tryz.prog 214 (.agg #[.string ⟨#[]⟩, .bool false, .slice none 0 0, .slice none 0 0, .slice none 0 0]) := ⟨by kernel_rfl⟩
instance : CBytes Tryz.prog 214 96 := ⟨by kernel_rfl⟩
instance : CPlaces Tryz.prog 214 [(0, 1), (1, 3), (4, 1)] := ⟨by kernel_rfl⟩
instance : CField Tryz.prog 214 0 0 := ⟨by kernel_rfl⟩
instance : CField Tryz.prog 214 1 1 := ⟨by kernel_rfl⟩
instance : CField Tryz.prog 214 2 4 := ⟨by kernel_rfl⟩
instance : CSize Tryz.prog 215 1 := ⟨by kernel_rfl⟩
instance : CNotAgg Tryz.prog 215 := ⟨by kernel_rfl⟩
instance : CBytes Tryz.prog 215 8 := ⟨by kernel_rfl⟩
instance : CSize Tryz.prog 216 1 := ⟨by kernel_rfl⟩
instance : CNotAgg Tryz.prog 216 := ⟨by kernel_rfl⟩
instance : CBytes Tryz.prog 216 8 := ⟨by kernel_rfl⟩
instance : CSize Tryz.prog 217 1 := ⟨by kernel_rfl⟩
instance : CNotAgg Tryz.prog 217 := ⟨by kernel_rfl⟩
instance : CBytes Tryz.prog 217 8 := ⟨by kernel_rfl⟩
instance : CSize Tryz.prog 218 1 := ⟨by kernel_rfl⟩
instance : CNotAgg Tryz.prog 218 := ⟨by kernel_rfl⟩
instance : CBytes Tryz.prog 218 8 := ⟨by kernel_rfl⟩
instance : CSize Tryz.prog 219 1 := ⟨by kernel_rfl⟩
instance : CNotAgg Tryz.prog 219 := ⟨by kernel_rfl⟩
instance : CBytes Tryz.prog 219 8 := ⟨by kernel_rfl⟩
instance : CSize Tryz.prog 220 1 := ⟨by kernel_rfl⟩
instance : CNotAgg Tryz.prog 220 := ⟨by kernel_rfl⟩
instance : CBytes Tryz.prog 220 8 := ⟨by kernel_rfl⟩
instance : CSize Tryz.prog 221 1 := ⟨by kernel_rfl⟩
instance : CNotAgg Tryz.prog 221 := ⟨by kernel_rfl⟩
instance : CBytes Tryz.prog 221 8 := ⟨by kernel_rfl⟩
instance : CSize Tryz.prog 222 1 := ⟨by kernel_rfl⟩
instance : CNotAgg Tryz.prog 222 := ⟨by kernel_rfl⟩
instance : CBytes Tryz.prog 222 8 := ⟨by kernel_rfl⟩
instance : CSize Tryz.prog 223 1 := ⟨by kernel_rfl⟩
instance : CNotAgg Tryz.prog 223 := ⟨by kernel_rfl⟩
instance : CZero Tryz.prog 223 (.pointer none) := ⟨by kernel_rfl⟩
instance : CBytes Tryz.prog 223 8 := ⟨by kernel_rfl⟩
instance : CSize Tryz.prog 224 1 := ⟨by kernel_rfl⟩
instance : CNotAgg Tryz.prog 224 := ⟨by kernel_rfl⟩
instance : CBytes Tryz.prog 224 8 := ⟨by kernel_rfl⟩
instance : CSize Tryz.prog 225 1 := ⟨by kernel_rfl⟩
instance : CNotAgg Tryz.prog 225 := ⟨by kernel_rfl⟩
instance : CBytes Tryz.prog 225 8 := ⟨by kernel_rfl⟩
instance : CSize Tryz.prog 226 1 := ⟨by kernel_rfl⟩
instance : CNotAgg Tryz.prog 226 := ⟨by kernel_rfl⟩
instance : CZero Tryz.prog 226 (.tuple #[.agg #[.bool false, .slice none 0 0, .slice none 0 0], .bool false]) := ⟨by kernel_rfl⟩
instance : CBytes Tryz.prog 226 0 := ⟨by kernel_rfl⟩
instance : CSize Tryz.prog 227 1 := ⟨by kernel_rfl⟩
instance : CNotAgg Tryz.prog 227 := ⟨by kernel_rfl⟩
instance : CBytes Tryz.prog 227 8 := ⟨by kernel_rfl⟩
instance : CSize Tryz.prog 228 1 := ⟨by kernel_rfl⟩
instance : CNotAgg Tryz.prog 228 := ⟨by kernel_rfl⟩
instance : CBytes Tryz.prog 228 8 := ⟨by kernel_rfl⟩
instance : CSize Tryz.prog 229 1 := ⟨by kernel_rfl⟩
instance : CNotAgg Tryz.prog 229 := ⟨by kernel_rfl⟩
instance : CBytes Tryz.prog 229 8 := ⟨by kernel_rfl⟩
instance : CSize Tryz.prog 230 1 := ⟨by kernel_rfl⟩
instance : CNotAgg Tryz.prog 230 := ⟨by kernel_rfl⟩
instance : CBytes Tryz.prog 230 8 := ⟨by kernel_rfl⟩
instance : CSize Tryz.prog 231 1 := ⟨by kernel_rfl⟩
instance : CNotAgg Tryz.prog 231 := ⟨by kernel_rfl⟩
instance : CBytes Tryz.prog 231 8 := ⟨by kernel_rfl⟩
instance : CSize Tryz.prog 232 1 := ⟨by kernel_rfl⟩
instance : CNotAgg Tryz.prog 232 := ⟨by kernel_rfl⟩
instance : CBytes Tryz.prog 232 8 := ⟨by kernel_rfl⟩
instance : CSize Tryz.prog 233 1 := ⟨by kernel_rfl⟩
instance : CNotAgg Tryz.prog 233 := ⟨by kernel_rfl⟩
instance : CBytes Tryz.prog 233 8 := ⟨by kernel_rfl⟩
instance : CSize Tryz.prog 234 1 := ⟨by kernel_rfl⟩
instance : CNotAgg Tryz.prog 234 := ⟨by kernel_rfl⟩
instance : CBytes Tryz.prog 234 8 := ⟨by kernel_rfl⟩
instance : CSize Tryz.prog 235 1 := ⟨by kernel_rfl⟩
instance : CNotAgg Tryz.prog 235 := ⟨by kernel_rfl⟩
instance : CBytes Tryz.prog 235 8 := ⟨by kernel_rfl⟩
instance : CSize Tryz.prog 236 1 := ⟨by kernel_rfl⟩
instance : CNotAgg Tryz.prog 236 := ⟨by kernel_rfl⟩
instance : CBytes Tryz.prog 236 8 := ⟨by kernel_rfl⟩
instance : CSize Tryz.prog 237 1 := ⟨by kernel_rfl⟩
instance : CNotAgg Tryz.prog 237 := ⟨by kernel_rfl⟩
instance : CBytes Tryz.prog 237 8 := ⟨by kernel_rfl⟩
instance : CSize Tryz.prog 238 1 := ⟨by kernel_rfl⟩
instance : CNotAgg Tryz.prog 238 := ⟨by kernel_rfl⟩
instance : CBytes Tryz.prog 238 8 := ⟨by kernel_rfl⟩
instance : CSize Tryz.prog 239 1 := ⟨by kernel_rfl⟩
instance : CNotAgg Tryz.prog 239 := ⟨by kernel_rfl⟩
instance : CBytes Tryz.prog 239 8 := ⟨by kernel_rfl⟩
instance : CSize Tryz.prog 240 1 := ⟨by kernel_rfl⟩
instance : CNotAgg Tryz.prog 240 := ⟨by kernel_rfl⟩
instance : CBytes Tryz.prog 240 8 := ⟨by kernel_rfl⟩
instance : CSize Tryz.prog 241 1 := ⟨by kernel_rfl⟩
instance : CNotAgg Tryz.prog 241 := ⟨by kernel_rfl⟩
instance : CBytes Tryz.prog 241 8 := ⟨by kernel_rfl⟩
instance : CSize Tryz.prog 242 1 := ⟨by kernel_rfl⟩
instance : CNotAgg Tryz.prog 242 := ⟨by kernel_rfl⟩
instance : CBytes Tryz.prog 242 8 := ⟨by kernel_rfl⟩
instance : CSize Tryz.prog 243 1 := ⟨by kernel_rfl⟩
instance : CNotAgg Tryz.prog 243 := ⟨by kernel_rfl⟩
instance : CZero Tryz.prog 243 (.tuple #[.int .u64 0, .int .u64 0]) := ⟨by kernel_rfl⟩
instance : CBytes Tryz.prog 243 0 := ⟨by kernel_rfl⟩
instance : CSize Tryz.prog 244 1 := ⟨by kernel_rfl⟩
instance : CNotAgg Tryz.prog 244 := ⟨by kernel_rfl⟩
instance : CBytes Tryz.prog 244 8 := ⟨by kernel_rfl⟩
instance : CSize Tryz.prog 245 1 := ⟨by kernel_rfl⟩
instance : CNotAgg Tryz.prog 245 := ⟨by kernel_rfl⟩
instance : CBytes Tryz.prog 245 8 := ⟨by kernel_rfl⟩
instance : CSize Tryz.prog 246 1 := ⟨by kernel_rfl⟩
instance : CNotAgg Tryz.prog 246 := ⟨by kernel_rfl⟩
instance : CBytes Tryz.prog 246 8 := ⟨by kernel_rfl⟩
instance : CSize Tryz.prog 247 1 := ⟨by kernel_rfl⟩
instance : CNotAgg Tryz.prog 247 := ⟨by kernel_rfl⟩
instance : CBytes Tryz.prog 247 8 := ⟨by kernel_rfl⟩
instance : CSize Tryz.prog 248 1 := ⟨by kernel_rfl⟩
instance : CNotAgg Tryz.prog 248 := ⟨by kernel_rfl⟩
instance : CBytes Tryz.prog 248 8 := ⟨by kernel_rfl⟩
instance : CSize Tryz.prog 249 1 := ⟨by kernel_rfl⟩
instance : CNotAgg Tryz.prog 249 := ⟨by kernel_rfl⟩
instance : CBytes Tryz.prog 249 8 := ⟨by kernel_rfl⟩
instance : CSize Tryz.prog 250 1 := ⟨by kernel_rfl⟩
instance : CNotAgg Tryz.prog 250 := ⟨by kernel_rfl⟩
instance : CBytes Tryz.prog 250 8 := ⟨by kernel_rfl⟩
instance : CSize Tryz.prog 251 1 := ⟨by kernel_rfl⟩
instance : CNotAgg Tryz.prog 251 := ⟨by kernel_rfl⟩
instance : CBytes Tryz.prog 251 8 := ⟨by kernel_rfl⟩
instance : CSize Tryz.prog 252 1 := ⟨by kernel_rfl⟩
instance : CNotAgg Tryz.prog 252 := ⟨by kernel_rfl⟩
instance : CBytes Tryz.prog 252 8 := ⟨by kernel_rfl⟩
instance : CSize Tryz.prog 253 1 := ⟨by kernel_rfl⟩
instance : CNotAgg Tryz.prog 253 := ⟨by kernel_rfl⟩
instance : CBytes Tryz.prog 253 8 := ⟨by kernel_rfl⟩
instance : CSize Tryz.prog 254 1 := ⟨by kernel_rfl⟩
instance : CNotAgg Tryz.prog 254 := ⟨by kernel_rfl⟩
instance : CBytes Tryz.prog 254 8 := ⟨by kernel_rfl⟩
instance : CSize Tryz.prog 255 1 := ⟨by kernel_rfl⟩
instance : CNotAgg Tryz.prog 255 := ⟨by kernel_rfl⟩
instance : CBytes Tryz.prog 255 8 := ⟨by kernel_rfl⟩
instance : CSize Tryz.prog 256 1 := ⟨by kernel_rfl⟩
instance : CNotAgg Tryz.prog 256 := ⟨by kernel_rfl⟩
instance : CBytes Tryz.prog 256 8 := ⟨by kernel_rfl⟩
instance : CSize Tryz.prog 257 1 := ⟨by kernel_rfl⟩
instance : CNotAgg Tryz.prog 257 := ⟨by kernel_rfl⟩
instance : CBytes Tryz.prog 257 8 := ⟨by kernel_rfl⟩
instance : CSize Tryz.prog 258 1 := ⟨by kernel_rfl⟩
instance : CNotAgg Tryz.prog 258 := ⟨by kernel_rfl⟩
instance : CBytes Tryz.prog 258 8 := ⟨by kernel_rfl⟩
instance : CSize Tryz.prog 259 1 := ⟨by kernel_rfl⟩
instance : CNotAgg Tryz.prog 259 := ⟨by kernel_rfl⟩
instance : CBytes Tryz.prog 259 8 := ⟨by kernel_rfl⟩
instance : CSize Tryz.prog 260 1 := ⟨by kernel_rfl⟩
instance : CNotAgg Tryz.prog 260 := ⟨by kernel_rfl⟩
instance : CBytes Tryz.prog 260 8 := ⟨by kernel_rfl⟩
instance : CSize Tryz.prog 261 1 := ⟨by kernel_rfl⟩
instance : CNotAgg Tryz.prog 261 := ⟨by kernel_rfl⟩
instance : CBytes Tryz.prog 261 8 := ⟨by kernel_rfl⟩
instance : CSize Tryz.prog 262 1 := ⟨by kernel_rfl⟩
instance : CNotAgg Tryz.prog 262 := ⟨by kernel_rfl⟩
instance : CBytes Tryz.prog 262 8 := ⟨by kernel_rfl⟩
instance : CSize Tryz.prog 263 1 := ⟨by kernel_rfl⟩
instance : CNotAgg Tryz.prog 263 := ⟨by kernel_rfl⟩
instance : CBytes Tryz.prog 263 8 := ⟨by kernel_rfl⟩
instance : CSize Tryz.prog 264 1 := ⟨by kernel_rfl⟩
instance : CNotAgg Tryz.prog 264 := ⟨by kernel_rfl⟩
instance : CBytes Tryz.prog 264 8 := ⟨by kernel_rfl⟩
instance : CSize Tryz.prog 265 1 := ⟨by kernel_rfl⟩
instance : CNotAgg Tryz.prog 265 := ⟨by kernel_rfl⟩
instance : CBytes Tryz.prog 265 16 := ⟨by kernel_rfl⟩
instance : CSize Tryz.prog 266 1 := ⟨by kernel_rfl⟩
instance : CNotAgg Tryz.prog 266 := ⟨by kernel_rfl⟩
instance : CBytes Tryz.prog 266 16 := ⟨by kernel_rfl⟩
instance : CSize Tryz.prog 267 1 := ⟨by kernel_rfl⟩
instance : CNotAgg Tryz.prog 267 := ⟨by kernel_rfl⟩
instance : CBytes Tryz.prog 267 8 := ⟨by kernel_rfl⟩
instance : CSize Tryz.prog 268 1 := ⟨by kernel_rfl⟩
instance : CNotAgg Tryz.prog 268 := ⟨by kernel_rfl⟩
instance : CBytes Tryz.prog 268 8 := ⟨by kernel_rfl⟩
instance : CSize Tryz.prog 269 1 := ⟨by kernel_rfl⟩
instance : CNotAgg Tryz.prog 269 := ⟨by kernel_rfl⟩
instance : CZero Tryz.prog 269 (.tuple #[.slice none 0 0, .slice none 0 0, .bool false]) := ⟨by kernel_rfl⟩
instance : CBytes Tryz.prog 269 0 := ⟨by kernel_rfl⟩
instance : CSize Tryz.prog 270 1 := ⟨by kernel_rfl⟩
instance : CNotAgg Tryz.prog 270 := ⟨by kernel_rfl⟩
instance : CBytes Tryz.prog 270 8 := ⟨by kernel_rfl⟩
instance : CSize Tryz.prog 271 1 := ⟨by kernel_rfl⟩
instance : CNotAgg Tryz.prog 271 := ⟨by kernel_rfl⟩
instance : CBytes Tryz.prog 271 8 := ⟨by kernel_rfl⟩
instance : CSize Tryz.prog 272 1 := ⟨by kernel_rfl⟩
instance : CNotAgg Tryz.prog 272 := ⟨by kernel_rfl⟩
instance : CBytes Tryz.prog 272 8 := ⟨by kernel_rfl⟩
instance : CSize Tryz.prog 273 1 := ⟨by kernel_rfl⟩
instance : CNotAgg Tryz.prog 273 := ⟨by kernel_rfl⟩
instance : CBytes Tryz.prog 273 8 := ⟨by kernel_rfl⟩
instance : CSize Tryz.prog 274 1 := ⟨by kernel_rfl⟩
instance : CNotAgg Tryz.prog 274 := ⟨by kernel_rfl⟩
instance : CBytes Tryz.prog 274 8 := ⟨by kernel_rfl⟩
instance : CSize Tryz.prog 275 1 := ⟨by kernel_rfl⟩
instance : CNotAgg Tryz.prog 275 := ⟨by kernel_rfl⟩
instance : CZero Tryz.prog 275 (.tuple #[.slice none 0 0, .int .u32 0]) := ⟨by kernel_rfl⟩
instance : CBytes Tryz.prog 275 0 := ⟨by kernel_rfl⟩
instance : CSize Tryz.prog 276 1 := ⟨by kernel_rfl⟩
instance : CNotAgg Tryz.prog 276 := ⟨by kernel_rfl⟩
instance : CBytes Tryz.prog 276 8 := ⟨by kernel_rfl⟩
instance : CSize Tryz.prog 277 1 := ⟨by kernel_rfl⟩
instance : CNotAgg Tryz.prog 277 := ⟨by kernel_rfl⟩
instance : CBytes Tryz.prog 277 8 := ⟨by kernel_rfl⟩
instance : CSize Tryz.prog 278 1 := ⟨by kernel_rfl⟩
instance : CNotAgg Tryz.prog 278 := ⟨by kernel_rfl⟩
instance : CBytes Tryz.prog 278 8 := ⟨by kernel_rfl⟩
instance : CSize Tryz.prog 279 1 := ⟨by kernel_rfl⟩
instance : CNotAgg Tryz.prog 279 := ⟨by kernel_rfl⟩
instance : CZero Tryz.prog 279 (.pointer none) := ⟨by kernel_rfl⟩
instance : CBytes Tryz.prog 279 8 := ⟨by kernel_rfl⟩
instance : CSize Tryz.prog 280 1 := ⟨by kernel_rfl⟩
instance : CNotAgg Tryz.prog 280 := ⟨by kernel_rfl⟩
instance : CBytes Tryz.prog 280 8 := ⟨by kernel_rfl⟩
instance : CAgg Tryz.prog 281 4 := ⟨by kernel_rfl⟩
instance : CSize Tryz.prog 281 4 := ⟨by kernel_rfl⟩
instance : CZero Tryz.prog 281 (.agg #[.pointer none, .pointer none, .pointer none, .string ⟨#[]⟩]) := ⟨by kernel_rfl⟩
instance : CBytes Tryz.prog 281 40 := ⟨by kernel_rfl⟩
instance : CPlaces Tryz.prog 281 [(0, 1), (1, 1), (2, 1), (3, 1)] := ⟨by kernel_rfl⟩
instance : CField Tryz.prog 281 0 0 := ⟨by kernel_rfl⟩
instance : CField Tryz.prog 281 1 1 := ⟨by kernel_rfl⟩
instance : CField Tryz.prog 281 2 2 := ⟨by kernel_rfl⟩
instance : CField Tryz.prog 281 3 3 := ⟨by kernel_rfl⟩
instance : CAgg Tryz.prog 282 4 := ⟨by kernel_rfl⟩
instance : CSize Tryz.prog 282 4 := ⟨by kernel_rfl⟩
instance : CZero Tryz.prog 282 (.agg #[.pointer none, .pointer none, .pointer none, .string ⟨#[]⟩]) := ⟨by kernel_rfl⟩
instance : CBytes Tryz.prog 282 40 := ⟨by kernel_rfl⟩
instance : CPlaces Tryz.prog 282 [(0, 1), (1, 1), (2, 1), (3, 1)] := ⟨by kernel_rfl⟩
instance : CField Tryz.prog 282 0 0 := ⟨by kernel_rfl⟩
instance : CField Tryz.prog 282 1 1 := ⟨by kernel_rfl⟩
instance : CField Tryz.prog 282 2 2 := ⟨by kernel_rfl⟩
instance : CField Tryz.prog 282 3 3 := ⟨by kernel_rfl⟩
instance : CAgg Tryz.prog 283 0 := ⟨by kernel_rfl⟩
instance : CArr Tryz.prog 283 0 1 := ⟨by kernel_rfl⟩
instance : CSize Tryz.prog 283 0 := ⟨by kernel_rfl⟩
instance : CZero Tryz.prog 283 (.agg #[]) := ⟨by kernel_rfl⟩
instance : CBytes Tryz.prog 283 0 := ⟨by kernel_rfl⟩
instance : CAgg Tryz.prog 284 0 := ⟨by kernel_rfl⟩
instance : CSize Tryz.prog 284 0 := ⟨by kernel_rfl⟩
instance : CZero Tryz.prog 284 (.agg #[]) := ⟨by kernel_rfl⟩
instance : CBytes Tryz.prog 284 0 := ⟨by kernel_rfl⟩
instance : CPlaces Tryz.prog 284 [(0, 0)] := ⟨by kernel_rfl⟩
instance : CAgg Tryz.prog 285 0 := ⟨by kernel_rfl⟩
instance : CSize Tryz.prog 285 0 := ⟨by kernel_rfl⟩
instance : CZero Tryz.prog 285 (.agg #[]) := ⟨by kernel_rfl⟩
instance : CBytes Tryz.prog 285 0 := ⟨by kernel_rfl⟩
instance : CPlaces Tryz.prog 285 [(0, 0)] := ⟨by kernel_rfl⟩
instance : CSize Tryz.prog 286 1 := ⟨by kernel_rfl⟩
instance : CNotAgg Tryz.prog 286 := ⟨by kernel_rfl⟩
instance : CBytes Tryz.prog 286 8 := ⟨by kernel_rfl⟩
instance : CSize Tryz.prog 287 1 := ⟨by kernel_rfl⟩
instance : CNotAgg Tryz.prog 287 := ⟨by kernel_rfl⟩
instance : CZero Tryz.prog 287 (.int .u8 0) := ⟨by kernel_rfl⟩
instance : CBytes Tryz.prog 287 1 := ⟨by kernel_rfl⟩
instance : CInt Tryz.prog 287 .u8 := ⟨by kernel_rfl⟩
instance : CSize Tryz.prog 288 1 := ⟨by kernel_rfl⟩
instance : CNotAgg Tryz.prog 288 := ⟨by kernel_rfl⟩
instance : CZero Tryz.prog 288 (.int .u8 0) := ⟨by kernel_rfl⟩
instance : CBytes Tryz.prog 288 1 := ⟨by kernel_rfl⟩
instance : CInt Tryz.prog 288 .u8 := ⟨by kernel_rfl⟩
instance : CSize Tryz.prog 289 1 := ⟨by kernel_rfl⟩
instance : CNotAgg Tryz.prog 289 := ⟨by kernel_rfl⟩
instance : CBytes Tryz.prog 289 8 := ⟨by kernel_rfl⟩
instance : CSize Tryz.prog 290 1 := ⟨by kernel_rfl⟩
instance : CNotAgg Tryz.prog 290 := ⟨by kernel_rfl⟩
instance : CZero Tryz.prog 290 (.pointer none) := ⟨by kernel_rfl⟩
instance : CBytes Tryz.prog 290 8 := ⟨by kernel_rfl⟩
instance : CSize Tryz.prog 291 1 := ⟨by kernel_rfl⟩
instance : CNotAgg Tryz.prog 291 := ⟨by kernel_rfl⟩
instance : CZero Tryz.prog 291 (.int .i32 0) := ⟨by kernel_rfl⟩
instance : CBytes Tryz.prog 291 4 := ⟨by kernel_rfl⟩
instance : CInt Tryz.prog 291 .i32 := ⟨by kernel_rfl⟩
instance : CSize Tryz.prog 292 1 := ⟨by kernel_rfl⟩
instance : CNotAgg Tryz.prog 292 := ⟨by kernel_rfl⟩
instance : CZero Tryz.prog 292 (.int .i32 0) := ⟨by kernel_rfl⟩
instance : CBytes Tryz.prog 292 4 := ⟨by kernel_rfl⟩
instance : CInt Tryz.prog 292 .i32 := ⟨by kernel_rfl⟩
instance : CAgg Tryz.prog 293 11 := ⟨by kernel_rfl⟩
instance : CSize Tryz.prog 293 11 := ⟨by kernel_rfl⟩
instance : CBytes Tryz.prog 293 48 := ⟨by kernel_rfl⟩
instance : CPlaces Tryz.prog 293 [(0, 1), (1, 1), (2, 1), (3, 1), (4, 1), (5, 1), (6, 1), (7, 1), (8, 1), (9, 1), (10, 1)] := ⟨by kernel_rfl⟩
instance : CField Tryz.prog 293 0 0 := ⟨by kernel_rfl⟩
instance : CField Tryz.prog 293 1 1 := ⟨by kernel_rfl⟩
instance : CField Tryz.prog 293 2 2 := ⟨by kernel_rfl⟩
instance : CField Tryz.prog 293 3 3 := ⟨by kernel_rfl⟩
instance : CField Tryz.prog 293 4 4 := ⟨by kernel_rfl⟩
instance : CField Tryz.prog 293 5 5 := ⟨by kernel_rfl⟩
instance : CField Tryz.prog 293 6 6 := ⟨by kernel_rfl⟩
instance : CField Tryz.prog 293 7 7 := ⟨by kernel_rfl⟩
instance : CField Tryz.prog 293 8 8 := ⟨by kernel_rfl⟩
instance : CField Tryz.prog 293 9 9 := ⟨by kernel_rfl⟩
instance : CField Tryz.prog 293 10 10 := ⟨by kernel_rfl⟩
instance : CAgg Tryz.prog 294 11 := ⟨by kernel_rfl⟩
instance : CSize Tryz.prog 294 11 := ⟨by kernel_rfl⟩
instance : CBytes Tryz.prog 294 48 := ⟨by kernel_rfl⟩
instance : CPlaces Tryz.prog 294 [(0, 1), (1, 1), (2, 1), (3, 1), (4, 1), (5, 1), (6, 1), (7, 1), (8, 1), (9, 1), (10, 1)] := ⟨by kernel_rfl⟩
instance : CField Tryz.prog 294 0 0 := ⟨by kernel_rfl⟩
instance : CField Tryz.prog 294 1 1 := ⟨by kernel_rfl⟩
instance : CField Tryz.prog 294 2 2 := ⟨by kernel_rfl⟩
instance : CField Tryz.prog 294 3 3 := ⟨by kernel_rfl⟩
instance : CField Tryz.prog 294 4 4 := ⟨by kernel_rfl⟩
instance : CField Tryz.prog 294 5 5 := ⟨by kernel_rfl⟩
instance : CField Tryz.prog 294 6 6 := ⟨by kernel_rfl⟩
instance : CField Tryz.prog 294 7 7 := ⟨by kernel_rfl⟩
instance : CField Tryz.prog 294 8 8 := ⟨by kernel_rfl⟩
instance : CField Tryz.prog 294 9 9 := ⟨by kernel_rfl⟩
instance : CField Tryz.prog 294 10 10 := ⟨by kernel_rfl⟩
instance : CAgg Tryz.prog 295 1 := ⟨by kernel_rfl⟩
instance : CSize Tryz.prog 295 1 := ⟨by kernel_rfl⟩
instance : CZero Tryz.prog 295 (.agg #[.string ⟨#[]⟩]) := ⟨by kernel_rfl⟩
instance : CBytes Tryz.prog 295 16 := ⟨by kernel_rfl⟩
instance : CPlaces Tryz.prog 295 [(0, 1)] := ⟨by kernel_rfl⟩
instance : CField Tryz.prog 295 0 0 := ⟨by kernel_rfl⟩
instance : CAgg Tryz.prog 296 1 := ⟨by kernel_rfl⟩
instance : CSize Tryz.prog 296 1 := ⟨by kernel_rfl⟩
instance : CZero Tryz.prog 296 (.agg #[.string ⟨#[]⟩]) := ⟨by kernel_rfl⟩
instance : CBytes Tryz.prog 296 16 := ⟨by kernel_rfl⟩
instance : CPlaces Tryz.prog 296 [(0, 1)] := ⟨by kernel_rfl⟩
instance : CField Tryz.prog 296 0 0 := ⟨by kernel_rfl⟩
instance : CSize Tryz.prog 297 1 := ⟨by kernel_rfl⟩
instance : CNotAgg Tryz.prog 297 := ⟨by kernel_rfl⟩
instance : CZero Tryz.prog 297 (.pointer none) := ⟨by kernel_rfl⟩
instance : CBytes Tryz.prog 297 8 := ⟨by kernel_rfl⟩
instance : CCall Tryz.prog 2 := ⟨by kernel_rfl⟩
instance : CCall Tryz.prog 3 := ⟨by kernel_rfl⟩
instance : CCall Tryz.prog 4 := ⟨by kernel_rfl⟩
instance : CCall Tryz.prog 5 := ⟨by kernel_rfl⟩
instance : CCall Tryz.prog 6 := ⟨by kernel_rfl⟩
instance : CCall Tryz.prog 7 := ⟨by kernel_rfl⟩
instance : CCall Tryz.prog 8 := ⟨by kernel_rfl⟩
instance : CCall Tryz.prog 9 := ⟨by kernel_rfl⟩
instance : CCall Tryz.prog 10 := ⟨by kernel_rfl⟩
instance : CCall Tryz.prog 11 := ⟨by kernel_rfl⟩
instance : CCall Tryz.prog 12 := ⟨by kernel_rfl⟩
instance : CCall Tryz.prog 13 := ⟨by kernel_rfl⟩
instance : CCall Tryz.prog 14 := ⟨by kernel_rfl⟩
instance : CCall Tryz.prog 15 := ⟨by kernel_rfl⟩
instance : CCall Tryz.prog 16 := ⟨by kernel_rfl⟩
instance : CCall Tryz.prog 17 := ⟨by kernel_rfl⟩
instance : CCall Tryz.prog 18 := ⟨by kernel_rfl⟩
instance : CCall Tryz.prog 19 := ⟨by kernel_rfl⟩
instance : CCall Tryz.prog 20 := ⟨by kernel_rfl⟩
instance : CCall Tryz.prog 21 := ⟨by kernel_rfl⟩
instance : CCall Tryz.prog 22 := ⟨by kernel_rfl⟩
instance : CCall Tryz.prog 23 := ⟨by kernel_rfl⟩
instance : CCall Tryz.prog 24 := ⟨by kernel_rfl⟩
instance : CCall Tryz.prog 25 := ⟨by kernel_rfl⟩
instance : CCall Tryz.prog 26 := ⟨by kernel_rfl⟩
instance : CCall Tryz.prog 27 := ⟨by kernel_rfl⟩
instance : CCall Tryz.prog 28 := ⟨by kernel_rfl⟩
instance : CCall Tryz.prog 29 := ⟨by kernel_rfl⟩
instance : CCall Tryz.prog 30 := ⟨by kernel_rfl⟩
instance : CCall Tryz.prog 31 := ⟨by kernel_rfl⟩
instance : CCall Tryz.prog 32 := ⟨by kernel_rfl⟩
instance : CCall Tryz.prog 33 := ⟨by kernel_rfl⟩
instance : CCall Tryz.prog 34 := ⟨by kernel_rfl⟩
instance : CCall Tryz.prog 35 := ⟨by kernel_rfl⟩
instance : CCall Tryz.prog 36 := ⟨by kernel_rfl⟩
instance : CCall Tryz.prog 37 := ⟨by kernel_rfl⟩
instance : CCall Tryz.prog 38 := ⟨by kernel_rfl⟩
instance : CCall Tryz.prog 39 := ⟨by kernel_rfl⟩
instance : CCall Tryz.prog 40 := ⟨by kernel_rfl⟩
instance : CCall Tryz.prog 41 := ⟨by kernel_rfl⟩
instance : CCall Tryz.prog 42 := ⟨by kernel_rfl⟩
instance : CCall Tryz.prog 43 := ⟨by kernel_rfl⟩
instance : CCall Tryz.prog 44 := ⟨by kernel_rfl⟩
instance : CCall Tryz.prog 45 := ⟨by kernel_rfl⟩
instance : CCall Tryz.prog 46 := ⟨by kernel_rfl⟩
instance : CCall Tryz.prog 47 := ⟨by kernel_rfl⟩
instance : CCall Tryz.prog 48 := ⟨by kernel_rfl⟩
instance : CCall Tryz.prog 49 := ⟨by kernel_rfl⟩
instance : CCall Tryz.prog 50 := ⟨by kernel_rfl⟩
instance : CCall Tryz.prog 51 := ⟨by kernel_rfl⟩
instance : CCall Tryz.prog 52 := ⟨by kernel_rfl⟩
instance : CCall Tryz.prog 53 := ⟨by kernel_rfl⟩
instance : CCall Tryz.prog 54 := ⟨by kernel_rfl⟩
instance : CCall Tryz.prog 55 := ⟨by kernel_rfl⟩
instance : CCall Tryz.prog 56 := ⟨by kernel_rfl⟩
instance : CCall Tryz.prog 57 := ⟨by kernel_rfl⟩
instance : CCall Tryz.prog 58 := ⟨by kernel_rfl⟩
instance : CCall Tryz.prog 59 := ⟨by kernel_rfl⟩
instance : CCall Tryz.prog 60 := ⟨by kernel_rfl⟩
instance : CCall Tryz.prog 61 := ⟨by kernel_rfl⟩
instance : CCall Tryz.prog 62 := ⟨by kernel_rfl⟩
instance : CCall Tryz.prog 63 := ⟨by kernel_rfl⟩
instance : CCall Tryz.prog 64 := ⟨by kernel_rfl⟩
instance : CCall Tryz.prog 65 := ⟨by kernel_rfl⟩
instance : CCall Tryz.prog 66 := ⟨by kernel_rfl⟩
instance : CCall Tryz.prog 67 := ⟨by kernel_rfl⟩
instance : CCall Tryz.prog 68 := ⟨by kernel_rfl⟩
instance : CCall Tryz.prog 69 := ⟨by kernel_rfl⟩
instance : CCall Tryz.prog 70 := ⟨by kernel_rfl⟩
instance : CCall Tryz.prog 71 := ⟨by kernel_rfl⟩
instance : CCall Tryz.prog 72 := ⟨by kernel_rfl⟩
instance : CCall Tryz.prog 73 := ⟨by kernel_rfl⟩
instance : CCall Tryz.prog 74 := ⟨by kernel_rfl⟩
instance : CCall Tryz.prog 75 := ⟨by kernel_rfl⟩
instance : CCall Tryz.prog 76 := ⟨by kernel_rfl⟩
instance : CCall Tryz.prog 77 := ⟨by kernel_rfl⟩
instance : CCall Tryz.prog 78 := ⟨by kernel_rfl⟩
instance : CCall Tryz.prog 79 := ⟨by kernel_rfl⟩
instance : CCall Tryz.prog 80 := ⟨by kernel_rfl⟩
instance : CCall Tryz.prog 81 := ⟨by kernel_rfl⟩
instance : CCall Tryz.prog 82 := ⟨by kernel_rfl⟩
instance : CCall Tryz.prog 83 := ⟨by kernel_rfl⟩
instance : CCall Tryz.prog 84 := ⟨by kernel_rfl⟩
instance : CCall Tryz.prog 85 := ⟨by kernel_rfl⟩
instance : CCall Tryz.prog 86 := ⟨by kernel_rfl⟩
instance : CCall Tryz.prog 87 := ⟨by kernel_rfl⟩
instance : CCall Tryz.prog 88 := ⟨by kernel_rfl⟩
instance : CCall Tryz.prog 89 := ⟨by kernel_rfl⟩
instance : CCall Tryz.prog 90 := ⟨by kernel_rfl⟩
instance : CCall Tryz.prog 91 := ⟨by kernel_rfl⟩
instance : CCall Tryz.prog 92 := ⟨by kernel_rfl⟩
instance : CCall Tryz.prog 93 := ⟨by kernel_rfl⟩
instance : CCall Tryz.prog 94 := ⟨by kernel_rfl⟩
instance : CCall Tryz.prog 95 := ⟨by kernel_rfl⟩
instance : CCall Tryz.prog 96 := ⟨by kernel_rfl⟩
instance : CCall Tryz.prog 97 := ⟨by kernel_rfl⟩
instance : CCall Tryz.prog 98 := ⟨by kernel_rfl⟩
instance : CCall Tryz.prog 99 := ⟨by kernel_rfl⟩
instance : CCall Tryz.prog 100 := ⟨by kernel_rfl⟩
instance : CCall Tryz.prog 101 := ⟨by kernel_rfl⟩
instance : CCall Tryz.prog 102 := ⟨by kernel_rfl⟩
instance : CCall Tryz.prog 103 := ⟨by kernel_rfl⟩
instance : CCall Tryz.prog 104 := ⟨by kernel_rfl⟩
instance : CCall Tryz.prog 105 := ⟨by kernel_rfl⟩
instance : CCall Tryz.prog 106 := ⟨by kernel_rfl⟩
instance : CCall Tryz.prog 107 := ⟨by kernel_rfl⟩
instance : CCall Tryz.prog 108 := ⟨by kernel_rfl⟩
instance : CCall Tryz.prog 109 := ⟨by kernel_rfl⟩
instance : CCall Tryz.prog 110 := ⟨by kernel_rfl⟩
instance : CCall Tryz.prog 111 := ⟨by kernel_rfl⟩
instance : CCall Tryz.prog 112 := ⟨by kernel_rfl⟩
instance : CCall Tryz.prog 113 := ⟨by kernel_rfl⟩
instance : CCall Tryz.prog 114 := ⟨by kernel_rfl⟩
instance : CCall Tryz.prog 115 := ⟨by kernel_rfl⟩
instance : CCall Tryz.prog 116 := ⟨by kernel_rfl⟩
instance : CCall Tryz.prog 117 := ⟨by kernel_rfl⟩
instance : CCall Tryz.prog 118 := ⟨by kernel_rfl⟩
instance : CCall Tryz.prog 119 := ⟨by kernel_rfl⟩
instance : CCall Tryz.prog 120 := ⟨by kernel_rfl⟩
instance : CCall Tryz.prog 121 := ⟨by kernel_rfl⟩
instance : CCall Tryz.prog 122 := ⟨by kernel_rfl⟩
instance : CCall Tryz.prog 123 := ⟨by kernel_rfl⟩
instance : CCall Tryz.prog 124 := ⟨by kernel_rfl⟩
instance : CCall Tryz.prog 125 := ⟨by kernel_rfl⟩
instance : CCall Tryz.prog 126 := ⟨by kernel_rfl⟩
instance : CCall Tryz.prog 127 := ⟨by kernel_rfl⟩
instance : CCall Tryz.prog 128 := ⟨by kernel_rfl⟩
instance : CCall Tryz.prog 129 := ⟨by kernel_rfl⟩
instance : CCall Tryz.prog 130 := ⟨by kernel_rfl⟩
instance : CCall Tryz.prog 131 := ⟨by kernel_rfl⟩
instance : CCall Tryz.prog 132 := ⟨by kernel_rfl⟩
instance : CCall Tryz.prog 133 := ⟨by kernel_rfl⟩
instance : CCall Tryz.prog 134 := ⟨by kernel_rfl⟩
instance : CCall Tryz.prog 135 := ⟨by kernel_rfl⟩
instance : CCall Tryz.prog 136 := ⟨by kernel_rfl⟩
instance : CCall Tryz.prog 137 := ⟨by kernel_rfl⟩
instance : CCall Tryz.prog 138 := ⟨by kernel_rfl⟩
instance : CCall Tryz.prog 139 := ⟨by kernel_rfl⟩
instance : CCall Tryz.prog 140 := ⟨by kernel_rfl⟩
instance : CCall Tryz.prog 141 := ⟨by kernel_rfl⟩
instance : CCall Tryz.prog 142 := ⟨by kernel_rfl⟩
instance : CCall Tryz.prog 143 := ⟨by kernel_rfl⟩
instance : CCall Tryz.prog 144 := ⟨by kernel_rfl⟩
instance : CCall Tryz.prog 145 := ⟨by kernel_rfl⟩
instance : CCall Tryz.prog 146 := ⟨by kernel_rfl⟩
instance : CCall Tryz.prog 147 := ⟨by kernel_rfl⟩
instance : CCall Tryz.prog 148 := ⟨by kernel_rfl⟩
instance : CCall Tryz.prog 149 := ⟨by kernel_rfl⟩
instance : CCall Tryz.prog 150 := ⟨by kernel_rfl⟩
instance : CCall Tryz.prog 151 := ⟨by kernel_rfl⟩
instance : CCall Tryz.prog 152 := ⟨by kernel_rfl⟩
instance : CCall Tryz.prog 153 := ⟨by kernel_rfl⟩
instance : CCall Tryz.prog 154 := ⟨by kernel_rfl⟩
instance : CCall Tryz.prog 155 := ⟨by kernel_rfl⟩
instance : CCall Tryz.prog 156 := ⟨by kernel_rfl⟩
instance : CCall Tryz.prog 157 := ⟨by kernel_rfl⟩
instance : CCall Tryz.prog 158 := ⟨by kernel_rfl⟩
instance : CCall Tryz.prog 159 := ⟨by kernel_rfl⟩
instance : CCall Tryz.prog 160 := ⟨by kernel_rfl⟩
instance : CCall Tryz.prog 161 := ⟨by kernel_rfl⟩
instance : CCall Tryz.prog 162 := ⟨by kernel_rfl⟩
instance : CCall Tryz.prog 163 := ⟨by kernel_rfl⟩
instance : CCall Tryz.prog 164 := ⟨by kernel_rfl⟩
instance : CCall Tryz.prog 165 := ⟨by kernel_rfl⟩
instance : CCall Tryz.prog 166 := ⟨by kernel_rfl⟩
instance : CCall Tryz.prog 167 := ⟨by kernel_rfl⟩
instance : CCall Tryz.prog 168 := ⟨by kernel_rfl⟩
instance : CCall Tryz.prog 169 := ⟨by kernel_rfl⟩
instance : CCall Tryz.prog 170 := ⟨by kernel_rfl⟩
instance : CCall Tryz.prog 171 := ⟨by kernel_rfl⟩
instance : CCall Tryz.prog 172 := ⟨by kernel_rfl⟩
instance : CCall Tryz.prog 173 := ⟨by kernel_rfl⟩
instance : CCall Tryz.prog 174 := ⟨by kernel_rfl⟩
instance : CCall Tryz.prog 175 := ⟨by kernel_rfl⟩
instance : CCall Tryz.prog 176 := ⟨by kernel_rfl⟩
instance : CCall Tryz.prog 177 := ⟨by kernel_rfl⟩
instance : CCall Tryz.prog 178 := ⟨by kernel_rfl⟩
instance : CCall Tryz.prog 179 := ⟨by kernel_rfl⟩
instance : CCall Tryz.prog 180 := ⟨by kernel_rfl⟩
instance : CCall Tryz.prog 181 := ⟨by kernel_rfl⟩
instance : CCall Tryz.prog 182 := ⟨by kernel_rfl⟩
instance : CCall Tryz.prog 183 := ⟨by kernel_rfl⟩
instance : CCall Tryz.prog 184 := ⟨by kernel_rfl⟩
instance : CCall Tryz.prog 185 := ⟨by kernel_rfl⟩
instance : CCall Tryz.prog 186 := ⟨by kernel_rfl⟩
instance : CCall Tryz.prog 187 := ⟨by kernel_rfl⟩
instance : CCall Tryz.prog 188 := ⟨by kernel_rfl⟩
instance : CCall Tryz.prog 189 := ⟨by kernel_rfl⟩
instance : CCall Tryz.prog 190 := ⟨by kernel_rfl⟩
instance : CCall Tryz.prog 191 := ⟨by kernel_rfl⟩
instance : CCall Tryz.prog 192 := ⟨by kernel_rfl⟩
instance : CCall Tryz.prog 193 := ⟨by kernel_rfl⟩
instance : CCall Tryz.prog 194 := ⟨by kernel_rfl⟩
instance : CCall Tryz.prog 195 := ⟨by kernel_rfl⟩
instance : CCall Tryz.prog 196 := ⟨by kernel_rfl⟩
instance : CCall Tryz.prog 197 := ⟨by kernel_rfl⟩
instance : CCall Tryz.prog 198 := ⟨by kernel_rfl⟩
instance : CCall Tryz.prog 199 := ⟨by kernel_rfl⟩
instance : CCall Tryz.prog 200 := ⟨by kernel_rfl⟩
instance : CCall Tryz.prog 201 := ⟨by kernel_rfl⟩
instance : CCall Tryz.prog 202 := ⟨by kernel_rfl⟩
instance : CCall Tryz.prog 203 := ⟨by kernel_rfl⟩
instance : CCall Tryz.prog 204 := ⟨by kernel_rfl⟩
instance : CCall Tryz.prog 205 := ⟨by kernel_rfl⟩
instance : CCall Tryz.prog 206 := ⟨by kernel_rfl⟩
instance : CCall Tryz.prog 207 := ⟨by kernel_rfl⟩
instance : CCall Tryz.prog 208 := ⟨by kernel_rfl⟩
instance : CCall Tryz.prog 209 := ⟨by kernel_rfl⟩
instance : CCall Tryz.prog 210 := ⟨by kernel_rfl⟩
instance : CCall Tryz.prog 211 := ⟨by kernel_rfl⟩
instance : CCall Tryz.prog 212 := ⟨by kernel_rfl⟩
instance : CCall Tryz.prog 213 := ⟨by kernel_rfl⟩
instance : CCall Tryz.prog 229 := ⟨by kernel_rfl⟩
instance : CInts Tryz.prog 53 4 := ⟨by kernel_rfl⟩
instance : CInts Tryz.prog 54 4 := ⟨by kernel_rfl⟩
instance : CInts Tryz.prog 58 6 := ⟨by kernel_rfl⟩
instance : CInts Tryz.prog 59 6 := ⟨by kernel_rfl⟩
instance : CInts Tryz.prog 84 3 := ⟨by kernel_rfl⟩
instance : CInts Tryz.prog 85 3 := ⟨by kernel_rfl⟩
instance : CInts Tryz.prog 86 5 := ⟨by kernel_rfl⟩
instance : CInts Tryz.prog 87 5 := ⟨by kernel_rfl⟩
instance : CInts Tryz.prog 129 2 := ⟨by kernel_rfl⟩
instance : CInts Tryz.prog 130 2 := ⟨by kernel_rfl⟩
instance : CInts Tryz.prog 178 2 := ⟨by kernel_rfl⟩
instance : CInts Tryz.prog 179 2 := ⟨by kernel_rfl⟩
instance : CInts Tryz.prog 196 2 := ⟨by kernel_rfl⟩
instance : CInts Tryz.prog 197 2 := ⟨by kernel_rfl⟩
end Go.Proofs.YtckhibfbdnoigaaGreat

/- Contracts: plane geometry on the grid. -/
namespace Go.Proofs.YtckhibfbdnoigaaGreat
open Go.RowKit
set_option maxRecDepth 100000
set_option profiler true
set_option profiler.threshold 2000

def Bd (x : Int) : Prop := -1048576 ≤ x ∧ x ≤ 1048576
theorem mul_bd {x y B C : Int} (h1 : -B ≤ x) (h2 : x ≤ B) (h3 : -C ≤ y) (h4 : y ≤ C) : -(B * C) ≤ x * y ∧ x * y ≤ B * C := by
  have hB : 0 ≤ B := by omega
  have hC : 0 ≤ C := by omega
  have a1 : 0 ≤ (B - x) * (C - y) := Int.mul_nonneg (by omega) (by omega)
  have a2 : 0 ≤ (B + x) * (C + y) := Int.mul_nonneg (by omega) (by omega)
  have a3 : 0 ≤ (B - x) * (C + y) := Int.mul_nonneg (by omega) (by omega)
  have a4 : 0 ≤ (B + x) * (C - y) := Int.mul_nonneg (by omega) (by omega)
  simp only [Int.sub_mul, Int.add_mul, Int.mul_sub, Int.mul_add] at a1 a2 a3 a4
  omega

def spot (x y : Int) : Value := .agg #[.int .i64 x, .int .i64 y]
def outB (x y : Int) : Bool := decide (x < -1048576) || decide (x > 1048576) || decide (y < -1048576) || decide (y > 1048576)
def crossI (ax ay bx by_ cx cy : Int) : Int := (bx - ax) * (cy - ay) - (by_ - ay) * (cx - ax)

theorem outside_ok (w : World) (x y : Int) : Ok Tryz.prog 160 [.agg #[.int .i64 x, .int .i64 y]].toArray w fun r _ => r = .bool (outB x y) := by
  refine ok_enter Tryz.func160 rfl Tryz.ntmps160 rfl ?_
  focus (refine gc_seq ?_; refine gc_region ?_; refine gw_boxd (v := .agg _) rfl rfl (fun _ => ?_); refine gM rfl rfl (by conv => (lhs; whnf)) ?_; refine gN ?_; refine gF rfl rfl rfl ?_; apply gw_d; exact w_load_box rfl rfl rfl .here rfl; refine gC rfl rfl rfl rfl rfl ?_; refine gM rfl rfl (by conv => (lhs; whnf)) ?_; refine gw_guard_dec rfl rfl (fun _ => ?_) (fun _ => ?_); refine gU rfl ?_; refine gU rfl ?_; refine gU rfl ?_; apply gw_d; exact det_pick_t (v := .bool _) rfl rfl rfl rfl; refine gM rfl rfl (by conv => (lhs; whnf)) ?_; refine gU rfl ?_; refine gU rfl ?_; refine gU rfl ?_; apply gw_d; exact det_pick_t (v := .bool _) rfl rfl rfl rfl; refine gM rfl rfl (by conv => (lhs; whnf)) ?_; refine gU rfl ?_; refine gU rfl ?_; refine gU rfl ?_; apply gw_d; exact det_pick_t (v := .bool _) rfl rfl rfl rfl; refine gM rfl rfl (by conv => (lhs; whnf)) ?_; refine gO ?_; refine gc_ret ?_; rotate_left; refine gF rfl rfl rfl ?_; apply gw_d; exact w_load_box rfl rfl rfl .here rfl; refine gC rfl rfl rfl rfl rfl ?_; apply gw_d; exact det_pick_f (v := .bool _) rfl rfl rfl rfl; refine gM rfl rfl (by conv => (lhs; whnf)) ?_; refine gw_guard_dec rfl rfl (fun _ => ?_) (fun _ => ?_); refine gU rfl ?_; refine gU rfl ?_; refine gU rfl ?_; apply gw_d; exact det_pick_t (v := .bool _) rfl rfl rfl rfl; refine gM rfl rfl (by conv => (lhs; whnf)) ?_; refine gU rfl ?_; refine gU rfl ?_; refine gU rfl ?_; apply gw_d; exact det_pick_t (v := .bool _) rfl rfl rfl rfl; refine gM rfl rfl (by conv => (lhs; whnf)) ?_; refine gO ?_; refine gc_ret ?_; rotate_left; refine gF rfl rfl rfl ?_; apply gw_d; exact w_load_box rfl rfl rfl .here rfl; refine gC rfl rfl rfl rfl rfl ?_; apply gw_d; exact det_pick_f (v := .bool _) rfl rfl rfl rfl; refine gM rfl rfl (by conv => (lhs; whnf)) ?_; refine gw_guard_dec rfl rfl (fun _ => ?_) (fun _ => ?_); refine gU rfl ?_; refine gU rfl ?_; refine gU rfl ?_; apply gw_d; exact det_pick_t (v := .bool _) rfl rfl rfl rfl; refine gM rfl rfl (by conv => (lhs; whnf)) ?_; refine gO ?_; refine gc_ret ?_; rotate_left; refine gF rfl rfl rfl ?_; apply gw_d; exact w_load_box rfl rfl rfl .here rfl; refine gC rfl rfl rfl rfl rfl ?_; apply gw_d; exact det_pick_f (v := .bool _) rfl rfl rfl rfl; refine gM rfl rfl (by conv => (lhs; whnf)) ?_; refine gO ?_; refine gc_ret ?_; rotate_left)
  all_goals (refine gx_ret1 (v := .bool _) rfl rfl (fun _ _ => ?_); simp [outB, *])

set_option maxHeartbeats 1000000 in
theorem cross_ok (w : World) (ax ay bx by_ cx cy : Int) (h1 : Bd ax) (h2 : Bd ay) (h3 : Bd bx) (h4 : Bd by_) (h5 : Bd cx) (h6 : Bd cy) :
    Ok Tryz.prog 203 [.agg #[.int .i64 ax, .int .i64 ay], .agg #[.int .i64 bx, .int .i64 by_], .agg #[.int .i64 cx, .int .i64 cy]].toArray w fun r _ => r = .int .i64 (crossI ax ay bx by_ cx cy) := by
  unfold Bd at *
  have m1 := mul_bd (x := bx - ax) (y := cy - ay) (B := 2097152) (C := 2097152) (by omega) (by omega) (by omega) (by omega)
  have m2 := mul_bd (x := by_ - ay) (y := cx - ax) (B := 2097152) (C := 2097152) (by omega) (by omega) (by omega) (by omega)
  refine ok_enter Tryz.func203 rfl Tryz.ntmps203 rfl ?_
  focus (refine gc_seq ?_; refine gc_region ?_; refine gw_boxd (v := .agg _) rfl rfl (fun _ => ?_); refine gw_boxd (v := .agg _) rfl rfl (fun _ => ?_); refine gw_boxd (v := .agg _) rfl rfl (fun _ => ?_); refine gM rfl rfl (by conv => (lhs; whnf)) ?_; refine gN ?_; refine gF rfl rfl rfl ?_; apply gw_d; exact w_load_box rfl rfl rfl (.there .here) rfl; refine gF rfl rfl rfl ?_; apply gw_d; exact w_load_box rfl rfl rfl (.there (.there .here)) rfl; apply gw_d; exact det_ar rfl rfl rfl rfl rfl (by omega); refine gF rfl rfl rfl ?_; apply gw_d; exact w_load_box rfl rfl rfl .here rfl; refine gF rfl rfl rfl ?_; apply gw_d; exact w_load_box rfl rfl rfl (.there (.there .here)) rfl; apply gw_d; exact det_ar rfl rfl rfl rfl rfl (by omega); apply gw_d; exact det_ar rfl rfl rfl rfl rfl (by omega); refine gF rfl rfl rfl ?_; apply gw_d; exact w_load_box rfl rfl rfl (.there .here) rfl; refine gF rfl rfl rfl ?_; apply gw_d; exact w_load_box rfl rfl rfl (.there (.there .here)) rfl; apply gw_d; exact det_ar rfl rfl rfl rfl rfl (by omega); refine gF rfl rfl rfl ?_; apply gw_d; exact w_load_box rfl rfl rfl .here rfl; refine gF rfl rfl rfl ?_; apply gw_d; exact w_load_box rfl rfl rfl (.there (.there .here)) rfl; apply gw_d; exact det_ar rfl rfl rfl rfl rfl (by omega); apply gw_d; exact det_ar rfl rfl rfl rfl rfl (by omega); apply gw_d; exact det_ar rfl rfl rfl rfl rfl (by omega); refine gM rfl rfl (by conv => (lhs; whnf)) ?_; refine gO ?_; refine gc_ret ?_)
  refine gx_ret1 (v := .int _ _) rfl rfl (fun _ _ => ?_)
  simp only [crossI]
def onB (ax ay bx by_ px py : Int) : Bool := decide (crossI ax ay bx by_ px py = 0) && decide (min ax bx ≤ px) && decide (px ≤ max ax bx) && decide (min ay by_ ≤ py) && decide (py ≤ max ay by_)

set_option maxHeartbeats 400000 in
theorem on_ok (w : World) (ax ay bx by_ cx cy : Int) (h1 : Bd ax) (h2 : Bd ay) (h3 : Bd bx) (h4 : Bd by_) (h5 : Bd cx) (h6 : Bd cy) :
    Ok Tryz.prog 204 [.agg #[.int .i64 ax, .int .i64 ay], .agg #[.int .i64 bx, .int .i64 by_], .agg #[.int .i64 cx, .int .i64 cy]].toArray w fun r _ => r = .bool (onB ax ay bx by_ cx cy) := by
  refine ok_enter Tryz.func204 rfl Tryz.ntmps204 rfl ?_
  focus (refine gc_seq ?_; refine gc_region ?_; refine gw_boxd (v := .agg _) rfl rfl (fun _ => ?_); refine gw_boxd (v := .agg _) rfl rfl (fun _ => ?_); refine gw_boxd (v := .agg _) rfl rfl (fun _ => ?_); refine gM rfl rfl (by conv => (lhs; whnf)) ?_; refine gN ?_; apply gw_d; exact w_load_boxN rfl rfl rfl (.there (.there .here)) rfl; apply gw_d; exact w_load_boxN rfl rfl rfl (.there .here) rfl; apply gw_d; exact w_load_boxN rfl rfl rfl .here rfl; apply gw_d; exact w_call rfl rfl (fun w _ => cross_ok w _ _ _ _ _ _ h1 h2 h3 h4 h5 h6) rfl; refine gC rfl rfl rfl rfl rfl ?_; refine gM rfl rfl (by conv => (lhs; whnf)) ?_; refine gw_guard_dec rfl rfl (fun _ => ?_) (fun _ => ?_); refine gF rfl rfl rfl ?_; apply gw_d; exact w_load_box rfl rfl rfl (.there (.there .here)) rfl; refine gF rfl rfl rfl ?_; apply gw_d; exact w_load_box rfl rfl rfl (.there .here) rfl; apply gw_d; exact w_min rfl rfl rfl rfl; refine gF rfl rfl rfl ?_; apply gw_d; exact w_load_box rfl rfl rfl .here rfl; refine gC rfl rfl rfl rfl rfl ?_; apply gw_d; exact det_pick_t (v := .bool _) rfl rfl rfl rfl; refine gM rfl rfl (by conv => (lhs; whnf)) ?_; refine gw_guard_dec rfl rfl (fun _ => ?_) (fun _ => ?_); refine gF rfl rfl rfl ?_; apply gw_d; exact w_load_box rfl rfl rfl .here rfl; refine gF rfl rfl rfl ?_; apply gw_d; exact w_load_box rfl rfl rfl (.there (.there .here)) rfl; refine gF rfl rfl rfl ?_; apply gw_d; exact w_load_box rfl rfl rfl (.there .here) rfl; apply gw_d; exact w_max rfl rfl rfl rfl; refine gC rfl rfl rfl rfl rfl ?_; apply gw_d; exact det_pick_t (v := .bool _) rfl rfl rfl rfl; refine gM rfl rfl (by conv => (lhs; whnf)) ?_; refine gw_guard_dec rfl rfl (fun _ => ?_) (fun _ => ?_); refine gF rfl rfl rfl ?_; apply gw_d; exact w_load_box rfl rfl rfl (.there (.there .here)) rfl; refine gF rfl rfl rfl ?_; apply gw_d; exact w_load_box rfl rfl rfl (.there .here) rfl; apply gw_d; exact w_min rfl rfl rfl rfl; refine gF rfl rfl rfl ?_; apply gw_d; exact w_load_box rfl rfl rfl .here rfl; refine gC rfl rfl rfl rfl rfl ?_; apply gw_d; exact det_pick_t (v := .bool _) rfl rfl rfl rfl; refine gM rfl rfl (by conv => (lhs; whnf)) ?_; refine gw_guard_dec rfl rfl (fun _ => ?_) (fun _ => ?_); refine gF rfl rfl rfl ?_; apply gw_d; exact w_load_box rfl rfl rfl .here rfl; refine gF rfl rfl rfl ?_; apply gw_d; exact w_load_box rfl rfl rfl (.there (.there .here)) rfl; refine gF rfl rfl rfl ?_; apply gw_d; exact w_load_box rfl rfl rfl (.there .here) rfl; apply gw_d; exact w_max rfl rfl rfl rfl; refine gC rfl rfl rfl rfl rfl ?_; apply gw_d; exact det_pick_t (v := .bool _) rfl rfl rfl rfl; refine gM rfl rfl (by conv => (lhs; whnf)) ?_; refine gO ?_; refine gc_ret ?_; rotate_left; refine gU rfl ?_; refine gU rfl ?_; refine gU rfl ?_; refine gU rfl ?_; refine gU rfl ?_; refine gU rfl ?_; refine gU rfl ?_; refine gU rfl ?_; apply gw_d; exact det_pick_f (v := .bool _) rfl rfl rfl rfl; refine gM rfl rfl (by conv => (lhs; whnf)) ?_; refine gO ?_; refine gc_ret ?_; rotate_left; refine gU rfl ?_; refine gU rfl ?_; refine gU rfl ?_; refine gU rfl ?_; refine gU rfl ?_; refine gU rfl ?_; refine gU rfl ?_; refine gU rfl ?_; apply gw_d; exact det_pick_f (v := .bool _) rfl rfl rfl rfl; refine gM rfl rfl (by conv => (lhs; whnf)) ?_; refine gU rfl ?_; refine gU rfl ?_; refine gU rfl ?_; refine gU rfl ?_; refine gU rfl ?_; refine gU rfl ?_; refine gU rfl ?_; refine gU rfl ?_; apply gw_d; exact det_pick_f (v := .bool _) rfl rfl rfl rfl; refine gM rfl rfl (by conv => (lhs; whnf)) ?_; refine gO ?_; refine gc_ret ?_; rotate_left; refine gU rfl ?_; refine gU rfl ?_; refine gU rfl ?_; refine gU rfl ?_; refine gU rfl ?_; refine gU rfl ?_; refine gU rfl ?_; refine gU rfl ?_; apply gw_d; exact det_pick_f (v := .bool _) rfl rfl rfl rfl; refine gM rfl rfl (by conv => (lhs; whnf)) ?_; refine gU rfl ?_; refine gU rfl ?_; refine gU rfl ?_; refine gU rfl ?_; refine gU rfl ?_; refine gU rfl ?_; refine gU rfl ?_; refine gU rfl ?_; apply gw_d; exact det_pick_f (v := .bool _) rfl rfl rfl rfl; refine gM rfl rfl (by conv => (lhs; whnf)) ?_; refine gU rfl ?_; refine gU rfl ?_; refine gU rfl ?_; refine gU rfl ?_; refine gU rfl ?_; refine gU rfl ?_; refine gU rfl ?_; refine gU rfl ?_; apply gw_d; exact det_pick_f (v := .bool _) rfl rfl rfl rfl; refine gM rfl rfl (by conv => (lhs; whnf)) ?_; refine gO ?_; refine gc_ret ?_; rotate_left; refine gU rfl ?_; refine gU rfl ?_; refine gU rfl ?_; refine gU rfl ?_; refine gU rfl ?_; refine gU rfl ?_; refine gU rfl ?_; refine gU rfl ?_; apply gw_d; exact det_pick_f (v := .bool _) rfl rfl rfl rfl; refine gM rfl rfl (by conv => (lhs; whnf)) ?_; refine gU rfl ?_; refine gU rfl ?_; refine gU rfl ?_; refine gU rfl ?_; refine gU rfl ?_; refine gU rfl ?_; refine gU rfl ?_; refine gU rfl ?_; apply gw_d; exact det_pick_f (v := .bool _) rfl rfl rfl rfl; refine gM rfl rfl (by conv => (lhs; whnf)) ?_; refine gU rfl ?_; refine gU rfl ?_; refine gU rfl ?_; refine gU rfl ?_; refine gU rfl ?_; refine gU rfl ?_; refine gU rfl ?_; refine gU rfl ?_; apply gw_d; exact det_pick_f (v := .bool _) rfl rfl rfl rfl; refine gM rfl rfl (by conv => (lhs; whnf)) ?_; refine gU rfl ?_; refine gU rfl ?_; refine gU rfl ?_; refine gU rfl ?_; refine gU rfl ?_; refine gU rfl ?_; refine gU rfl ?_; refine gU rfl ?_; apply gw_d; exact det_pick_f (v := .bool _) rfl rfl rfl rfl; refine gM rfl rfl (by conv => (lhs; whnf)) ?_; refine gO ?_; refine gc_ret ?_; rotate_left)
  all_goals (refine gx_ret1 (v := .bool _) rfl rfl (fun _ _ => ?_); simp [onB, *])

theorem isNaN_ok (w : World) (x : Int) : Ok Tryz.prog 71 [.int .i64 x].toArray w fun r _ => r = .bool false := by
  refine ok_enter Tryz.func71 rfl Tryz.ntmps71 rfl ?_
  focus (refine gc_seq ?_; refine gc_region ?_; refine gM rfl rfl (by conv => (lhs; whnf)) ?_; refine gN ?_; refine gM rfl rfl (by conv => (lhs; whnf)) ?_; refine gM rfl rfl (by conv => (lhs; whnf)) ?_; refine gC rfl rfl rfl rfl rfl ?_; refine gM rfl rfl (by conv => (lhs; whnf)) ?_; refine gO ?_; refine gc_ret ?_)
  refine gx_ret1 (v := .bool _) rfl rfl (fun _ _ => ?_)
  simp
def signI (x y : Int) : Int := if x < y then -1 else if x > y then 1 else 0
theorem compare_ok (w : World) (x y : Int) : Ok Tryz.prog 42 [.int .i64 x, .int .i64 y].toArray w fun r _ => r = .int .i64 (signI x y) := by
  refine ok_enter Tryz.func42 rfl Tryz.ntmps42 rfl ?_
  focus (refine gc_seq ?_; refine gc_region ?_; refine gM rfl rfl (by conv => (lhs; whnf)) ?_; refine gN ?_; refine gM rfl rfl (by conv => (lhs; whnf)) ?_; apply gw_d; exact w_call rfl rfl (fun w _ => isNaN_ok w _) rfl; refine gM rfl rfl (by conv => (lhs; whnf)) ?_; refine gN ?_; refine gM rfl rfl (by conv => (lhs; whnf)) ?_; apply gw_d; exact w_call rfl rfl (fun w _ => isNaN_ok w _) rfl; refine gM rfl rfl (by conv => (lhs; whnf)) ?_; refine gO ?_; refine gc_seq ?_; refine gc_seq ?_; refine gc_region ?_; refine gM rfl rfl (by conv => (lhs; whnf)) ?_; refine gO ?_; refine gc_if_false rfl ?_; refine gc_skip ?_; refine gx_next ?_; refine gc_seq ?_; refine gc_seq ?_; refine gc_region ?_; refine gM rfl rfl (by conv => (lhs; whnf)) ?_; refine gO ?_; refine gc_if_false rfl ?_; refine gc_skip ?_; refine gx_next ?_; refine gc_seq ?_; refine gc_seq ?_; refine gc_region ?_; refine gM rfl rfl (by conv => (lhs; whnf)) ?_; refine gM rfl rfl (by conv => (lhs; whnf)) ?_; refine gC rfl rfl rfl rfl rfl ?_; refine gO ?_; refine gc_if_dec rfl (fun _ => ?_) (fun _ => ?_); refine gc_seq ?_; refine gc_region ?_; refine gM rfl rfl (by conv => (lhs; whnf)) ?_; refine gO ?_; refine gc_ret ?_; refine gx_then_ret ?_; rotate_left; refine gc_skip ?_; refine gx_next ?_; refine gc_seq ?_; refine gc_seq ?_; refine gc_region ?_; refine gM rfl rfl (by conv => (lhs; whnf)) ?_; refine gM rfl rfl (by conv => (lhs; whnf)) ?_; refine gC rfl rfl rfl rfl rfl ?_; refine gO ?_; refine gc_if_dec rfl (fun _ => ?_) (fun _ => ?_); refine gc_seq ?_; refine gc_region ?_; refine gM rfl rfl (by conv => (lhs; whnf)) ?_; refine gO ?_; refine gc_ret ?_; refine gx_then_ret ?_; rotate_left; refine gc_skip ?_; refine gx_next ?_; refine gc_seq ?_; refine gc_region ?_; refine gM rfl rfl (by conv => (lhs; whnf)) ?_; refine gO ?_; refine gc_ret ?_; rotate_left)
  all_goals (refine gx_ret1 (v := .int _ _) rfl rfl (fun _ _ => ?_); simp [signI, *])

def partB (ax ay bx by_ cx cy dx dy : Int) : Bool := decide (signI (crossI ax ay bx by_ cx cy) 0 * signI (crossI ax ay bx by_ dx dy) 0 < 0)
theorem sign_bd (x y : Int) : -1 ≤ signI x y ∧ signI x y ≤ 1 := by unfold signI; split <;> (try split) <;> omega

set_option maxHeartbeats 400000 in
theorem parted_ok (w : World) (ax ay bx by_ cx cy dx dy : Int) (h1 : Bd ax) (h2 : Bd ay) (h3 : Bd bx) (h4 : Bd by_) (h5 : Bd cx) (h6 : Bd cy) (h7 : Bd dx) (h8 : Bd dy) :
    Ok Tryz.prog 205 [.agg #[.int .i64 ax, .int .i64 ay], .agg #[.int .i64 bx, .int .i64 by_], .agg #[.int .i64 cx, .int .i64 cy], .agg #[.int .i64 dx, .int .i64 dy]].toArray w fun r _ => r = .bool (partB ax ay bx by_ cx cy dx dy) := by
  have s1 := sign_bd (crossI ax ay bx by_ cx cy) 0
  have s2 := sign_bd (crossI ax ay bx by_ dx dy) 0
  have m := mul_bd (B := 1) (C := 1) s1.1 s1.2 s2.1 s2.2
  refine ok_enter Tryz.func205 rfl Tryz.ntmps205 rfl ?_
  focus (refine gc_seq ?_; refine gc_region ?_; refine gw_boxd (v := .agg _) rfl rfl (fun _ => ?_); refine gw_boxd (v := .agg _) rfl rfl (fun _ => ?_); refine gw_boxd (v := .agg _) rfl rfl (fun _ => ?_); refine gw_boxd (v := .agg _) rfl rfl (fun _ => ?_); refine gM rfl rfl (by conv => (lhs; whnf)) ?_; refine gO ?_; refine gc_seq ?_)
  refine gc_draw 12 (by kernel_rfl) (by kernel_rfl) ?_
  focus (apply gd_d; exact w_load_boxN rfl rfl rfl (.there (.there (.there .here))) rfl; apply gd_d; exact w_load_boxN rfl rfl rfl (.there (.there .here)) rfl; apply gd_d; exact w_load_boxN rfl rfl rfl (.there .here) rfl; apply gd_d; exact w_call rfl rfl (fun w _ => cross_ok w _ _ _ _ _ _ h1 h2 h3 h4 h5 h6) rfl; apply gd_d; exact w_call rfl rfl (fun w _ => compare_ok w _ _) rfl; apply gd_d; exact w_load_boxN rfl rfl rfl (.there (.there (.there .here))) rfl; apply gd_d; exact w_load_boxN rfl rfl rfl (.there (.there .here)) rfl; apply gd_d; exact w_load_boxN rfl rfl rfl .here rfl; apply gd_d; exact w_call rfl rfl (fun w _ => cross_ok w _ _ _ _ _ _ h1 h2 h3 h4 h7 h8) rfl; apply gd_d; exact w_call rfl rfl (fun w _ => compare_ok w _ _) rfl; apply gd_d; exact det_ar rfl rfl rfl rfl rfl (by omega); apply gd_d; exact det_cmp rfl rfl rfl rfl rfl; refine gd_nil ?_; refine gM rfl rfl (by conv => (lhs; whnf)) ?_; refine gO ?_; refine gc_ret ?_)
  refine gx_ret1 (v := .bool _) rfl rfl (fun _ _ => ?_)
  simp only [partB]

def foldB (ax ay bx by_ cx cy : Int) : Bool := decide (crossI ax ay bx by_ cx cy = 0) && decide ((ax - bx) * (cx - bx) + (ay - by_) * (cy - by_) > 0)
set_option maxHeartbeats 400000 in
theorem folded_ok (w : World) (ax ay bx by_ cx cy : Int) (h1 : Bd ax) (h2 : Bd ay) (h3 : Bd bx) (h4 : Bd by_) (h5 : Bd cx) (h6 : Bd cy) :
    Ok Tryz.prog 187 [.agg #[.int .i64 ax, .int .i64 ay], .agg #[.int .i64 bx, .int .i64 by_], .agg #[.int .i64 cx, .int .i64 cy]].toArray w fun r _ => r = .bool (foldB ax ay bx by_ cx cy) := by
  have b1 := h1; have b2 := h2; have b3 := h3; have b4 := h4; have b5 := h5; have b6 := h6
  unfold Bd at b1 b2 b3 b4 b5 b6
  have m1 := mul_bd (x := ax - bx) (y := cx - bx) (B := 2097152) (C := 2097152) (by omega) (by omega) (by omega) (by omega)
  have m2 := mul_bd (x := ay - by_) (y := cy - by_) (B := 2097152) (C := 2097152) (by omega) (by omega) (by omega) (by omega)
  refine ok_enter Tryz.func187 rfl Tryz.ntmps187 rfl ?_
  focus (refine gc_seq ?_; refine gc_region ?_; refine gw_boxd (v := .agg _) rfl rfl (fun _ => ?_); refine gw_boxd (v := .agg _) rfl rfl (fun _ => ?_); refine gw_boxd (v := .agg _) rfl rfl (fun _ => ?_); refine gM rfl rfl (by conv => (lhs; whnf)) ?_; refine gN ?_; apply gw_d; exact w_load_boxN rfl rfl rfl (.there (.there .here)) rfl; apply gw_d; exact w_load_boxN rfl rfl rfl (.there .here) rfl; apply gw_d; exact w_load_boxN rfl rfl rfl .here rfl; apply gw_d; exact w_call rfl rfl (fun w _ => cross_ok w _ _ _ _ _ _ h1 h2 h3 h4 h5 h6) rfl; refine gC rfl rfl rfl rfl rfl ?_; refine gM rfl rfl (by conv => (lhs; whnf)) ?_; refine gw_guard_dec rfl rfl (fun _ => ?_) (fun _ => ?_); refine gF rfl rfl rfl ?_; apply gw_d; exact w_load_box rfl rfl rfl (.there (.there .here)) rfl; refine gF rfl rfl rfl ?_; apply gw_d; exact w_load_box rfl rfl rfl (.there .here) rfl; apply gw_d; exact det_ar rfl rfl rfl rfl rfl (by omega); refine gF rfl rfl rfl ?_; apply gw_d; exact w_load_box rfl rfl rfl .here rfl; refine gF rfl rfl rfl ?_; apply gw_d; exact w_load_box rfl rfl rfl (.there .here) rfl; apply gw_d; exact det_ar rfl rfl rfl rfl rfl (by omega); apply gw_d; exact det_ar rfl rfl rfl rfl rfl (by omega); refine gF rfl rfl rfl ?_; apply gw_d; exact w_load_box rfl rfl rfl (.there (.there .here)) rfl; refine gF rfl rfl rfl ?_; apply gw_d; exact w_load_box rfl rfl rfl (.there .here) rfl; apply gw_d; exact det_ar rfl rfl rfl rfl rfl (by omega); refine gF rfl rfl rfl ?_; apply gw_d; exact w_load_box rfl rfl rfl .here rfl; refine gF rfl rfl rfl ?_; apply gw_d; exact w_load_box rfl rfl rfl (.there .here) rfl; apply gw_d; exact det_ar rfl rfl rfl rfl rfl (by omega); apply gw_d; exact det_ar rfl rfl rfl rfl rfl (by omega); apply gw_d; exact det_ar rfl rfl rfl rfl rfl (by omega); refine gC rfl rfl rfl rfl rfl ?_; apply gw_d; exact det_pick_t (v := .bool _) rfl rfl rfl rfl; refine gM rfl rfl (by conv => (lhs; whnf)) ?_; refine gO ?_; refine gc_ret ?_; rotate_left; refine gU rfl ?_; refine gU rfl ?_; refine gU rfl ?_; refine gU rfl ?_; refine gU rfl ?_; refine gU rfl ?_; refine gU rfl ?_; refine gU rfl ?_; refine gU rfl ?_; refine gU rfl ?_; refine gU rfl ?_; refine gU rfl ?_; refine gU rfl ?_; refine gU rfl ?_; refine gU rfl ?_; refine gU rfl ?_; refine gU rfl ?_; refine gU rfl ?_; refine gU rfl ?_; refine gU rfl ?_; refine gU rfl ?_; refine gU rfl ?_; refine gU rfl ?_; refine gU rfl ?_; apply gw_d; exact det_pick_f (v := .bool _) rfl rfl rfl rfl; refine gM rfl rfl (by conv => (lhs; whnf)) ?_; refine gO ?_; refine gc_ret ?_; rotate_left)
  all_goals (refine gx_ret1 (v := .bool _) rfl rfl (fun _ _ => ?_); simp [foldB, *])

def meetB (ax ay bx by_ cx cy dx dy : Int) : Bool := onB ax ay bx by_ cx cy || onB ax ay bx by_ dx dy || onB cx cy dx dy ax ay || onB cx cy dx dy bx by_ || (partB ax ay bx by_ cx cy dx dy && partB cx cy dx dy ax ay bx by_)
set_option maxHeartbeats 400000 in
theorem meet_ok (w : World) (ax ay bx by_ cx cy dx dy : Int) (h1 : Bd ax) (h2 : Bd ay) (h3 : Bd bx) (h4 : Bd by_) (h5 : Bd cx) (h6 : Bd cy) (h7 : Bd dx) (h8 : Bd dy) :
    Ok Tryz.prog 188 [.agg #[.int .i64 ax, .int .i64 ay], .agg #[.int .i64 bx, .int .i64 by_], .agg #[.int .i64 cx, .int .i64 cy], .agg #[.int .i64 dx, .int .i64 dy]].toArray w fun r _ => r = .bool (meetB ax ay bx by_ cx cy dx dy) := by
  refine ok_enter Tryz.func188 rfl Tryz.ntmps188 rfl ?_
  focus (refine gc_seq ?_; refine gc_region ?_; refine gw_boxd (v := .agg _) rfl rfl (fun _ => ?_); refine gw_boxd (v := .agg _) rfl rfl (fun _ => ?_); refine gw_boxd (v := .agg _) rfl rfl (fun _ => ?_); refine gw_boxd (v := .agg _) rfl rfl (fun _ => ?_); refine gM rfl rfl (by conv => (lhs; whnf)) ?_; refine gN ?_; apply gw_d; exact w_load_boxN rfl rfl rfl (.there (.there (.there .here))) rfl; apply gw_d; exact w_load_boxN rfl rfl rfl (.there (.there .here)) rfl; apply gw_d; exact w_load_boxN rfl rfl rfl (.there .here) rfl; apply gw_d; exact w_call rfl rfl (fun w _ => on_ok w _ _ _ _ _ _ (by assumption) (by assumption) (by assumption) (by assumption) (by assumption) (by assumption)) rfl; refine gM rfl rfl (by conv => (lhs; whnf)) ?_; refine gw_guard rfl rfl (fun _ => ?_) (fun _ => ?_); refine gU rfl ?_; refine gU rfl ?_; refine gU rfl ?_; refine gU rfl ?_; apply gw_d; exact det_pick_t (v := .bool _) rfl rfl rfl rfl; refine gM rfl rfl (by conv => (lhs; whnf)) ?_; refine gU rfl ?_; refine gU rfl ?_; refine gU rfl ?_; refine gU rfl ?_; apply gw_d; exact det_pick_t (v := .bool _) rfl rfl rfl rfl; refine gM rfl rfl (by conv => (lhs; whnf)) ?_; refine gU rfl ?_; refine gU rfl ?_; refine gU rfl ?_; refine gU rfl ?_; apply gw_d; exact det_pick_t (v := .bool _) rfl rfl rfl rfl; refine gM rfl rfl (by conv => (lhs; whnf)) ?_; refine gU rfl ?_; refine gU rfl ?_; refine gU rfl ?_; refine gU rfl ?_; refine gU rfl ?_; refine gU rfl ?_; refine gU rfl ?_; refine gU rfl ?_; refine gU rfl ?_; refine gU rfl ?_; refine gU rfl ?_; refine gU rfl ?_; apply gw_d; exact det_pick_t (v := .bool _) rfl rfl rfl rfl; refine gM rfl rfl (by conv => (lhs; whnf)) ?_; refine gO ?_; refine gc_ret ?_; rotate_left; apply gw_d; exact w_load_boxN rfl rfl rfl (.there (.there (.there .here))) rfl; apply gw_d; exact w_load_boxN rfl rfl rfl (.there (.there .here)) rfl; apply gw_d; exact w_load_boxN rfl rfl rfl .here rfl; apply gw_d; exact w_call rfl rfl (fun w _ => on_ok w _ _ _ _ _ _ (by assumption) (by assumption) (by assumption) (by assumption) (by assumption) (by assumption)) rfl; apply gw_d; exact det_pick_f (v := .bool _) rfl rfl rfl rfl; refine gM rfl rfl (by conv => (lhs; whnf)) ?_; refine gw_guard rfl rfl (fun _ => ?_) (fun _ => ?_); refine gU rfl ?_; refine gU rfl ?_; refine gU rfl ?_; refine gU rfl ?_; apply gw_d; exact det_pick_t (v := .bool _) rfl rfl rfl rfl; refine gM rfl rfl (by conv => (lhs; whnf)) ?_; refine gU rfl ?_; refine gU rfl ?_; refine gU rfl ?_; refine gU rfl ?_; apply gw_d; exact det_pick_t (v := .bool _) rfl rfl rfl rfl; refine gM rfl rfl (by conv => (lhs; whnf)) ?_; refine gU rfl ?_; refine gU rfl ?_; refine gU rfl ?_; refine gU rfl ?_; refine gU rfl ?_; refine gU rfl ?_; refine gU rfl ?_; refine gU rfl ?_; refine gU rfl ?_; refine gU rfl ?_; refine gU rfl ?_; refine gU rfl ?_; apply gw_d; exact det_pick_t (v := .bool _) rfl rfl rfl rfl; refine gM rfl rfl (by conv => (lhs; whnf)) ?_; refine gO ?_; refine gc_ret ?_; rotate_left; apply gw_d; exact w_load_boxN rfl rfl rfl (.there .here) rfl; apply gw_d; exact w_load_boxN rfl rfl rfl .here rfl; apply gw_d; exact w_load_boxN rfl rfl rfl (.there (.there (.there .here))) rfl; apply gw_d; exact w_call rfl rfl (fun w _ => on_ok w _ _ _ _ _ _ (by assumption) (by assumption) (by assumption) (by assumption) (by assumption) (by assumption)) rfl; apply gw_d; exact det_pick_f (v := .bool _) rfl rfl rfl rfl; refine gM rfl rfl (by conv => (lhs; whnf)) ?_; refine gw_guard rfl rfl (fun _ => ?_) (fun _ => ?_); refine gU rfl ?_; refine gU rfl ?_; refine gU rfl ?_; refine gU rfl ?_; apply gw_d; exact det_pick_t (v := .bool _) rfl rfl rfl rfl; refine gM rfl rfl (by conv => (lhs; whnf)) ?_; refine gU rfl ?_; refine gU rfl ?_; refine gU rfl ?_; refine gU rfl ?_; refine gU rfl ?_; refine gU rfl ?_; refine gU rfl ?_; refine gU rfl ?_; refine gU rfl ?_; refine gU rfl ?_; refine gU rfl ?_; refine gU rfl ?_; apply gw_d; exact det_pick_t (v := .bool _) rfl rfl rfl rfl; refine gM rfl rfl (by conv => (lhs; whnf)) ?_; refine gO ?_; refine gc_ret ?_; rotate_left; apply gw_d; exact w_load_boxN rfl rfl rfl (.there .here) rfl; apply gw_d; exact w_load_boxN rfl rfl rfl .here rfl; apply gw_d; exact w_load_boxN rfl rfl rfl (.there (.there .here)) rfl; apply gw_d; exact w_call rfl rfl (fun w _ => on_ok w _ _ _ _ _ _ (by assumption) (by assumption) (by assumption) (by assumption) (by assumption) (by assumption)) rfl; apply gw_d; exact det_pick_f (v := .bool _) rfl rfl rfl rfl; refine gM rfl rfl (by conv => (lhs; whnf)) ?_; refine gw_guard rfl rfl (fun _ => ?_) (fun _ => ?_); refine gU rfl ?_; refine gU rfl ?_; refine gU rfl ?_; refine gU rfl ?_; refine gU rfl ?_; refine gU rfl ?_; refine gU rfl ?_; refine gU rfl ?_; refine gU rfl ?_; refine gU rfl ?_; refine gU rfl ?_; refine gU rfl ?_; apply gw_d; exact det_pick_t (v := .bool _) rfl rfl rfl rfl; refine gM rfl rfl (by conv => (lhs; whnf)) ?_; refine gO ?_; refine gc_ret ?_; rotate_left; apply gw_d; exact w_load_boxN rfl rfl rfl (.there (.there (.there .here))) rfl; apply gw_d; exact w_load_boxN rfl rfl rfl (.there (.there .here)) rfl; apply gw_d; exact w_load_boxN rfl rfl rfl (.there .here) rfl; apply gw_d; exact w_load_boxN rfl rfl rfl .here rfl; apply gw_d; exact w_call rfl rfl (fun w _ => parted_ok w _ _ _ _ _ _ _ _ (by assumption) (by assumption) (by assumption) (by assumption) (by assumption) (by assumption) (by assumption) (by assumption)) rfl; refine gM rfl rfl (by conv => (lhs; whnf)) ?_; refine gw_guard_dec rfl rfl (fun _ => ?_) (fun _ => ?_); apply gw_d; exact w_load_boxN rfl rfl rfl (.there .here) rfl; apply gw_d; exact w_load_boxN rfl rfl rfl .here rfl; apply gw_d; exact w_load_boxN rfl rfl rfl (.there (.there (.there .here))) rfl; apply gw_d; exact w_load_boxN rfl rfl rfl (.there (.there .here)) rfl; apply gw_d; exact w_call rfl rfl (fun w _ => parted_ok w _ _ _ _ _ _ _ _ (by assumption) (by assumption) (by assumption) (by assumption) (by assumption) (by assumption) (by assumption) (by assumption)) rfl; apply gw_d; exact det_pick_t (v := .bool _) rfl rfl rfl rfl; apply gw_d; exact det_pick_f (v := .bool _) rfl rfl rfl rfl; refine gM rfl rfl (by conv => (lhs; whnf)) ?_; refine gO ?_; refine gc_ret ?_; rotate_left; refine gU rfl ?_; refine gU rfl ?_; refine gU rfl ?_; refine gU rfl ?_; refine gU rfl ?_; apply gw_d; exact det_pick_f (v := .bool _) rfl rfl rfl rfl; apply gw_d; exact det_pick_f (v := .bool _) rfl rfl rfl rfl; refine gM rfl rfl (by conv => (lhs; whnf)) ?_; refine gO ?_; refine gc_ret ?_; rotate_left)
  all_goals (refine gx_ret1 (v := .bool _) rfl rfl (fun _ _ => ?_); simp [meetB, partB, *])
end Go.Proofs.YtckhibfbdnoigaaGreat

/- Contracts: lists of spots: search, polylines, polygons. -/
namespace Go.Proofs.YtckhibfbdnoigaaGreat
open Go.RowKit
set_option maxRecDepth 100000

/-! ### Search -/
section
variable {α : Type}
def idxI (p : α → Bool) (l : List α) : Int := (l.findIdx? p).elim (-1) fun i => (i : Int)
theorem idx_found {p : α → Bool} {l : List α} {k : Nat} (hk : k < l.length) (h : (l.take k).any p = false) (hp : p l[k] = true) : idxI p l = k := by
  have : l.findIdx? p = some k := by
    rw [List.findIdx?_eq_some_iff_getElem]
    refine ⟨hk, hp, fun j hj => ?_⟩
    have h1 := List.any_eq_false.1 h l[j] (by
      rw [List.mem_take_iff_getElem]
      exact ⟨j, by omega, rfl⟩)
    simpa using h1
  unfold idxI
  rw [this]
  rfl
theorem idx_none {p : α → Bool} {l : List α} (h : l.any p = false) : idxI p l = -1 := by
  have : l.findIdx? p = none := by
    rw [List.findIdx?_eq_none_iff]
    intro x hx
    simpa using List.any_eq_false.1 h x hx
  unfold idxI
  rw [this]
  rfl
theorem idx_nonneg (p : α → Bool) (l : List α) : (0 ≤ idxI p l) ↔ l.any p = true := by
  unfold idxI
  cases h : l.findIdx? p with
  | none =>
    rw [List.findIdx?_eq_none_iff] at h
    simp only [Option.elim]
    constructor
    · intro h'; omega
    · intro h'
      obtain ⟨x, hx, hp⟩ := List.any_eq_true.1 h'
      rw [h x hx] at hp
      cases hp
  | some i =>
    simp only [Option.elim]
    obtain ⟨hi, hp, _⟩ := List.findIdx?_eq_some_iff_getElem.1 h
    constructor
    · intro _; exact List.any_eq_true.2 ⟨_, List.getElem_mem hi, hp⟩
    · intro _; omega
theorem any_snoc {p : α → Bool} {l : List α} {k : Nat} (hk : k < l.length) (h : (l.take k).any p = false) (hp : p l[k] = false) : (l.take (k + 1)).any p = false := by
  rw [List.take_succ_eq_append_getElem hk, List.any_append, h]
  simp [hp]
end

def outP (p : Int × Int) : Bool := outB p.1 p.2

theorem pl_outside_ok (w : World) (x y : Int) : Ok Tryz.prog 159 [.agg #[.int .i64 x, .int .i64 y]].toArray w fun r _ => r = .bool (outB x y) := by
  refine ok_enter Tryz.func159 rfl Tryz.ntmps159 rfl ?_
  focus (refine gc_seq ?_; refine gc_region ?_; refine gw_boxd (v := .agg _) rfl rfl (fun _ => ?_); refine gM rfl rfl (by conv => (lhs; whnf)) ?_; refine gN ?_; refine gF rfl rfl rfl ?_; apply gw_d; exact w_load_box rfl rfl rfl .here rfl; refine gC rfl rfl rfl rfl rfl ?_; refine gM rfl rfl (by conv => (lhs; whnf)) ?_; refine gw_guard_dec rfl rfl (fun _ => ?_) (fun _ => ?_); refine gU rfl ?_; refine gU rfl ?_; refine gU rfl ?_; apply gw_d; exact det_pick_t (v := .bool _) rfl rfl rfl rfl; refine gM rfl rfl (by conv => (lhs; whnf)) ?_; refine gU rfl ?_; refine gU rfl ?_; refine gU rfl ?_; apply gw_d; exact det_pick_t (v := .bool _) rfl rfl rfl rfl; refine gM rfl rfl (by conv => (lhs; whnf)) ?_; refine gU rfl ?_; refine gU rfl ?_; refine gU rfl ?_; apply gw_d; exact det_pick_t (v := .bool _) rfl rfl rfl rfl; refine gM rfl rfl (by conv => (lhs; whnf)) ?_; refine gO ?_; refine gc_ret ?_; rotate_left; refine gF rfl rfl rfl ?_; apply gw_d; exact w_load_box rfl rfl rfl .here rfl; refine gC rfl rfl rfl rfl rfl ?_; apply gw_d; exact det_pick_f (v := .bool _) rfl rfl rfl rfl; refine gM rfl rfl (by conv => (lhs; whnf)) ?_; refine gw_guard_dec rfl rfl (fun _ => ?_) (fun _ => ?_); refine gU rfl ?_; refine gU rfl ?_; refine gU rfl ?_; apply gw_d; exact det_pick_t (v := .bool _) rfl rfl rfl rfl; refine gM rfl rfl (by conv => (lhs; whnf)) ?_; refine gU rfl ?_; refine gU rfl ?_; refine gU rfl ?_; apply gw_d; exact det_pick_t (v := .bool _) rfl rfl rfl rfl; refine gM rfl rfl (by conv => (lhs; whnf)) ?_; refine gO ?_; refine gc_ret ?_; rotate_left; refine gF rfl rfl rfl ?_; apply gw_d; exact w_load_box rfl rfl rfl .here rfl; refine gC rfl rfl rfl rfl rfl ?_; apply gw_d; exact det_pick_f (v := .bool _) rfl rfl rfl rfl; refine gM rfl rfl (by conv => (lhs; whnf)) ?_; refine gw_guard_dec rfl rfl (fun _ => ?_) (fun _ => ?_); refine gU rfl ?_; refine gU rfl ?_; refine gU rfl ?_; apply gw_d; exact det_pick_t (v := .bool _) rfl rfl rfl rfl; refine gM rfl rfl (by conv => (lhs; whnf)) ?_; refine gO ?_; refine gc_ret ?_; rotate_left; refine gF rfl rfl rfl ?_; apply gw_d; exact w_load_box rfl rfl rfl .here rfl; refine gC rfl rfl rfl rfl rfl ?_; apply gw_d; exact det_pick_f (v := .bool _) rfl rfl rfl rfl; refine gM rfl rfl (by conv => (lhs; whnf)) ?_; refine gO ?_; refine gc_ret ?_; rotate_left)
  all_goals (refine gx_ret1 (v := .bool _) rfl rfl (fun _ _ => ?_); simp [outB, *])

set_option maxHeartbeats 1000000 in
theorem indexFunc_ok (f : Nat) [CCall Tryz.prog f] (hf : ∀ w x y, Ok Tryz.prog f [.agg #[.int .i64 x, .int .i64 y]].toArray w fun r _ => r = .bool (outB x y)) (w : World) (v : Value) (l : List (Int × Int)) (hl : Sl rSpot w w.heap.size v l) :
    Ok Tryz.prog 185 [v, .func (.func f) #[] #[]].toArray w fun r _ => r = .int .i64 (idxI outP l) := by
  obtain ⟨A, c, rfl, hc, hm, hcell⟩ := hl.spot
  refine ok_enter Tryz.func185 rfl Tryz.ntmps185 rfl ?_
  focus (refine gc_seq ?_; refine gc_region ?_; refine gM rfl rfl (by conv => (lhs; whnf)) ?_; refine gO ?_; refine gc_seq ?_; refine gc_seq ?_; refine gc_region ?_; refine gM rfl rfl (by conv => (lhs; whnf)) ?_; refine gL rfl rfl rfl ?_; refine gM rfl rfl (by conv => (lhs; whnf)) ?_; refine gO ?_; refine gc_block ?_)
  refine gc_loop (σ := Nat) [9, 10, 5, 11, 12, 13, 14, 15, 16, 17, 4, 18, 8] (fun k => [(8, .int .i64 k)]) (fun _ => []) (fun k => k ≤ l.length ∧ (l.take k).any outP = false) (fun k => l.length - k) 0 ⟨Nat.zero_le _, rfl⟩ ⟨rfl, trivial⟩ .nil ?_
  rintro k base ⟨hk, hI⟩
  focus (refine gc_seq ?_; refine gc_region ?_; refine gC rfl rfl rfl rfl rfl ?_; refine gO ?_; refine gc_seq ?_)
  refine gc_if_dec rfl (fun h => ?_) (fun h => ?_)
  · obtain ⟨ad, rfl, hb, hce, hi⟩ := hcell k (by omega)
    have hlt : k < l.length := by omega
    focus (refine gc_skip ?_; refine gx_next ?_; refine gc_seq ?_; refine gc_block ?_; refine gc_seq ?_; refine gc_region ?_; refine gM rfl rfl (by conv => (lhs; whnf)) ?_; refine gM rfl rfl (by conv => (lhs; whnf)) ?_; refine gN ?_; refine gM rfl rfl (by conv => (lhs; whnf)) ?_; refine gM rfl rfl (by conv => (lhs; whnf)) ?_; refine gM rfl rfl (by conv => (lhs; whnf)) ?_; apply gw_d; exact w_index rfl rfl rfl rfl (by with_reducible exact rfl) (by omega); apply gw_d; exact w_load_elem rfl rfl rfl (by assumption) (by assumption) (by rfl); apply gw_d; exact w_callv rfl rfl rfl (fun w _ => hf w _ _) rfl; refine gO ?_; refine gc_if rfl (fun _ => ?_) (fun _ => ?_); refine gc_seq ?_; refine gc_region ?_; refine gM rfl rfl (by conv => (lhs; whnf)) ?_; refine gM rfl rfl (by conv => (lhs; whnf)) ?_; refine gO ?_; refine gc_ret ?_; refine gx_block_ret ?_; refine gx_then_ret ?_; refine gx_then_ret ?_; refine gx_block_ret ?_; refine gx_then_ret ?_; rotate_left; refine gc_skip ?_; refine gx_block ?_; refine gx_next ?_; refine gc_region ?_; apply gw_d; exact det_ar rfl rfl rfl rfl rfl (by omega); refine gM rfl rfl (by conv => (lhs; whnf)) ?_; refine gw_nil ?_; rotate_left)
    · refine gx_ret1 (v := .int _ _) rfl rfl (fun _ _ => ?_)
      rw [idx_found hlt hI ‹_›]
    · exact gx_round (k + 1) ⟨by omega, any_snoc hlt hI ‹_›⟩ (by omega) (by repeat (first | exact Keeps.refl | refine Keeps.upd rfl ?_ | refine Keeps.sets rfl ?_ | refine Keeps.havoc rfl ?_)) ⟨rfl, trivial⟩ .nil
  · focus (refine gc_exit ?_; refine gx_then_exit ?_; refine gx_then_exit ?_; refine gx_block_exit ?_; refine gx_next ?_; refine gc_seq ?_; refine gc_region ?_; refine gM rfl rfl (by conv => (lhs; whnf)) ?_; refine gO ?_; refine gc_ret ?_)
    refine gx_ret1 (v := .int _ _) rfl rfl (fun _ _ => ?_)
    rw [List.take_of_length_le (by omega)] at hI
    rw [idx_none hI]

theorem containsFunc_ok (f : Nat) [CCall Tryz.prog f] (hf : ∀ w x y, Ok Tryz.prog f [.agg #[.int .i64 x, .int .i64 y]].toArray w fun r _ => r = .bool (outB x y)) (w : World) (v : Value) (l : List (Int × Int)) (hl : Sl rSpot w w.heap.size v l) :
    Ok Tryz.prog 158 [v, .func (.func f) #[] #[]].toArray w fun r _ => r = .bool (l.any outP) := by
  obtain ⟨A, c, rfl, _⟩ := hl.spot
  refine ok_enter Tryz.func158 rfl Tryz.ntmps158 rfl ?_
  focus (refine gc_seq ?_; refine gc_region ?_; refine gM rfl rfl (by conv => (lhs; whnf)) ?_; refine gN ?_; refine gM rfl rfl (by conv => (lhs; whnf)) ?_; refine gM rfl rfl (by conv => (lhs; whnf)) ?_; apply gw_d; exact w_call rfl rfl (fun w s => indexFunc_ok f hf w _ l (hl.later s)) rfl; refine gC rfl rfl rfl rfl rfl ?_; refine gM rfl rfl (by conv => (lhs; whnf)) ?_; refine gO ?_; refine gc_ret ?_)
  refine gx_ret1 (v := .bool _) rfl rfl (fun _ _ => ?_)
  congr 1
  have := idx_nonneg outP l
  by_cases h : l.any outP = true
  · rw [h]; simp [this.2 h]
  · have h2 : ¬ 0 ≤ idxI outP l := fun h' => h (this.1 h')
    simp only [Bool.not_eq_true] at h
    rw [h]; simp; omega

def isP (q : Int × Int) (p : Int × Int) : Bool := decide (q = p)
set_option maxHeartbeats 1000000 in
theorem indexSpot_ok (w : World) (v : Value) (l : List (Int × Int)) (x y : Int) (hl : Sl rSpot w w.heap.size v l) :
    Ok Tryz.prog 202 [v, .agg #[.int .i64 x, .int .i64 y]].toArray w fun r _ => r = .int .i64 (idxI (isP (x, y)) l) := by
  obtain ⟨A, c, rfl, hc, hm, hcell⟩ := hl.spot
  refine ok_enter Tryz.func202 rfl Tryz.ntmps202 rfl ?_
  focus (refine gc_seq ?_; refine gc_region ?_; refine gw_boxd (v := .agg _) rfl rfl (fun _ => ?_); refine gM rfl rfl (by conv => (lhs; whnf)) ?_; refine gO ?_; refine gc_seq ?_; refine gc_seq ?_; refine gc_region ?_; refine gM rfl rfl (by conv => (lhs; whnf)) ?_; refine gL rfl rfl rfl ?_; refine gM rfl rfl (by conv => (lhs; whnf)) ?_; refine gO ?_; refine gc_block ?_)
  rename_i b
  refine gc_loop (σ := Nat) [9, 10, 5, 11, 12, 13, 14, 15, 16, 17, 4, 18, 8] (fun k => [(8, .int .i64 k)]) (fun _ => [Box b 130 #[.int .i64 x, .int .i64 y]]) (fun k => k ≤ l.length ∧ (l.take k).any (isP (x, y)) = false) (fun k => l.length - k) 0 ⟨Nat.zero_le _, rfl⟩ ⟨rfl, trivial⟩ (.cons .here .nil) ?_
  rintro k base ⟨hk, hI⟩
  focus (refine gc_seq ?_; refine gc_region ?_; refine gC rfl rfl rfl rfl rfl ?_; refine gO ?_; refine gc_seq ?_)
  refine gc_if_dec rfl (fun h => ?_) (fun h => ?_)
  · obtain ⟨ad, rfl, hb, hce, hi⟩ := hcell k (by omega)
    have hlt : k < l.length := by omega
    focus (refine gc_skip ?_; refine gx_next ?_; refine gc_seq ?_; refine gc_block ?_; refine gc_seq ?_; refine gc_region ?_; refine gM rfl rfl (by conv => (lhs; whnf)) ?_; refine gM rfl rfl (by conv => (lhs; whnf)) ?_; refine gO ?_; refine gc_seq ?_)
    refine gc_draw 6 (by kernel_rfl) (by kernel_rfl) ?_
    focus (apply gd_d; exact w_load_boxN rfl rfl rfl .here rfl; apply gd_d; exact det_m rfl rfl (by conv => (lhs; whnf)); apply gd_d; exact det_m rfl rfl (by conv => (lhs; whnf)); apply gd_d; exact w_index rfl rfl rfl rfl (by with_reducible exact rfl) (by omega); apply gd_d; exact w_load_elem rfl rfl rfl (by assumption) (by assumption) (by rfl); apply gd_d; exact w_eq2 rfl rfl rfl rfl; refine gd_nil ?_; refine gO ?_; refine gc_if_dec rfl (fun _ => ?_) (fun _ => ?_); refine gc_seq ?_; refine gc_region ?_; refine gM rfl rfl (by conv => (lhs; whnf)) ?_; refine gM rfl rfl (by conv => (lhs; whnf)) ?_; refine gO ?_; refine gc_ret ?_; refine gx_block_ret ?_; refine gx_then_ret ?_; refine gx_then_ret ?_; refine gx_block_ret ?_; refine gx_then_ret ?_; rotate_left; refine gc_skip ?_; refine gx_block ?_; refine gx_next ?_; refine gc_region ?_; apply gw_d; exact det_ar rfl rfl rfl rfl rfl (by omega); refine gM rfl rfl (by conv => (lhs; whnf)) ?_; refine gw_nil ?_; rotate_left)
    · refine gx_ret1 (v := .int _ _) rfl rfl (fun _ _ => ?_)
      rw [idx_found hlt hI (by simpa [isP] using ‹(x, y) = _›)]
    · exact gx_round (k + 1) ⟨by omega, any_snoc hlt hI (by simpa [isP] using ‹¬ (x, y) = _›)⟩ (by omega) (by repeat (first | exact Keeps.refl | refine Keeps.upd rfl ?_ | refine Keeps.sets rfl ?_ | refine Keeps.havoc rfl ?_)) ⟨rfl, trivial⟩ (.cons .here .nil)
  · focus (refine gc_exit ?_; refine gx_then_exit ?_; refine gx_then_exit ?_; refine gx_block_exit ?_; refine gx_next ?_; refine gc_seq ?_; refine gc_region ?_; refine gM rfl rfl (by conv => (lhs; whnf)) ?_; refine gO ?_; refine gc_ret ?_)
    refine gx_ret1 (v := .int _ _) rfl rfl (fun _ _ => ?_)
    rw [List.take_of_length_le (by omega)] at hI
    rw [idx_none hI]
end Go.Proofs.YtckhibfbdnoigaaGreat

/- Contracts: polylines and polygons. -/
namespace Go.Proofs.YtckhibfbdnoigaaGreat
open Go.RowKit
set_option maxRecDepth 100000

def gS (l : List (Int × Int)) (k : Nat) : Int × Int := l.getD k (0, 0)
theorem gS_get {l : List (Int × Int)} {k : Nat} (hk : k < l.length) : gS l k = l[k] := by
  unfold gS
  simp [hk]
theorem Sl.spot' {w : World} {B : Nat} {v : Value} {l : List (Int × Int)} (h : Sl rSpot w B v l) (hl : 0 < l.length) : ∃ ad c, v = .slice (some ad) l.length c ∧ l.length ≤ c ∧ l.length ≤ 9223372036854775807 ∧ ad.block < B ∧
    ∀ k (_ : k < l.length), ∀ j u, [Value.int .i64 (gS l k).1, Value.int .i64 (gS l k).2][j]? = some u → w.cell? (ad.add (k * 2 + j)) = some u := by
  obtain ⟨A, c, rfl, h1, h2, h3⟩ := h.spot
  obtain ⟨ad, rfl, hb, _⟩ := h3 0 hl
  refine ⟨ad, c, rfl, h1, h2, hb, fun k hk => ?_⟩
  obtain ⟨ad', he, _, hc, _⟩ := h3 k hk
  injection he with he
  subst he
  rw [gS_get hk]
  exact hc

theorem containsSpot_ok (w : World) (v : Value) (l : List (Int × Int)) (x y : Int) (hl : Sl rSpot w w.heap.size v l) :
    Ok Tryz.prog 186 [v, .agg #[.int .i64 x, .int .i64 y]].toArray w fun r _ => r = .bool (l.any (isP (x, y))) := by
  obtain ⟨A, c, rfl, _⟩ := hl.spot
  refine ok_enter Tryz.func186 rfl Tryz.ntmps186 rfl ?_
  focus (refine gc_seq ?_; refine gc_region ?_; refine gw_boxd (v := .agg _) rfl rfl (fun _ => ?_); refine gM rfl rfl (by conv => (lhs; whnf)) ?_; refine gN ?_; refine gM rfl rfl (by conv => (lhs; whnf)) ?_; apply gw_d; exact w_load_boxN rfl rfl rfl .here rfl; apply gw_d; exact w_call rfl rfl (fun w s => indexSpot_ok w _ l _ _ (hl.later s)) rfl; refine gC rfl rfl rfl rfl rfl ?_; refine gM rfl rfl (by conv => (lhs; whnf)) ?_; refine gO ?_; refine gc_ret ?_)
  refine gx_ret1 (v := .bool _) rfl rfl (fun _ _ => ?_)
  congr 1
  have := idx_nonneg (isP (x, y)) l
  by_cases h : l.any (isP (x, y)) = true
  · rw [h]; simp [this.2 h]
  · have h2 : ¬ 0 ≤ idxI (isP (x, y)) l := fun h' => h (this.1 h')
    simp only [Bool.not_eq_true] at h
    rw [h]; simp; omega

/-! ### Polylines -/
def stillB (l : List (Int × Int)) (n : Nat) : Bool := (List.range n).any fun i => decide (gS l i = gS l (i + 1))
def plineE (l : List (Int × Int)) : Int := if 40 < l.length then 5 else if l.length < 2 then 11 else if l.any outP = true then 3 else if stillB l (l.length - 1) = true then 11 else 0
theorem still_snoc {l : List (Int × Int)} {k : Nat} (h : stillB l k = false) (hp : ¬ gS l k = gS l (k + 1)) : stillB l (k + 1) = false := by
  unfold stillB at *
  rw [List.range_succ, List.any_append, h]
  simp [hp]
theorem still_yes {l : List (Int × Int)} {k n : Nat} (hk : k < n) (hp : gS l k = gS l (k + 1)) : stillB l n = true := by
  unfold stillB
  rw [List.any_eq_true]
  exact ⟨k, List.mem_range.2 hk, by simp [hp]⟩
theorem len_small {α : Type} {R : Rp α} {w : World} {B : Nat} {v : Value} {l : List α} (h : Sl R w B v l) : ∃ A c, v = .slice A l.length c ∧ l.length ≤ c ∧ l.length ≤ 9223372036854775807 := by
  obtain ⟨A, c, hv, h1, h2, _⟩ := h
  exact ⟨A, c, hv, h1, by unfold maxLen at h2; omega⟩

set_option maxHeartbeats 1000000 in
theorem polyline_ok (w : World) (v : Value) (l : List (Int × Int)) (hl : Sl rSpot w w.heap.size v l) : Ok Tryz.prog 130 [v].toArray w fun r _ => r = .int .i64 (plineE l) := by
  by_cases hlen : 2 ≤ l.length
  · obtain ⟨ad, c, rfl, hc, hm, hb, hcell⟩ := hl.spot' (by omega)
    refine ok_enter Tryz.func130 rfl Tryz.ntmps130 rfl ?_
    focus (refine gc_seq ?_; refine gc_region ?_; refine gM rfl rfl (by conv => (lhs; whnf)) ?_; refine gO ?_; refine gc_seq ?_; refine gc_seq ?_; refine gc_region ?_; refine gM rfl rfl (by conv => (lhs; whnf)) ?_; refine gL rfl rfl rfl ?_; refine gC rfl rfl rfl rfl rfl ?_; refine gO ?_; refine gc_if_dec rfl (fun _ => ?_) (fun _ => ?_); refine gc_seq ?_; refine gc_region ?_; refine gM rfl rfl (by conv => (lhs; whnf)) ?_; refine gO ?_; refine gc_ret ?_; refine gx_then_ret ?_; rotate_left; refine gc_skip ?_; refine gx_next ?_; refine gc_seq ?_; refine gc_seq ?_; refine gc_region ?_; refine gM rfl rfl (by conv => (lhs; whnf)) ?_; refine gL rfl rfl rfl ?_; refine gC rfl rfl rfl rfl rfl ?_; refine gO ?_; refine gc_if_dec rfl (fun _ => ?_) (fun _ => ?_); refine gc_seq ?_; refine gc_region ?_; refine gM rfl rfl (by conv => (lhs; whnf)) ?_; refine gO ?_; refine gc_ret ?_; refine gx_then_ret ?_; rotate_left; refine gc_skip ?_; refine gx_next ?_; refine gc_seq ?_; refine gc_seq ?_; refine gc_region ?_; refine gM rfl rfl (by conv => (lhs; whnf)) ?_; apply gw_d; exact w_call rfl rfl (fun w s => containsFunc_ok 159 pl_outside_ok w _ l (hl.later s)) rfl; refine gO ?_; refine gc_if rfl (fun _ => ?_) (fun _ => ?_); refine gc_seq ?_; refine gc_region ?_; refine gM rfl rfl (by conv => (lhs; whnf)) ?_; refine gO ?_; refine gc_ret ?_; refine gx_then_ret ?_; rotate_left; refine gc_skip ?_; refine gx_next ?_; refine gc_seq ?_; refine gc_seq ?_; refine gc_region ?_; refine gM rfl rfl (by conv => (lhs; whnf)) ?_; refine gL rfl rfl rfl ?_; apply gw_d; exact det_ar rfl rfl rfl rfl rfl (by omega); refine gM rfl rfl (by conv => (lhs; whnf)) ?_; refine gO ?_; refine gc_block ?_; rotate_left)
    · refine gx_ret1 (v := .int _ _) rfl rfl (fun _ _ => ?_)
      have : 40 < l.length := by omega
      simp [plineE, this]
    · omega
    · refine gx_ret1 (v := .int _ _) rfl rfl (fun _ _ => ?_)
      have h1 : ¬ 40 < l.length := by omega
      have h2 : ¬ l.length < 2 := by omega
      simp only [plineE, h1, h2, if_false]
      rw [if_pos ‹_›]
    · refine gc_loop (σ := Nat) [16, 17, 3, 18, 19, 20, 21, 22, 23, 24, 25, 26, 27, 2, 28, 15] (fun k => [(15, .int .i64 k)]) (fun _ => []) (fun k => k ≤ l.length - 1 ∧ stillB l k = false) (fun k => l.length - k) 0 ⟨Nat.zero_le _, rfl⟩ ⟨rfl, trivial⟩ .nil ?_
      rintro k base ⟨hk, hI⟩
      focus (refine gc_seq ?_; refine gc_region ?_; refine gC rfl rfl rfl rfl rfl ?_; refine gO ?_; refine gc_seq ?_)
      refine gc_if_dec rfl (fun h => ?_) (fun h => ?_)
      · have hce0 := hcell k (by omega)
        have hce1 := hcell (k + 1) (by omega)
        focus (refine gc_skip ?_; refine gx_next ?_; refine gc_seq ?_; refine gc_block ?_; refine gc_seq ?_; refine gc_region ?_; refine gM rfl rfl (by conv => (lhs; whnf)) ?_; refine gM rfl rfl (by conv => (lhs; whnf)) ?_; refine gO ?_; refine gc_seq ?_)
        refine gc_draw 10 (by kernel_rfl) (by kernel_rfl) ?_
        focus (apply gd_d; exact det_m rfl rfl (by conv => (lhs; whnf)); apply gd_d; exact det_m rfl rfl (by conv => (lhs; whnf)); apply gd_d; exact w_index rfl rfl rfl rfl (by with_reducible exact rfl) (by omega); apply gd_d; exact w_load_elem rfl rfl rfl (by assumption) (by assumption) (by rfl); apply gd_d; exact det_m rfl rfl (by conv => (lhs; whnf)); apply gd_d; exact det_m rfl rfl (by conv => (lhs; whnf)); apply gd_d; exact det_ar rfl rfl rfl rfl rfl (by omega); apply gd_d; exact w_index rfl rfl rfl rfl (by with_reducible exact castA _) (by omega); apply gd_d; exact w_load_elem rfl rfl rfl (by assumption) (by assumption) (by rfl); apply gd_d; exact w_eq2 rfl rfl rfl rfl; refine gd_nil ?_; refine gO ?_; refine gc_if_dec rfl (fun _ => ?_) (fun _ => ?_); refine gc_seq ?_; refine gc_region ?_; refine gM rfl rfl (by conv => (lhs; whnf)) ?_; refine gO ?_; refine gc_ret ?_; refine gx_block_ret ?_; refine gx_then_ret ?_; refine gx_then_ret ?_; refine gx_block_ret ?_; refine gx_then_ret ?_; rotate_left; refine gc_skip ?_; refine gx_block ?_; refine gx_next ?_; refine gc_region ?_; apply gw_d; exact det_ar rfl rfl rfl rfl rfl (by omega); refine gM rfl rfl (by conv => (lhs; whnf)) ?_; refine gw_nil ?_; rotate_left)
        · refine gx_ret1 (v := .int _ _) rfl rfl (fun _ _ => ?_)
          have h1 : ¬ 40 < l.length := by omega
          have h2 : ¬ l.length < 2 := by omega
          simp only [plineE, h1, h2, if_false]
          rw [if_neg (by simpa using ‹l.any outP = false›), if_pos (still_yes (k := k) (by omega) ‹_›)]
        · exact gx_round (k + 1) ⟨by omega, still_snoc hI ‹_›⟩ (by omega) (by repeat (first | exact Keeps.refl | refine Keeps.upd rfl ?_ | refine Keeps.sets rfl ?_ | refine Keeps.havoc rfl ?_)) ⟨rfl, trivial⟩ .nil
      · focus (refine gc_exit ?_; refine gx_then_exit ?_; refine gx_then_exit ?_; refine gx_block_exit ?_; refine gx_next ?_; refine gc_seq ?_; refine gc_region ?_; refine gM rfl rfl (by conv => (lhs; whnf)) ?_; refine gO ?_; refine gc_ret ?_)
        refine gx_ret1 (v := .int _ _) rfl rfl (fun _ _ => ?_)
        have h1 : ¬ 40 < l.length := by omega
        have h2 : ¬ l.length < 2 := by omega
        obtain rfl : k = l.length - 1 := by omega
        simp only [plineE, h1, h2, if_false]
        rw [if_neg (by simpa using ‹l.any outP = false›), if_neg (by simpa using hI)]
  · obtain ⟨A, c, rfl, hc, hm⟩ := len_small hl
    refine ok_enter Tryz.func130 rfl Tryz.ntmps130 rfl ?_
    focus (refine gc_seq ?_; refine gc_region ?_; refine gM rfl rfl (by conv => (lhs; whnf)) ?_; refine gO ?_; refine gc_seq ?_; refine gc_seq ?_; refine gc_region ?_; refine gM rfl rfl (by conv => (lhs; whnf)) ?_; refine gL rfl rfl rfl ?_; refine gC rfl rfl rfl rfl rfl ?_; refine gO ?_)
    refine gc_if_dec rfl (fun h => by omega) (fun h => ?_)
    focus (refine gc_skip ?_; refine gx_next ?_; refine gc_seq ?_; refine gc_seq ?_; refine gc_region ?_; refine gM rfl rfl (by conv => (lhs; whnf)) ?_; refine gL rfl rfl rfl ?_; refine gC rfl rfl rfl rfl rfl ?_; refine gO ?_)
    refine gc_if_dec rfl (fun h => ?_) (fun h => by omega)
    focus (refine gc_seq ?_; refine gc_region ?_; refine gM rfl rfl (by conv => (lhs; whnf)) ?_; refine gO ?_; refine gc_ret ?_; refine gx_then_ret ?_)
    refine gx_ret1 (v := .int _ _) rfl rfl (fun _ _ => ?_)
    have h1 : ¬ 40 < l.length := by omega
    have h2 : l.length < 2 := by omega
    simp [plineE, h1, h2]
end Go.Proofs.YtckhibfbdnoigaaGreat

/- Contracts: simple polygons. -/
namespace Go.Proofs.YtckhibfbdnoigaaGreat
open Go.RowKit
set_option maxRecDepth 100000

def dupB (l : List (Int × Int)) (n : Nat) : Bool := (List.range n).any fun i => (l.take i).any (isP ((gS l i).1, (gS l i).2))
def foldAt (l : List (Int × Int)) (i : Nat) : Bool :=
  foldB (gS l i).1 (gS l i).2 (gS l ((i + 1) % l.length)).1 (gS l ((i + 1) % l.length)).2 (gS l ((i + 2) % l.length)).1 (gS l ((i + 2) % l.length)).2
def meetAt (l : List (Int × Int)) (i k : Nat) : Bool :=
  meetB (gS l i).1 (gS l i).2 (gS l ((i + 1) % l.length)).1 (gS l ((i + 1) % l.length)).2 (gS l k).1 (gS l k).2 (gS l ((k + 1) % l.length)).1 (gS l ((k + 1) % l.length)).2
def meetsB (l : List (Int × Int)) (i n : Nat) : Bool := (List.range n).any fun k => decide (i + 2 ≤ k) && decide ((k + 1) % l.length ≠ i) && meetAt l i k
def badB (l : List (Int × Int)) (n : Nat) : Bool := (List.range n).any fun i => foldAt l i || meetsB l i l.length
def simpleB (l : List (Int × Int)) : Bool := !dupB l l.length && !badB l l.length

theorem range_any_no {n k : Nat} {p : Nat → Bool} (hk : k < n) (h : p k = true) : (List.range n).any p = true := by
  rw [List.any_eq_true]
  exact ⟨k, List.mem_range.2 hk, h⟩
theorem range_any_snoc {k : Nat} {p : Nat → Bool} (h : (List.range k).any p = false) (hp : p k = false) : (List.range (k + 1)).any p = false := by
  rw [List.range_succ, List.any_append, h]
  simp [hp]

theorem mod_last {n i k : Nat} (hk : k < n) (hi : i + 2 ≤ k) (h : (k + 1) % n = i) : k + 1 = n := by
  rcases Nat.lt_or_ge (k + 1) n with h1 | h1
  · rw [Nat.mod_eq_of_lt h1] at h; omega
  · omega
theorem meets_end {l : List (Int × Int)} {i k : Nat} (h : meetsB l i k = false) (hk : ¬ (k < l.length ∧ (k + 1) % l.length ≠ i)) (hi : i + 2 ≤ k) (hkn : k ≤ max l.length (i + 2)) : meetsB l i l.length = false := by
  unfold meetsB at *
  rw [List.any_eq_false] at *
  intro m hm
  rw [List.mem_range] at hm
  by_cases hmk : m < k
  · exact h m (List.mem_range.2 hmk)
  · by_cases hmi : i + 2 ≤ m
    · have hlt : k < l.length := by omega
      have h2 : (k + 1) % l.length = i := by
        rcases Classical.em ((k + 1) % l.length = i) with h3 | h3
        · exact h3
        · exact absurd ⟨hlt, h3⟩ hk
      have := mod_last hlt hi h2
      have : m = k := by omega
      subst this
      simp [h2]
    · simp [hmi]

theorem meets_start (l : List (Int × Int)) (i : Nat) : meetsB l i (i + 2) = false := by
  unfold meetsB
  rw [List.any_eq_false]
  intro m hm
  rw [List.mem_range] at hm
  have : ¬ i + 2 ≤ m := by omega
  simp [this]

theorem bd_of {l : List (Int × Int)} (h : l.any outP = false) {k : Nat} (hk : k < l.length) : Bd (gS l k).1 ∧ Bd (gS l k).2 := by
  have := List.any_eq_false.1 h l[k] (List.getElem_mem hk)
  rw [gS_get hk]
  unfold outP outB at this
  unfold Bd
  simp only [Bool.or_eq_true, decide_eq_true_eq, not_or] at this
  omega

set_option maxHeartbeats 2000000 in
theorem simple_ok (w : World) (v : Value) (l : List (Int × Int)) (hl : Sl rSpot w w.heap.size v l) (hlen : 3 ≤ l.length) (h40 : l.length ≤ 40) (hout : l.any outP = false) : Ok Tryz.prog 161 [v].toArray w fun r _ => r = .bool (simpleB l) := by
  obtain ⟨ad, c, rfl, hc, hm, hb, hcell⟩ := hl.spot' (by omega)
  refine ok_enter Tryz.func161 rfl Tryz.ntmps161 rfl ?_
  focus (refine gc_seq ?_; refine gc_region ?_; refine gM rfl rfl (by conv => (lhs; whnf)) ?_; refine gN ?_; refine gM rfl rfl (by conv => (lhs; whnf)) ?_; refine gL rfl rfl rfl ?_; refine gM rfl rfl (by conv => (lhs; whnf)) ?_; refine gO ?_; refine gc_seq ?_; refine gc_seq ?_; refine gc_region ?_; refine gM rfl rfl (by conv => (lhs; whnf)) ?_; refine gL rfl rfl rfl ?_; refine gM rfl rfl (by conv => (lhs; whnf)) ?_; refine gO ?_; refine gc_block ?_)
  refine gc_loop (σ := Nat) [15, 16, 17, 18, 5, 4, 19, 20, 21, 22, 23, 2, 24, 14] (fun k => [(14, .int .i64 k)]) (fun _ => []) (fun k => k ≤ l.length ∧ dupB l k = false) (fun k => l.length - k) 0 ⟨Nat.zero_le _, rfl⟩ ⟨rfl, trivial⟩ .nil ?_
  rintro k base ⟨hk, hI⟩
  focus (refine gc_seq ?_; refine gc_region ?_; refine gC rfl rfl rfl rfl rfl ?_; refine gO ?_; refine gc_seq ?_)
  refine gc_if_dec rfl (fun h => ?_) (fun h => ?_)
  · have hlt : k < l.length := by omega
    have hce0 := hcell k hlt
    focus (refine gc_skip ?_; refine gx_next ?_; refine gc_seq ?_; refine gc_block ?_; refine gc_seq ?_; refine gc_region ?_; refine gM rfl rfl (by conv => (lhs; whnf)) ?_; apply gw_d; exact w_index rfl rfl rfl rfl (by with_reducible exact rfl) (by omega); apply gw_d; exact w_load_elem rfl rfl rfl (by assumption) (by assumption) (by rfl); refine w_alloc rfl (fun _ => ?_); refine gM rfl rfl (by conv => (lhs; whnf)) ?_; refine w_store_all rfl rfl rfl rfl rfl .here rfl ?_; refine gO ?_; refine gc_seq ?_)
    refine gc_draw 5 (by kernel_rfl) (by kernel_rfl) ?_
    focus (apply gd_d; exact det_m rfl rfl (by conv => (lhs; whnf)); apply gd_d; exact det_m rfl rfl (by conv => (lhs; whnf)); apply gd_d; exact w_cut_hi rfl rfl rfl rfl (by with_reducible exact rfl) (by omega); apply gd_d; exact w_load_boxN rfl rfl rfl .here rfl; apply gd_d; exact w_call rfl rfl (fun w s => containsSpot_ok w _ (l.take k) _ _ ((hl.take (m := k) (by omega)).later s)) rfl; refine gd_nil ?_; refine gO ?_; refine gc_if rfl (fun _ => ?_) (fun _ => ?_); refine gc_seq ?_; refine gc_region ?_; refine gM rfl rfl (by conv => (lhs; whnf)) ?_; refine gO ?_; refine gc_ret ?_; refine gx_block_ret ?_; refine gx_then_ret ?_; refine gx_then_ret ?_; refine gx_block_ret ?_; refine gx_then_ret ?_; rotate_left; refine gc_skip ?_; refine gx_block ?_; refine gx_next ?_; refine gc_region ?_; apply gw_d; exact det_ar rfl rfl rfl rfl rfl (by omega); refine gM rfl rfl (by conv => (lhs; whnf)) ?_; refine gw_nil ?_; rotate_left)
    · refine gx_ret1 (v := .bool _) rfl rfl (fun _ _ => ?_)
      have : dupB l l.length = true := range_any_no hlt ‹_›
      simp [simpleB, this]
    · exact gx_round (k + 1) ⟨by omega, range_any_snoc hI ‹_›⟩ (by omega) (by repeat (first | exact Keeps.refl | refine Keeps.upd rfl ?_ | refine Keeps.sets rfl ?_ | refine Keeps.havoc rfl ?_)) ⟨rfl, trivial⟩ .nil
  · obtain rfl : k = l.length := by omega
    focus (refine gc_exit ?_; refine gx_then_exit ?_; refine gx_then_exit ?_; refine gx_block_exit ?_; refine gx_next ?_; refine gc_seq ?_; refine gc_seq ?_; refine gc_region ?_; refine gM rfl rfl (by conv => (lhs; whnf)) ?_; refine gL rfl rfl rfl ?_; refine gM rfl rfl (by conv => (lhs; whnf)) ?_; refine gO ?_; refine gc_block ?_)
    refine gc_loop (σ := Nat) [28, 29, 30, 31, 7, 6, 32, 33, 34, 35, 36, 37, 38, 8, 39, 40, 41, 42, 43, 44, 45, 46, 47, 48, 2, 49, 50, 9, 51, 52, 53, 54, 55, 56, 57, 58, 59, 60, 61, 64, 65, 66, 67, 68, 69, 70, 71, 72, 73, 74, 75, 76, 77, 62, 63, 78, 27] (fun k => [(27, .int .i64 k)]) (fun _ => []) (fun k => k ≤ l.length ∧ badB l k = false) (fun k => l.length - k) 0 ⟨Nat.zero_le _, rfl⟩ ⟨rfl, trivial⟩ .nil ?_
    rintro i base2 ⟨hi, hJ⟩
    focus (refine gc_seq ?_; refine gc_region ?_; refine gC rfl rfl rfl rfl rfl ?_; refine gO ?_; refine gc_seq ?_)
    refine gc_if_dec rfl (fun h => ?_) (fun h => ?_)
    · have hlt : i < l.length := by omega
      have hp1 : (i + 1) % l.length < l.length := Nat.mod_lt _ (by omega)
      have hp2 : (i + 2) % l.length < l.length := Nat.mod_lt _ (by omega)
      have hce0 := hcell i hlt
      have hce1 := hcell _ hp1
      have hce2 := hcell _ hp2
      obtain ⟨b1, b2⟩ := bd_of hout hlt
      obtain ⟨b3, b4⟩ := bd_of hout hp1
      obtain ⟨b5, b6⟩ := bd_of hout hp2
      focus (refine gc_skip ?_; refine gx_next ?_; refine gc_seq ?_; refine gc_block ?_; refine gc_seq ?_; refine gc_region ?_; refine gM rfl rfl (by conv => (lhs; whnf)) ?_; apply gw_d; exact w_index rfl rfl rfl rfl (by with_reducible exact rfl) (by omega); apply gw_d; exact w_load_elem rfl rfl rfl (by assumption) (by assumption) (by rfl); refine w_alloc rfl (fun _ => ?_); refine gM rfl rfl (by conv => (lhs; whnf)) ?_; refine w_store_all rfl rfl rfl rfl rfl .here rfl ?_; refine gN ?_; refine gM rfl rfl (by conv => (lhs; whnf)) ?_; refine gM rfl rfl (by conv => (lhs; whnf)) ?_; apply gw_d; exact det_ar rfl rfl rfl rfl rfl (by omega); refine gM rfl rfl (by conv => (lhs; whnf)) ?_; apply gw_d; exact det_rem rfl rfl rfl rfl (by omega) (by omega); apply gw_d; exact w_index rfl rfl rfl rfl (by with_reducible exact castM _ _) (by omega); apply gw_d; exact w_load_elem rfl rfl rfl (by assumption) (by assumption) (by rfl); refine w_alloc rfl (fun _ => ?_); refine w_store_all rfl rfl rfl rfl rfl .here rfl ?_; refine gO ?_; refine gc_seq ?_; refine gc_seq ?_)
      refine gc_draw 10 (by kernel_rfl) (by kernel_rfl) ?_
      focus (apply gd_d; exact w_load_boxN rfl rfl rfl (.there .here) rfl; apply gd_d; exact w_load_boxN rfl rfl rfl .here rfl; apply gd_d; exact det_m rfl rfl (by conv => (lhs; whnf)); apply gd_d; exact det_m rfl rfl (by conv => (lhs; whnf)); apply gd_d; exact det_ar rfl rfl rfl rfl rfl (by omega); apply gd_d; exact det_m rfl rfl (by conv => (lhs; whnf)); apply gd_d; exact det_rem rfl rfl rfl rfl (by omega) (by omega); apply gd_d; exact w_index rfl rfl rfl rfl (by with_reducible exact castN _ _) (by omega); apply gd_d; exact w_load_elem rfl rfl rfl (by assumption) (by assumption) (by rfl); apply gd_d; exact w_call rfl rfl (fun w s => folded_ok w _ _ _ _ _ _ b1 b2 b3 b4 b5 b6) rfl; refine gd_nil ?_; refine gO ?_; refine gc_if rfl (fun _ => ?_) (fun _ => ?_); refine gc_seq ?_; refine gc_region ?_; refine gM rfl rfl (by conv => (lhs; whnf)) ?_; refine gO ?_; refine gc_ret ?_; refine gx_then_ret ?_; refine gx_block_ret ?_; refine gx_then_ret ?_; refine gx_then_ret ?_; refine gx_block_ret ?_; refine gx_then_ret ?_; rotate_left; refine gc_skip ?_; refine gx_next ?_; refine gc_seq ?_; refine gc_region ?_; refine gM rfl rfl (by conv => (lhs; whnf)) ?_; apply gw_d; exact det_ar rfl rfl rfl rfl rfl (by omega); refine gM rfl rfl (by conv => (lhs; whnf)) ?_; refine gO ?_; refine gc_block ?_; rotate_left)
      · refine gx_ret1 (v := .bool _) rfl rfl (fun _ _ => ?_)
        have : badB l l.length = true := range_any_no hlt (by
          have : foldAt l i = true := ‹_›
          simp [this])
        simp [simpleB, hI, this]
      · have hfold : foldAt l i = false := ‹_›
        refine gc_loopK (σ := Nat) [51, 52, 53, 54, 55, 56, 57, 58, 59, 60, 61, 64, 65, 66, 67, 68, 69, 70, 71, 72, 73, 74, 75, 76, 77, 2, 62, 63, 9] (fun k => [(9, .int .i64 k)]) (fun k => i + 2 ≤ k ∧ k ≤ max l.length (i + 2) ∧ meetsB l i k = false) (fun k => l.length - k) (i + 2) ⟨Nat.le_refl _, by omega, meets_start l i⟩ ⟨rfl, trivial⟩ ?_
        rintro k base3 ⟨hk1, hk2, hM⟩
        focus (refine gc_seq ?_; refine gc_seq ?_; refine gc_region ?_; refine gM rfl rfl (by conv => (lhs; whnf)) ?_; refine gM rfl rfl (by conv => (lhs; whnf)) ?_; refine gC rfl rfl rfl rfl rfl ?_; refine gM rfl rfl (by conv => (lhs; whnf)) ?_; refine gw_guard_dec rfl rfl (fun _ => ?_) (fun _ => ?_); refine gM rfl rfl (by conv => (lhs; whnf)) ?_; apply gw_d; exact det_ar rfl rfl rfl rfl rfl (by omega); refine gM rfl rfl (by conv => (lhs; whnf)) ?_; apply gw_d; exact det_rem rfl rfl rfl rfl (by omega) (by omega); refine gM rfl rfl (by conv => (lhs; whnf)) ?_; refine gC rfl rfl rfl rfl rfl ?_; apply gw_d; exact det_pick_t (v := .bool _) rfl rfl rfl rfl; refine gO ?_; rotate_left; refine gU rfl ?_; refine gU rfl ?_; refine gU rfl ?_; refine gU rfl ?_; refine gU rfl ?_; refine gU rfl ?_; apply gw_d; exact det_pick_f (v := .bool _) rfl rfl rfl rfl; refine gO ?_; rotate_left)
        · refine gc_if_dec rfl (fun h3 => ?_) (fun h3 => ?_)
          · have hk : k < l.length := by omega
            have hq1 : (k + 1) % l.length < l.length := Nat.mod_lt _ (by omega)
            have hce3 := hcell k hk
            have hce4 := hcell _ hq1
            obtain ⟨b7, b8⟩ := bd_of hout hk
            obtain ⟨b9, b10⟩ := bd_of hout hq1
            have hne : (k + 1) % l.length ≠ i := fun h4 => h3 (by have := congrArg (fun n : Nat => (n : Int)) h4; simpa using this)
            focus (refine gc_skip ?_; refine gx_next ?_; refine gc_seq ?_; refine gc_block ?_; refine gc_seq ?_)
            refine gc_draw 14 (by kernel_rfl) (by kernel_rfl) ?_
            focus (apply gd_d; exact w_load_boxN rfl rfl rfl (.there .here) rfl; apply gd_d; exact w_load_boxN rfl rfl rfl .here rfl; apply gd_d; exact det_m rfl rfl (by conv => (lhs; whnf)); apply gd_d; exact det_m rfl rfl (by conv => (lhs; whnf)); apply gd_d; exact w_index rfl rfl rfl rfl (by with_reducible exact rfl) (by omega); apply gd_d; exact w_load_elem rfl rfl rfl (by assumption) (by assumption) (by rfl); apply gd_d; exact det_m rfl rfl (by conv => (lhs; whnf)); apply gd_d; exact det_m rfl rfl (by conv => (lhs; whnf)); apply gd_d; exact det_ar rfl rfl rfl rfl rfl (by omega); apply gd_d; exact det_m rfl rfl (by conv => (lhs; whnf)); apply gd_d; exact det_rem rfl rfl rfl rfl (by omega) (by omega); apply gd_d; exact w_index rfl rfl rfl rfl (by with_reducible exact castM _ _) (by omega); apply gd_d; exact w_load_elem rfl rfl rfl (by assumption) (by assumption) (by rfl); apply gd_d; exact w_call rfl rfl (fun w s => meet_ok w _ _ _ _ _ _ _ _ b1 b2 b3 b4 b7 b8 b9 b10) rfl; refine gd_nil ?_; refine gO ?_; refine gc_if rfl (fun _ => ?_) (fun _ => ?_); refine gc_seq ?_; refine gc_region ?_; refine gM rfl rfl (by conv => (lhs; whnf)) ?_; refine gO ?_; refine gc_ret ?_; refine gx_block_ret ?_; refine gx_then_ret ?_; refine gx_then_ret ?_; refine gx_block_ret ?_; refine gx_block_ret ?_; refine gx_then_ret ?_; refine gx_then_ret ?_; refine gx_block_ret ?_; refine gx_then_ret ?_; rotate_left; refine gc_skip ?_; refine gx_block ?_; refine gx_next ?_; refine gc_region ?_; refine gM rfl rfl (by conv => (lhs; whnf)) ?_; apply gw_d; exact det_ar rfl rfl rfl rfl rfl (by omega); refine gM rfl rfl (by conv => (lhs; whnf)) ?_; refine gw_nil ?_; rotate_left)
            · refine gx_ret1 (v := .bool _) rfl rfl (fun _ _ => ?_)
              have hm1 : meetAt l i k = true := ‹_›
              have hm2 : meetsB l i l.length = true := range_any_no hk (by simp [hm1, hk1, hne])
              have : badB l l.length = true := range_any_no hlt (by simp [hm2])
              simp [simpleB, hI, this]
            · have hm1 : meetAt l i k = false := ‹_›
              exact gx_round (k + 1) ⟨by omega, by omega, range_any_snoc hM (by simp [hm1])⟩ (by omega) (by repeat (first | exact Keeps.refl | refine Keeps.upd rfl ?_ | refine Keeps.sets rfl ?_ | refine Keeps.havoc rfl ?_)) ⟨rfl, trivial⟩ (Sub.all _)
          · have he : meetsB l i l.length = false := meets_end hM (fun h4 => h3 (fun h5 => h4.2 (Int.ofNat.inj (by simpa using h5)))) hk1 hk2
            focus (refine gc_exit ?_; refine gx_then_exit ?_; refine gx_then_exit ?_; refine gx_block_exit ?_; refine gx_block ?_; refine gx_next ?_; refine gc_region ?_; apply gw_d; exact det_ar rfl rfl rfl rfl rfl (by omega); refine gM rfl rfl (by conv => (lhs; whnf)) ?_; refine gw_nil ?_)
            exact gx_round (i + 1) ⟨by omega, range_any_snoc hJ (by simp [hfold, he])⟩ (by omega) (by repeat (first | exact Keeps.refl | refine Keeps.upd rfl ?_ | refine Keeps.sets rfl ?_ | refine Keeps.havoc rfl ?_)) ⟨rfl, trivial⟩ .nil
        · have he : meetsB l i l.length = false := meets_end hM (fun h4 => by omega) hk1 hk2
          focus (refine gc_if_false rfl ?_; refine gc_exit ?_; refine gx_then_exit ?_; refine gx_then_exit ?_; refine gx_block_exit ?_; refine gx_block ?_; refine gx_next ?_; refine gc_region ?_; apply gw_d; exact det_ar rfl rfl rfl rfl rfl (by omega); refine gM rfl rfl (by conv => (lhs; whnf)) ?_; refine gw_nil ?_)
          exact gx_round (i + 1) ⟨by omega, range_any_snoc hJ (by simp [hfold, he])⟩ (by omega) (by repeat (first | exact Keeps.refl | refine Keeps.upd rfl ?_ | refine Keeps.sets rfl ?_ | refine Keeps.havoc rfl ?_)) ⟨rfl, trivial⟩ .nil
    · focus (refine gc_exit ?_; refine gx_then_exit ?_; refine gx_then_exit ?_; refine gx_block_exit ?_; refine gx_next ?_; refine gc_seq ?_; refine gc_region ?_; refine gM rfl rfl (by conv => (lhs; whnf)) ?_; refine gO ?_; refine gc_ret ?_)
      refine gx_ret1 (v := .bool _) rfl rfl (fun _ _ => ?_)
      obtain rfl : i = l.length := by omega
      simp [simpleB, hI, hJ]

def polyE (l : List (Int × Int)) : Int := if 40 < l.length then 5 else if l.length < 3 then 11 else if l.any outP = true then 3 else if simpleB l = true then 0 else 11
theorem polygon_ok (w : World) (v : Value) (l : List (Int × Int)) (hl : Sl rSpot w w.heap.size v l) : Ok Tryz.prog 131 [v].toArray w fun r _ => r = .int .i64 (polyE l) := by
  obtain ⟨A, c, rfl, hc, hm⟩ := len_small hl
  refine ok_enter Tryz.func131 rfl Tryz.ntmps131 rfl ?_
  focus (refine gc_seq ?_; refine gc_region ?_; refine gM rfl rfl (by conv => (lhs; whnf)) ?_; refine gO ?_; refine gc_seq ?_; refine gc_seq ?_; refine gc_region ?_; refine gM rfl rfl (by conv => (lhs; whnf)) ?_; refine gL rfl rfl rfl ?_; refine gC rfl rfl rfl rfl rfl ?_; refine gO ?_; refine gc_if_dec rfl (fun _ => ?_) (fun _ => ?_); refine gc_seq ?_; refine gc_region ?_; refine gM rfl rfl (by conv => (lhs; whnf)) ?_; refine gO ?_; refine gc_ret ?_; refine gx_then_ret ?_; rotate_left; refine gc_skip ?_; refine gx_next ?_; refine gc_seq ?_; refine gc_seq ?_; refine gc_region ?_; refine gM rfl rfl (by conv => (lhs; whnf)) ?_; refine gL rfl rfl rfl ?_; refine gC rfl rfl rfl rfl rfl ?_; refine gO ?_; refine gc_if_dec rfl (fun _ => ?_) (fun _ => ?_); refine gc_seq ?_; refine gc_region ?_; refine gM rfl rfl (by conv => (lhs; whnf)) ?_; refine gO ?_; refine gc_ret ?_; refine gx_then_ret ?_; rotate_left; refine gc_skip ?_; refine gx_next ?_; refine gc_seq ?_; refine gc_seq ?_; refine gc_region ?_; refine gM rfl rfl (by conv => (lhs; whnf)) ?_; apply gw_d; exact w_call rfl rfl (fun w s => containsFunc_ok 160 outside_ok w _ l (hl.later s)) rfl; refine gO ?_; refine gc_if rfl (fun _ => ?_) (fun _ => ?_); refine gc_seq ?_; refine gc_region ?_; refine gM rfl rfl (by conv => (lhs; whnf)) ?_; refine gO ?_; refine gc_ret ?_; refine gx_then_ret ?_; rotate_left; refine gc_skip ?_; refine gx_next ?_; refine gc_seq ?_; refine gc_seq ?_; refine gc_region ?_; refine gM rfl rfl (by conv => (lhs; whnf)) ?_; apply gw_d; exact w_call rfl rfl (fun w s => simple_ok w _ l (hl.later s) (by omega) (by omega) ‹_›) rfl; apply gw_d; exact det_not_ rfl rfl rfl; refine gO ?_; refine gc_if rfl (fun _ => ?_) (fun _ => ?_); refine gc_seq ?_; refine gc_region ?_; refine gM rfl rfl (by conv => (lhs; whnf)) ?_; refine gO ?_; refine gc_ret ?_; refine gx_then_ret ?_; rotate_left; refine gc_skip ?_; refine gx_next ?_; refine gc_seq ?_; refine gc_region ?_; refine gM rfl rfl (by conv => (lhs; whnf)) ?_; refine gO ?_; refine gc_ret ?_; rotate_left)
  all_goals
    refine gx_ret1 (v := .int _ _) rfl rfl (fun _ _ => ?_)
    congr 1
    unfold polyE
    repeat' split
    all_goals first | rfl | (exfalso; omega) | simp_all
end Go.Proofs.YtckhibfbdnoigaaGreat

/- The chapter's rule for simple polygons is that of the program. No program in sight. -/
namespace Go.Proofs.YtckhibfbdnoigaaGreat
open Go.RowKit

def rBadAt (l : List (Int × Int)) (i : Nat) : Bool :=
  decide (gS l i = gS l ((i + 1) % l.length)) || onB (gS l i).1 (gS l i).2 (gS l ((i + 1) % l.length)).1 (gS l ((i + 1) % l.length)).2 (gS l ((i + 2) % l.length)).1 (gS l ((i + 2) % l.length)).2 ||
    onB (gS l ((i + 1) % l.length)).1 (gS l ((i + 1) % l.length)).2 (gS l ((i + 2) % l.length)).1 (gS l ((i + 2) % l.length)).2 (gS l i).1 (gS l i).2 || meetsB l i l.length
def rSimpleB (l : List (Int × Int)) : Bool := !(List.range l.length).any (rBadAt l)

/-! ### Numbers -/
theorem lt_prod {X x Y y : Int} (h1 : 0 ≤ x) (h2 : x < X) (h3 : 0 ≤ Y) (h4 : Y < y) : Y * x < X * y := by
  have a1 : Y * x ≤ Y * X := Int.mul_le_mul_of_nonneg_left (by omega) h3
  have a2 : Y * X < y * X := Int.mul_lt_mul_of_pos_right h4 (by omega)
  rw [Int.mul_comm X y]
  omega
theorem mixed {X x Y y : Int} (hx : min 0 X ≤ x ∧ x ≤ max 0 X) (hx' : ¬ x = X) (hy : min 0 y ≤ Y ∧ Y ≤ max 0 y) (hy' : ¬ Y = y) : ¬ X * y = Y * x := by
  intro he
  by_cases h1 : 0 < X
  · by_cases h2 : 0 < y
    · have := lt_prod (X := X) (x := x) (Y := Y) (y := y) (by omega) (by omega) (by omega) (by omega)
      omega
    · have := lt_prod (X := X) (x := x) (Y := -Y) (y := -y) (by omega) (by omega) (by omega) (by omega)
      rw [Int.neg_mul, Int.mul_neg] at this
      omega
  · by_cases h2 : 0 < y
    · have := lt_prod (X := -X) (x := -x) (Y := Y) (y := y) (by omega) (by omega) (by omega) (by omega)
      rw [Int.neg_mul, Int.mul_neg] at this
      omega
    · have := lt_prod (X := -X) (x := -x) (Y := -Y) (y := -y) (by omega) (by omega) (by omega) (by omega)
      rw [Int.neg_mul_neg, Int.neg_mul_neg] at this
      omega
theorem between_or {X x : Int} (h : 0 ≤ X * x) : (min 0 X ≤ x ∧ x ≤ max 0 X) ∨ (min 0 x ≤ X ∧ X ≤ max 0 x) := by
  by_cases h1 : 0 ≤ X
  · by_cases h2 : 0 ≤ x
    · omega
    · by_cases h3 : X = 0
      · omega
      · have := Int.mul_neg_of_pos_of_neg (a := X) (b := x) (by omega) (by omega)
        omega
  · by_cases h2 : x ≤ 0
    · omega
    · have := Int.mul_neg_of_neg_of_pos (a := X) (b := x) (by omega) (by omega)
      omega
theorem same_side {X x Y y : Int} (hc : X * y = Y * x) (hd : X * x + Y * y > 0) : 0 ≤ X * x ∧ 0 ≤ Y * y := by
  have hp : (X * x) * (Y * y) = (X * y) * (X * y) := by
    rw [show (X * y) * (X * y) = (X * y) * (Y * x) from by rw [← hc]]
    simp only [Int.mul_comm, Int.mul_left_comm]
  have hs : 0 ≤ (X * y) * (X * y) := by
    by_cases h : 0 ≤ X * y
    · exact Int.mul_nonneg h h
    · exact Int.mul_nonneg_of_nonpos_of_nonpos (by omega) (by omega)
  generalize X * x = a at hp hd ⊢
  generalize Y * y = b at hp hd ⊢
  refine ⟨Int.not_lt.1 fun h => ?_, Int.not_lt.1 fun h => ?_⟩
  · have := Int.mul_neg_of_neg_of_pos (a := a) (b := b) h (by omega)
    omega
  · have := Int.mul_neg_of_pos_of_neg (a := a) (b := b) (by omega) h
    omega
theorem fold_box {X x Y y : Int} (hc : X * y = Y * x) (hd : X * x + Y * y > 0) : ((min 0 X ≤ x ∧ x ≤ max 0 X) ∧ (min 0 Y ≤ y ∧ y ≤ max 0 Y)) ∨ ((min 0 x ≤ X ∧ X ≤ max 0 x) ∧ (min 0 y ≤ Y ∧ Y ≤ max 0 y)) := by
  obtain ⟨h1, h2⟩ := same_side hc hd
  have b1 := between_or h1
  have b2 := between_or h2
  by_cases e1 : x = X
  · omega
  by_cases e2 : Y = y
  · omega
  have m1 := fun hx hy => mixed (X := X) (x := x) (Y := Y) (y := y) hx e1 hy e2 hc
  have m2 := fun hx hy => mixed (X := Y) (x := y) (Y := X) (y := x) hx (fun h => e2 h.symm) hy (fun h => e1 h.symm) hc.symm
  rcases b1 with b1 | b1
  · rcases b2 with b2 | b2
    · exact .inl ⟨b1, b2⟩
    · exact absurd b2 (m1 b1)
  · rcases b2 with b2 | b2
    · exact absurd b1 (m2 b2)
    · exact .inr ⟨b1, b2⟩
theorem dot_pos {X x Y y : Int} (hx : min 0 X ≤ x ∧ x ≤ max 0 X) (hy : min 0 Y ≤ y ∧ y ≤ max 0 Y) (hne : ¬ (x = 0 ∧ y = 0)) : X * x + Y * y > 0 := by
  have h1 : ∀ {X x : Int}, min 0 X ≤ x ∧ x ≤ max 0 X → 0 ≤ X * x ∧ (¬ x = 0 → 0 < X * x) := fun {X x} h => by
    by_cases hX : 0 ≤ X
    · exact ⟨Int.mul_nonneg hX (by omega), fun hz => Int.mul_pos (by omega) (by omega)⟩
    · exact ⟨Int.mul_nonneg_of_nonpos_of_nonpos (by omega) (by omega), fun hz => Int.mul_pos_of_neg_of_neg (by omega) (by omega)⟩
  have a1 := h1 hx
  have a2 := h1 hy
  by_cases hx0 : x = 0
  · have := a2.2 fun h => hne ⟨hx0, h⟩
    omega
  · have := a1.2 hx0
    omega
theorem cross_uv (ax ay bx by_ cx cy : Int) : crossI ax ay bx by_ cx cy = (ax - bx) * (by_ - cy) - (ay - by_) * (bx - cx) := by
  unfold crossI
  simp only [Int.mul_sub, Int.mul_comm]
  omega
theorem cross_cyc (ax ay bx by_ cx cy : Int) : crossI bx by_ cx cy ax ay = crossI ax ay bx by_ cx cy := by
  unfold crossI
  simp only [Int.mul_sub, Int.mul_comm]
  omega
theorem onB_iff {ax ay bx by_ px py : Int} : onB ax ay bx by_ px py = true ↔ crossI ax ay bx by_ px py = 0 ∧ (min ax bx ≤ px ∧ px ≤ max ax bx) ∧ (min ay by_ ≤ py ∧ py ≤ max ay by_) := by
  unfold onB
  simp only [Bool.and_eq_true, decide_eq_true_eq]
  constructor
  · rintro ⟨⟨⟨⟨h1, h2⟩, h3⟩, h4⟩, h5⟩; exact ⟨h1, ⟨h2, h3⟩, h4, h5⟩
  · rintro ⟨h1, ⟨h2, h3⟩, h4, h5⟩; exact ⟨⟨⟨⟨h1, h2⟩, h3⟩, h4⟩, h5⟩
theorem foldB_iff {ax ay bx by_ cx cy : Int} : foldB ax ay bx by_ cx cy = true ↔ crossI ax ay bx by_ cx cy = 0 ∧ (ax - bx) * (cx - bx) + (ay - by_) * (cy - by_) > 0 := by
  unfold foldB
  simp only [Bool.and_eq_true, decide_eq_true_eq]
theorem fold_on {ax ay bx by_ cx cy : Int} (h : foldB ax ay bx by_ cx cy = true) : onB ax ay bx by_ cx cy = true ∨ onB bx by_ cx cy ax ay = true := by
  obtain ⟨h1, h2⟩ := foldB_iff.1 h
  have hc : (ax - bx) * (cy - by_) = (ay - by_) * (cx - bx) := by
    have := cross_uv ax ay bx by_ cx cy
    rw [h1] at this
    have e1 : (ax - bx) * (by_ - cy) = - ((ax - bx) * (cy - by_)) := by rw [← Int.mul_neg]; congr 1; omega
    have e2 : (ay - by_) * (bx - cx) = - ((ay - by_) * (cx - bx)) := by rw [← Int.mul_neg]; congr 1; omega
    omega
  rcases fold_box hc h2 with ⟨g1, g2⟩ | ⟨g1, g2⟩
  · exact .inl (onB_iff.2 ⟨h1, by omega, by omega⟩)
  · exact .inr (onB_iff.2 ⟨by rw [cross_cyc]; exact h1, by omega, by omega⟩)
theorem on_fold1 {ax ay bx by_ cx cy : Int} (h : onB ax ay bx by_ cx cy = true) (hne : ¬ (bx, by_) = (cx, cy)) : foldB ax ay bx by_ cx cy = true := by
  obtain ⟨h1, h2, h3⟩ := onB_iff.1 h
  refine foldB_iff.2 ⟨h1, dot_pos (by omega) (by omega) fun ⟨e1, e2⟩ => hne ?_⟩
  rw [show bx = cx by omega, show by_ = cy by omega]
theorem on_fold2 {ax ay bx by_ cx cy : Int} (h : onB bx by_ cx cy ax ay = true) (hne : ¬ (ax, ay) = (bx, by_)) : foldB ax ay bx by_ cx cy = true := by
  obtain ⟨h1, h2, h3⟩ := onB_iff.1 h
  rw [cross_cyc] at h1
  have := dot_pos (X := cx - bx) (x := ax - bx) (Y := cy - by_) (y := ay - by_) (by omega) (by omega) fun ⟨e1, e2⟩ => hne (by rw [show ax = bx by omega, show ay = by_ by omega])
  refine foldB_iff.2 ⟨h1, ?_⟩
  rw [Int.mul_comm (ax - bx), Int.mul_comm (ay - by_)]
  exact this
theorem on_self (ax ay bx by_ : Int) : onB ax ay bx by_ ax ay = true := by
  refine onB_iff.2 ⟨?_, by omega, by omega⟩
  unfold crossI
  simp

/-! ### Polygons -/
theorem dup_iff {l : List (Int × Int)} : dupB l l.length = false ↔ ∀ i j, i < j → j < l.length → ¬ gS l i = gS l j := by
  unfold dupB
  rw [← Bool.not_eq_true, List.any_eq_true]
  constructor
  · intro h i j hij hj he
    refine h ⟨j, List.mem_range.2 hj, ?_⟩
    rw [List.any_eq_true]
    refine ⟨l[i], List.mem_take_iff_getElem.2 ⟨i, by omega, rfl⟩, ?_⟩
    unfold isP
    rw [← gS_get (by omega), he]
    simp
  · rintro h ⟨j, hj, hx⟩
    rw [List.any_eq_true] at hx
    obtain ⟨x, hx, he⟩ := hx
    obtain ⟨i, hi, rfl⟩ := List.mem_take_iff_getElem.1 hx
    have hj' := List.mem_range.1 hj
    unfold isP at he
    have := of_decide_eq_true he
    refine h i j (by omega) hj' ?_
    rw [gS_get (by omega), ← this]
theorem simple_same {l : List (Int × Int)} (hn : 3 ≤ l.length) : rSimpleB l = simpleB l := by
  rw [Bool.eq_iff_iff]
  unfold rSimpleB simpleB
  rw [Bool.and_eq_true]
  simp only [Bool.not_eq_true']
  have mod1 : ∀ i, i < l.length → (i + 1) % l.length = if i + 1 = l.length then 0 else i + 1 := fun i hi => by
    by_cases h : i + 1 = l.length
    · rw [if_pos h, h, Nat.mod_self]
    · rw [if_neg h, Nat.mod_eq_of_lt (by omega)]
  have mod2 : ∀ i, i < l.length → (i + 2) % l.length = if i + 2 < l.length then i + 2 else i + 2 - l.length := fun i hi => by
    by_cases h : i + 2 < l.length
    · rw [if_pos h, Nat.mod_eq_of_lt h]
    · rw [if_neg h, Nat.mod_eq_sub_mod (by omega), Nat.mod_eq_of_lt (by omega)]
  constructor
  · intro h
    have hno : ∀ i, i < l.length → rBadAt l i = false := fun i hi => by
      cases hb : rBadAt l i with
      | false => rfl
      | true => rw [range_any_no hi hb] at h; cases h
    have hp : ∀ i, i < l.length → (¬ gS l i = gS l ((i + 1) % l.length)) ∧ onB (gS l i).1 (gS l i).2 (gS l ((i + 1) % l.length)).1 (gS l ((i + 1) % l.length)).2 (gS l ((i + 2) % l.length)).1 (gS l ((i + 2) % l.length)).2 = false ∧
        onB (gS l ((i + 1) % l.length)).1 (gS l ((i + 1) % l.length)).2 (gS l ((i + 2) % l.length)).1 (gS l ((i + 2) % l.length)).2 (gS l i).1 (gS l i).2 = false ∧ meetsB l i l.length = false := fun i hi => by
      have := hno i hi
      unfold rBadAt at this
      simp only [Bool.or_eq_false_iff, decide_eq_false_iff_not] at this
      exact ⟨this.1.1.1, this.1.1.2, this.1.2, this.2⟩
    refine ⟨dup_iff.2 fun i j hij hj he => ?_, ?_⟩
    · by_cases h1 : j = i + 1
      · subst h1
        have := (hp i (by omega)).1
        rw [mod1 i (by omega), if_neg (by omega)] at this
        exact this he
      · by_cases h2 : i = 0 ∧ j + 1 = l.length
        · have := (hp j hj).1
          rw [mod1 j hj, if_pos h2.2] at this
          exact this (by rw [← h2.1, he])
        · have hm := (hp i (by omega)).2.2.2
          have hmod : ¬ (j + 1) % l.length = i := by
            rw [mod1 j hj]
            split <;> omega
          have : meetsB l i l.length = true := by
            unfold meetsB
            refine range_any_no hj ?_
            rw [decide_eq_true (by omega : i + 2 ≤ j), decide_eq_true hmod]
            simp only [Bool.true_and]
            unfold meetAt meetB
            rw [← he, on_self]
            rfl
          rw [this] at hm
          cases hm
    · unfold badB
      rw [← Bool.not_eq_true, List.any_eq_true]
      rintro ⟨i, hi, hb⟩
      have hi' := List.mem_range.1 hi
      obtain ⟨_, h2, h3, h4⟩ := hp i hi'
      rw [h4, Bool.or_false] at hb
      unfold foldAt at hb
      rcases fold_on hb with g | g
      · rw [h2] at g; cases g
      · rw [h3] at g; cases g
  · rintro ⟨hd, hb⟩
    have hd' := dup_iff.1 hd
    have hne : ∀ i j, i < l.length → j < l.length → ¬ i = j → ¬ gS l i = gS l j := fun i j hi hj hij he => by
      rcases Nat.lt_or_gt_of_ne hij with h | h
      · exact hd' i j h hj he
      · exact hd' j i h hi he.symm
    rw [← Bool.not_eq_true, List.any_eq_true]
    rintro ⟨i, hi, hx⟩
    have hi' := List.mem_range.1 hi
    have hnb : (foldAt l i || meetsB l i l.length) = false := by
      cases hc : (foldAt l i || meetsB l i l.length) with
      | false => rfl
      | true =>
        unfold badB at hb
        rw [range_any_no hi' hc] at hb
        cases hb
    rw [Bool.or_eq_false_iff] at hnb
    have l1 : (i + 1) % l.length < l.length := Nat.mod_lt _ (by omega)
    have l2 : (i + 2) % l.length < l.length := Nat.mod_lt _ (by omega)
    have n1 : ¬ gS l i = gS l ((i + 1) % l.length) := hne _ _ hi' l1 (by rw [mod1 i hi']; split <;> omega)
    have n2 : ¬ gS l ((i + 1) % l.length) = gS l ((i + 2) % l.length) := hne _ _ l1 l2 (by rw [mod1 i hi', mod2 i hi']; split <;> split <;> omega)
    unfold rBadAt at hx
    rw [hnb.2, Bool.or_false, decide_eq_false n1, Bool.false_or, Bool.or_eq_true] at hx
    have hf := hnb.1
    unfold foldAt at hf
    rcases hx with hx | hx
    · rw [on_fold1 hx n2] at hf
      cases hf
    · rw [on_fold2 hx n1] at hf
      cases hf
end Go.Proofs.YtckhibfbdnoigaaGreat

/- Arguments that came in, read as lists and structs. No program in sight. -/
namespace Go.Proofs.YtckhibfbdnoigaaGreat
open Go.ChangeShapes Go.WideShapes Go.ChangeAt Go.RowKit

theorem list_choose {α : Type} {Q : Nat → α → Prop} : ∀ n, (∀ i, i < n → ∃ x, Q i x) → ∃ l : List α, l.length = n ∧ ∀ k (hk : k < l.length), Q k l[k]
  | 0, _ => ⟨[], rfl, fun k hk => by cases hk⟩
  | n + 1, h => by
    obtain ⟨l, hl, hq⟩ := list_choose n fun i hi => h i (by omega)
    obtain ⟨x, hx⟩ := h n (by omega)
    refine ⟨l ++ [x], by simp [hl], fun k hk => ?_⟩
    by_cases hkl : k < l.length
    · rw [List.getElem_append_left hkl]; exact hq k hkl
    · have : k = n := by simp at hk; omega
      subst this
      rw [List.getElem_append_right (by omega)]
      simp [hl]
      exact hx
theorem cell_lt {w : World} {a : Addr} {u : Value} (h : w.cell? a = some u) : a.block < w.heap.size := by
  unfold World.cell? at h
  split at h
  · rename_i hh; exact (Array.getElem?_eq_some_iff.1 hh).1
  · cases h
theorem wf64 {n : Int} (h : (Lit.int .i64 n).wf = true) : inI64 n := by
  unfold Lit.wf at h
  simp only [Bool.and_eq_true, decide_eq_true_eq] at h
  exact h

section
variable {H : Type} {enc : TypeId × Value → H} {P : Program} {w : World} {base : Nat} {spare : Nat → Bool} {held : Bool}
theorem sl_of_trod {α : Type} {R : Rp α} {t e : TypeId} {fuel : Nat} {v : Value} {x : DataW H × List MemPlace} (ht : P.underlying t = some (.slice e)) (hC : P.cellsOf e = R.size) (hpos : 0 < R.size)
    (hel : ∀ (n : Nat) (cs : List Value) (y : DataW H × List MemPlace), cs.length = R.size → DataW.trod enc P w base spare held n e cs = some y → ∃ z, R.rep w (fun b => b < w.heap.size) z cs) (h : DataW.trod enc P w base spare held fuel t [v] = some x) :
    ∃ l, Sl R w w.heap.size v l := by
  rcases Go.Deep.open_slice ht h with ⟨hcs, _⟩ | ⟨a, len, cap, m, n, D, Pl, hcs, _, hl, hm, hmm, _, hi⟩
  · injection hcs with hv
    subst hv
    exact ⟨[], none, 0, rfl, Nat.le_refl _, Nat.zero_le _, fun k hk => by cases hk⟩
  · injection hcs with hv
    subst hv
    have hlm : len ≤ m := by rw [hmm]; split <;> omega
    obtain ⟨l, hll, hq⟩ := list_choose (Q := fun i z => a.block < w.heap.size ∧ ∃ cs, (∀ j u, cs[j]? = some u → w.cell? (a.add (i * R.size + j)) = some u) ∧ R.rep w (fun b => b < w.heap.size) z cs) len fun i hilt => by
      obtain ⟨cs', hc, htr⟩ := hi i (by omega)
      obtain ⟨_, hcl, hat⟩ := World.cells?_some hc
      rw [hC] at hc hcl hat
      obtain ⟨z, hz⟩ := hel n cs' _ hcl htr
      have hcell : ∀ j u, cs'[j]? = some u → w.cell? (a.add (i * R.size + j)) = some u := fun j u hu => by
        have hj : j < cs'.length := (List.getElem?_eq_some_iff.1 hu).1
        rw [← add_add, hat j (by omega), hu]
      refine ⟨z, ?_, cs', hcell, hz⟩
      have h0 := hcell 0 _ (List.getElem?_eq_getElem (by omega))
      have := cell_lt h0
      rwa [add_block] at this
    subst hll
    refine ⟨l, some a, cap, rfl, hl, hm, fun k hk => ?_⟩
    obtain ⟨hb, cs, hc, hr⟩ := hq k hk
    exact ⟨a, cs, rfl, hb, hc, hr⟩

/-- The type of a field that is one cell, at its place. -/
def fieldT (P : Program) (e : TypeId) (i : Nat) : Option TypeId := match P.underlying e with
  | some (.struct fs) => match fs[i]? with
    | some f => bif Nat.beq f.offset i && Nat.beq (P.cellsOf f.type) 1 then some f.type else none
    | none => none
  | _ => none
theorem field_trod {e ft : TypeId} {i n : Nat} {cs : List Value} {x : DataW H × List MemPlace} {c : Value} (h : DataW.trod enc P w base spare held n e cs = some x) (hf : fieldT P e i = some ft) (hc : cs[i]? = some c) :
    ∃ m y, DataW.trod enc P w base spare held m ft [c] = some y := by
  unfold fieldT at hf
  split at hf
  · rename_i fs hu
    split at hf
    · rename_i f hfi
      cases hb : (Nat.beq f.offset i && Nat.beq (P.cellsOf f.type) 1) with
      | false => rw [hb] at hf; cases hf
      | true =>
        rw [hb] at hf
        simp only [cond_true, Option.some.injEq] at hf
        subst hf
        rw [Bool.and_eq_true] at hb
        have h1 : f.offset = i := Nat.eq_of_beq_eq_true hb.1
        have h2 : P.cellsOf f.type = 1 := Nat.eq_of_beq_eq_true hb.2
        obtain ⟨xs, m, _, _, _, hlen, hg⟩ := DataW.trod_struct hu h
        have h3 := hg i f hfi
        have hi : i < fs.size := (Array.getElem?_eq_some_iff.1 hfi).1
        rw [h1, h2, List.getElem?_eq_getElem (by omega)] at h3
        have h4 : (cs.drop i).take 1 = [c] := by
          obtain ⟨hlt, hget⟩ := List.getElem?_eq_some_iff.1 hc
          rw [List.drop_eq_getElem_cons hlt, hget]
          rfl
        rw [h4] at h3
        exact ⟨m, _, h3⟩
    · cases hf
  · cases hf
theorem int_trod {t : TypeId} {n : Nat} {c : Value} {x : DataW H × List MemPlace} (ht : P.underlying t = some (.int .i64)) (h : DataW.trod enc P w base spare held n t [c] = some x) : ∃ i, c = .int .i64 i ∧ inI64 i := by
  obtain ⟨i, hc, _, hw⟩ := DataW.trod_int ht h
  injection hc with hc
  exact ⟨i, hc, wf64 hw⟩
theorem str_trod {t : TypeId} {n : Nat} {c : Value} {x : DataW H × List MemPlace} (ht : P.underlying t = some .string) (h : DataW.trod enc P w base spare held n t [c] = some x) : ∃ s : ByteArray, c = .string s ∧ s.size ≤ maxLen := by
  obtain ⟨i, hc, _, hw⟩ := DataW.trod_string ht h
  injection hc with hc
  exact ⟨i, hc, hw⟩
theorem bool_trod {t : TypeId} {n : Nat} {c : Value} {x : DataW H × List MemPlace} (ht : P.underlying t = some .bool) (h : DataW.trod enc P w base spare held n t [c] = some x) : ∃ b, c = .bool b := by
  obtain ⟨i, hc, _⟩ := DataW.trod_bool ht h
  injection hc with hc
  exact ⟨i, hc⟩
theorem ints_trod {t e : TypeId} {n : Nat} {c : Value} {x : DataW H × List MemPlace} (ht : P.underlying t = some (.slice e)) (he : P.underlying e = some (.int .i64)) (hC : P.cellsOf e = 1) (h : DataW.trod enc P w base spare held n t [c] = some x) :
    ∃ l, Sl rInt w w.heap.size c l :=
  sl_of_trod (R := rInt) ht hC (by decide) (fun n cs y hl hy => by
    obtain ⟨i, hc, _, hw⟩ := DataW.trod_int he hy
    exact ⟨i, hc, wf64 hw⟩) h
end
end Go.Proofs.YtckhibfbdnoigaaGreat

/- An empty slice literal. No program in sight. -/
namespace Go.Proofs.YtckhibfbdnoigaaGreat
open Go.RowKit

end Go.Proofs.YtckhibfbdnoigaaGreat

/- A collection of resources whose number is not known: one is taken out, turned, and put back. No program in sight. -/
namespace Go.Proofs.YtckhibfbdnoigaaGreat
open Go.RowKit

theorem St.same {w0 w : World} {r q : Res} {L : List Res} (s : St w0 (r :: L) w) (hf : ∀ b, q.fp b → r.fp b) (hp : q.p w) : St w0 (q :: L) w := ⟨s.below, hp, fun b hb => s.sep.2.1 b (hf b hb), fun b hb => s.sep.2.2.1 b (hf b hb), s.sep.2.2.2⟩
end Go.Proofs.YtckhibfbdnoigaaGreat

/- Pointers and nil, arrays that are values. No program in sight. -/
namespace Go.Proofs.YtckhibfbdnoigaaGreat
open Go.RowKit
section
variable {P : Program} {ops : Array Oper} {N : Nat} {w0 : World} {L L' : List Res} {e : Env} {o : Oper} {t : TypeId} {x y ix : Operand} {a : Addr} {v z : Value} {n m : Nat}
end
end Go.Proofs.YtckhibfbdnoigaaGreat

/- Reading what was built: slices over own cells. No program in sight. -/
namespace Go.Proofs.YtckhibfbdnoigaaGreat
open Go.RowKit
set_option maxRecDepth 100000
set_option maxHeartbeats 2000000

section
variable {P : Program} {ops : Array Oper} {N : Nat} {w0 : World} {L : List Res} {rest : List Oper} {t : TypeId} {x y : Operand} {z : Value} {el sz by_ d : Nat} {ty : TypeId} {pos : String} {af : Array Edge} {g : Option (Nat × Bool)}
variable {X : Type} [Inhabited X] {pl : Nat → List Nat} {tail : ((Nat → X) → Env) → (Nat → (Nat → X) → List Res) → Prop} {i : Nat} {E : (Nat → X) → Env} {RL : Nat → (Nat → X) → List Res}
theorem gb_makeN [CSlice P t el sz] [CZero P el z] [CBytes P el by_] {n : Nat} {kl kc : IntKind} {l c : Int} {cells : Array Value} (inj : Nat → X) (bk : X → Nat) (hbk : ∀ b, bk (inj b) = b) (hw : ∀ γ, wantedE N ops (E γ) ⟨some d, .makeSlice t x y, ty, pos, af, g⟩ = true)
    (hx : ∀ γ, ev N (E γ) x = .int kl l) (hy : ∀ γ, ev N (E γ) y = .int kc c) (hl : l = (n : Int)) (hc : c = (n : Int)) (hb : by_ * n ≤ 281474976710656) (hn : n ≤ 9223372036854775807) (hm : madeCells z.cells (n * sz) = cells)
    (k : GB P ops N w0 L pl tail (i + 1) rest (fun β => upd (E β) d (.slice (some ⟨bk (β i), 0, none⟩) n n)) (fun j β => bif Nat.beq j i then [Box (bk (β i)) el cells] else RL j β)) :
    GB P ops N w0 L pl tail i (⟨some d, .makeSlice t x y, ty, pos, af, g⟩ :: rest) E RL := by
  subst hm
  refine gb_make (V := fun _ x => .slice (some ⟨bk x, 0, none⟩) n n) (R := fun _ x => [Box (bk x) el (madeCells z.cells (n * sz))]) (fun γ => ⟨hw γ, fun w s => ?_⟩) (fun _ _ => ⟨rfl, rfl⟩) (fun _ => ⟨rfl, rfl⟩) k
  have ht := CSlice.h (P := P) (t := t) (el := el) (sz := sz)
  have hz := CZero.h (P := P) (t := el) (z := z)
  have hby := CBytes.h (P := P) (t := el) (n := by_)
  unfold sliceSz at ht
  split at ht
  · rename_i el' hu
    obtain ⟨i, hinfo, heq⟩ := Option.map_eq_some_iff.1 ht
    injection heq with h1 h2
    subst h1 h2 hl hc
    obtain ⟨i', hi', hzi⟩ := Option.bind_eq_some_iff.1 hz
    rw [hinfo] at hi'
    injection hi' with hi'
    subst hi'
    unfold bytesB at hby
    rw [hinfo] at hby
    have hby' : i.bytes = by_ := by simpa using hby
    subst hby'
    have hr := run_make (P := P) w t el' i z hu hinfo hzi kl kc n n (by omega) (by omega) (by
      have : ((i.bytes * n : Nat) : Int) ≤ 281474976710656 := by omega
      rwa [Int.natCast_mul] at this) (by omega)
    simp only [Int.toNat_natCast] at hr
    have hr2 : (execOp (ev N (E γ)) ⟨some d, .makeSlice t x y, ty, pos, af, g⟩).run P w = .ok (.value (.slice (some ⟨w.heap.size, 0, none⟩) n n)) (w.alloc (.cells (madeCells z.cells (n * i.size)) el')) := by
      unfold execOp
      simp [hx, hy, hr]
    unfold Step
    rw [hr2]
    exact ⟨ext_alloc w _, inj w.heap.size, by rw [hbk], by rw [hbk]; exact made_box w el' _⟩
  · cases ht
end

/-! ### Reading what was built -/
def RepsFrom {α : Type} (R : Rp α) (w : World) : List α → List Value → Prop
  | [], _ => True
  | x :: l, cs => R.rep w (fun b => b < w.heap.size) x (cs.take R.size) ∧ RepsFrom R w l (cs.drop R.size)
theorem reps_at {α : Type} {R : Rp α} {w : World} : ∀ {l : List α} {cs : List Value}, RepsFrom R w l cs → ∀ k (hk : k < l.length), R.rep w (fun b => b < w.heap.size) l[k] ((cs.drop (k * R.size)).take R.size)
  | x :: l, cs, h, 0, _ => by simpa using h.1
  | x :: l, cs, h, k + 1, hk => by
    have := reps_at h.2 k (by simpa using hk)
    rw [List.drop_drop] at this
    rwa [show R.size + k * R.size = (k + 1) * R.size by rw [Nat.succ_mul]; omega] at this
theorem Sl.ofCells {α : Type} {R : Rp α} {w : World} {b n c : Nat} {cs : Array Value} {ty : TypeId} {l : List α} (hb : w.heap[b]? = some (.cells cs ty (0, 0))) (hn : n = l.length) (hc : n ≤ c) (hc2 : c ≤ 1000) (h : RepsFrom R w l cs.toList) : Sl R w w.heap.size (.slice (some ⟨b, 0, none⟩) n c) l := by
  subst hn
  refine ⟨_, c, rfl, hc, by unfold maxLen; omega, fun k hk => ⟨⟨b, 0, none⟩, _, rfl, (Array.getElem?_eq_some_iff.1 hb).1, fun j u hu => ?_, reps_at h k hk⟩⟩
  rw [add_zero]
  simp only [World.cell?, hb]
  rw [List.getElem?_take] at hu
  split at hu
  · rw [List.getElem?_drop] at hu
    simpa using hu
  · cases hu
theorem Sl.nil {α : Type} (R : Rp α) (w : World) : Sl R w w.heap.size (.slice none 0 0) ([] : List α) := ⟨none, 0, rfl, Nat.le_refl _, Nat.zero_le _, fun k hk => by cases hk⟩

theorem inI {i : Int} (h : decide (-9223372036854775808 ≤ i ∧ i ≤ 9223372036854775807) = true) : inI64 i := by unfold inI64; exact of_decide_eq_true h
theorem row_set {α : Type} (f : α → Value) {l : List α} {m : Nat} (hm : m < l.length) (x : α) : ((l.map f).toArray.toList.take (m * 1) ++ [f x] ++ (l.map f).toArray.toList.drop (m * 1 + 1)).toArray = ((l.set m x).map f).toArray := by
  rw [Nat.mul_one, List.map_set, List.set_eq_take_append_cons_drop, if_pos (by simpa using hm)]
  simp
theorem row_get {α : Type} (f : α → Value) {l : List α} (d : α) {m : Nat} (hm : m < l.length) : (l.map f).toArray[m * 1]? = some (f (l.getD m d)) := by
  simp [hm]
theorem row_make {α : Type} (f : α → Value) (n : Nat) (x : α) : Array.replicate n (f x) = ((List.replicate n x).map f).toArray := by
  rw [List.map_replicate]
  simp
end Go.Proofs.YtckhibfbdnoigaaGreat

/- Regions that draw their order and hold an operation that changes what the function owns: in whatever order. No program in sight. -/
namespace Go.Proofs.YtckhibfbdnoigaaGreat
open Go.RowKit

section
variable {X : Type} [Inhabited X] {P : Program} {ops : Array Oper} {Q : Exit → Act → World → Prop} {N : Nat} {w0 : World} {L : List Res} {rest : List Oper} {e : Env} {o : Oper}

/-- What the operation gives is known. -/
def StepG (P : Program) (ρ : Operand → Value) (o : Oper) (w : World) (φ : Value → World → Prop) : Prop :=
  match (execOp ρ o).run P w with
  | .ok (.value v) w' => φ v w'
  | .ok .skip w' => φ undef w'
  | .ok (.enter f args) w' => Ok P f args w' φ
  | _ => False
def setB (ls : Nat → Bool) (i : Nat) : Nat → Bool := fun j => if i = j then true else ls j
theorem StepG.congr {ρ ρ' : Operand → Value} {w : World} {φ : Value → World → Prop} (hs : ∀ cs b, o.op ≠ .select cs b) (h : ∀ x ∈ o.op.operands, ρ x = ρ' x) (k : StepG P ρ o w φ) : StepG P ρ' o w φ := by
  unfold StepG at *
  rwa [← execOp_congr o hs h]
theorem opJ_wpOp {i : Nat} {K : Act → World → Prop} {w : World} {E : Env} {φ : Value → World → Prop} (hi : ops[i]? = some o) (hs : ∀ cs b, o.op ≠ .select cs b)
    (hwt : wantedE N ops E o = true) (hst : StepG P (ev N E) o w φ) (hsame : ∀ t ∈ o.looksAt ops, E t = e t) (k : ∀ v w', φ v w' → K (mk N (updO e o.dst v)) w') : wpOp P ops Q i K (mk N e) w := by
  have hw : wantedE N ops E o = wantedE N ops e o := by
    unfold wantedE
    cases hg : o.guard with
    | none => rfl
    | some g =>
      obtain ⟨j, want⟩ := g
      cases hj : (ops[j]?).bind (·.dst) with
      | none => simp only [hj]
      | some d => simp only [hj, hsame d (looks_guard hg hj)]
  unfold wpOp
  simp only [hi]
  rw [hw] at hwt
  rw [if_pos (by rw [wanted_mk]; exact hwt)]
  refine .inl ?_
  have hstep := StepG.congr (ρ' := ev N e) hs (fun x hx => by
    cases x with
    | tmp t =>
      show (bif Nat.blt t N then E t else undef) = (bif Nat.blt t N then e t else undef)
      rw [hsame t (looks_operand hx)]
    | const v => rfl
    | global g => rfl
    | func f => rfl) hst
  unfold Oper.wp
  rw [mk_eval]
  unfold StepG at hstep
  split at hstep
  · rename_i hr
    rw [hr]
    show K ((mk N e).put o.dst _) _
    rw [mk_put]
    exact k _ _ hstep
  · rename_i hr
    rw [hr]
    show K ((mk N e).put o.dst undef) _
    rw [mk_put]
    exact k _ _ hstep
  · rename_i hr
    rw [hr]
    refine Calls.mono hstep ?_
    rintro y w'' ⟨v, rfl, _, hv⟩
    show K ((mk N e).put o.dst v) w''
    rw [mk_put]
    exact k _ _ hv
  · exact hstep.elim

set_option maxHeartbeats 1000000 in
theorem any_blockJ {k : Nat} {pl : Nat → List Nat} (hok : blockOk ops k pl = true) {e : Env} {V : Nat → (Nat → X) → Value} {J : (Nat → Bool) → (Nat → X) → World → Prop}
    (hop : ∀ (i : Nat) (o : Oper) (ls : Nat → Bool) (β : Nat → X) (w : World), ops[i]? = some o → i < k → ls i = false → (∀ j ∈ pl i, ls j = true) → J ls β w → wantedE N ops (envAt e (ops.toList.take i) (vals pl V i (restr (i :: pl i) β))) o = true ∧
      StepG P (ev N (envAt e (ops.toList.take i) (vals pl V i (restr (i :: pl i) β)))) o w fun v w' => ∃ x, v = V i (setF (restr (i :: pl i) β) i x) ∧ J (setB ls i) (setF β i x) w')
    (htail : ∀ (ls : Nat → Bool) (β : Nat → X) (w : World), (∀ i, i < k → ls i = true) → J ls β w → wpList P ops Q (ops.toList.drop k) (mk N (envAt e (ops.toList.take k) (vals pl V k β))) w) :
    ∀ (fuel : Nat) (listed : Array Bool) (β : Nat → X) (e' : Env) (w : World), listed.size = ops.size → listedCount listed ops.size + fuel = ops.size → (∀ i, k ≤ i → listed.getD i false = false) →
      (∀ i, i < k → listed.getD i false = true → ∀ j ∈ pl i, listed.getD j false = true) →
      (∀ (i : Nat) (o : Oper) (d : Nat), i < k → listed.getD i false = true → ops[i]? = some o → o.dst = some d → e' d = V i (restr (i :: pl i) β)) →
      (∀ t, (∀ (i : Nat) (o : Oper), i < k → listed.getD i false = true → ops[i]? = some o → o.dst ≠ some t) → e' t = e t) →
      J (fun j => listed.getD j false) β w → wpAny P .any ops Q fuel listed (mk N e') w := by
  have hkn : k ≤ ops.size := by
    unfold blockOk at hok
    rw [Bool.and_eq_true] at hok
    exact Nat.le_of_ble_eq_true hok.1
  have huniq : ∀ (i j : Nat) (oi oj : Oper) (d : Nat), i < k → j < k → ops[i]? = some oi → ops[j]? = some oj → oi.dst = some d → oj.dst = some d → i = j := fun i j oi oj d hi hj hoi hoj hdi hdj => by
    have := ((bOk_first (bOk_of hok hoi) hi).dst j d hj (by simp [hoj, hdj])).1
    rcases this with h | h
    · exact h.symm
    · exact absurd hdi h
  have hvget : ∀ (n j : Nat) (β : Nat → X), j < n → (vals pl V n β)[j]? = some (V j (restr (j :: pl j) β)) := fun n j β hj => by
    unfold vals
    rw [List.getElem?_map, List.getElem?_range hj]
    rfl
  have hspec : ∀ i, i ≤ k → ∀ (β : Nat → X) (t : Nat), ((∀ (j : Nat) (oj : Oper), j < i → ops[j]? = some oj → oj.dst ≠ some t) → envAt e (ops.toList.take i) (vals pl V i β) t = e t) ∧
      (∀ (j : Nat) (oj : Oper), j < i → ops[j]? = some oj → oj.dst = some t → envAt e (ops.toList.take i) (vals pl V i β) t = V j (restr (j :: pl j) β)) := fun i hi β t => by
    have hget : ∀ (j : Nat) (oj : Oper), (ops.toList.take i)[j]? = some oj ↔ j < i ∧ ops[j]? = some oj := fun j oj => by
      rw [List.getElem?_take]
      by_cases hji : j < i
      · simp [hji]
      · simp [hji]
    have h := envAt_spec (ops.toList.take i) (vals pl V i β) e t (by simp [vals]; omega) (fun a b oa ob ha hb hda hdb => by
      obtain ⟨ha1, ha2⟩ := (hget a oa).1 ha
      obtain ⟨hb1, hb2⟩ := (hget b ob).1 hb
      exact huniq a b oa ob t (by omega) (by omega) ha2 hb2 hda hdb)
    exact ⟨fun hn => h.1 fun j oj hj => hn j oj ((hget j oj).1 hj).1 ((hget j oj).1 hj).2, fun j oj hji hoj hd => h.2 j oj _ ((hget j oj).2 ⟨hji, hoj⟩) hd (hvget i j β hji)⟩
  -- all of the first k are listed: the rest
  have finish : ∀ (fuel : Nat) (listed : Array Bool) (β : Nat → X) (e' : Env) (w : World), listed.size = ops.size → k + fuel = ops.size → (∀ i, k ≤ i → listed.getD i false = false) → (∀ i, i < k → listed.getD i false = true) →
      (∀ (i : Nat) (o : Oper) (d : Nat), i < k → listed.getD i false = true → ops[i]? = some o → o.dst = some d → e' d = V i (restr (i :: pl i) β)) →
      (∀ t, (∀ (i : Nat) (o : Oper), i < k → listed.getD i false = true → ops[i]? = some o → o.dst ≠ some t) → e' t = e t) →
      J (fun j => listed.getD j false) β w → wpAny P .any ops Q fuel listed (mk N e') w := by
    intro fuel listed β e' w hsz hf hrest hall hval hold s
    have he : e' = envAt e (ops.toList.take k) (vals pl V k β) := by
      funext t
      have hs := hspec k (Nat.le_refl _) β t
      by_cases hex : ∃ (j : Nat) (oj : Oper), j < k ∧ ops[j]? = some oj ∧ oj.dst = some t
      · obtain ⟨j, oj, hj, hoj, hd⟩ := hex
        rw [hval j oj t hj (hall j hj) hoj hd, hs.2 j oj hj hoj hd]
      · rw [hold t fun i oi hi _ hoi hd => hex ⟨i, oi, hi, hoi, hd⟩, hs.1 fun j oj hj hoj hd => hex ⟨j, oj, hj, hoj, hd⟩]
    have hw := htail _ β w (fun i hi => hall i hi) s
    rw [← he] at hw
    refine any_rest' hok fuel k listed _ w (Nat.le_refl _) hf hsz (fun i hi => ?_) hw
    have hi' : i < listed.size := by omega
    by_cases hik : i < k
    · have h1 := hall i hik
      simp only [Array.getD_eq_getD_getElem?, hi', getElem?_pos, Option.getD_some] at h1 ⊢
      rw [h1]; simp [hik]
    · have h1 := hrest i (by omega)
      simp only [Array.getD_eq_getD_getElem?, hi', getElem?_pos, Option.getD_some] at h1 ⊢
      rw [h1]; simp [hik]
  have hsplit : ∀ (listed : Array Bool) (n : Nat), (∀ i, k ≤ i → listed.getD i false = false) → (∀ i, i < k → listed.getD i false = true) → listedCount listed n = min n k := by
    intro listed n h1 h2
    induction n with
    | zero => simp [listedCount]
    | succ n ihn =>
      rw [count_succ, ihn]
      by_cases hnk : n < k
      · rw [h2 n hnk]; simp; omega
      · rw [h1 n (by omega)]; simp; omega
  intro fuel
  induction fuel with
  | zero =>
    intro listed β e' w hsz hcnt hrest hcl hval hold s
    have hall := count_all ops.size (by omega : listedCount listed ops.size = ops.size)
    by_cases hk : k < ops.size
    · have h1 := hall k hk
      rw [hrest k (Nat.le_refl _)] at h1
      cases h1
    · exact finish 0 listed β e' w hsz (by omega) hrest (fun i hi => hall i (by omega)) hval hold s
  | succ fuel ih =>
    intro listed β e' w hsz hcnt hrest hcl hval hold s
    by_cases hfirst : ∃ i, i < k ∧ listed.getD i false = false
    · have hleast : ∃ i, (i < k ∧ listed.getD i false = false) ∧ ∀ j, j < i → j < k → listed.getD j false = true := by
        obtain ⟨n, hn, hmin⟩ := exists_least hfirst
        refine ⟨n, hn, fun j hj hjk => ?_⟩
        cases hb : listed.getD j false with
        | true => rfl
        | false => have := hmin j ⟨hjk, hb⟩; omega
      obtain ⟨i0, ⟨hi0, hun0⟩, hmin⟩ := hleast
      have hi0n : i0 < ops.size := by omega
      have hready0 : i0 ∈ Region.ready .any ops listed := by
        rw [mem_ready]
        refine ⟨?_, _, Array.getElem?_eq_getElem hi0n, fun x hx hb => ?_⟩
        · have : i0 < listed.size := by omega
          simpa [this] using hun0
        · have := bOk_edge (bOk_of hok (Array.getElem?_eq_getElem hi0n)) x hx hb
          exact hmin x.on this (by omega)
      refine ⟨fun h0 => (by rw [h0] at hready0; cases hready0), fun i hi => ?_⟩
      obtain ⟨hun, oi, hoi, hall⟩ := mem_ready.1 hi
      have hilt := (Array.getElem?_eq_some_iff.1 hoi).1
      have hilt' : i < listed.size := by omega
      have hun' : listed.getD i false = false := by simpa [hilt'] using hun
      have hik : i < k := by
        rcases Nat.lt_or_ge i k with h | h
        · exact h
        · rcases bOk_rest (bOk_of hok hoi) (by omega) with ⟨_, h1⟩ | ⟨h1, h2⟩
          · rcases h1 i0 hi0 with h2 | ⟨j', hj', h2, h3⟩
            · have := bindsOn_listed h2 hall
              rw [hun0] at this
              cases this
            · have := hcl j' hj' (bindsOn_listed h2 hall) i0 h3
              rw [hun0] at this
              cases this
          · have := bindsOn_listed h2 hall
            rw [hrest (i - 1) (by omega)] at this
            cases this
      have hB := bOk_first (bOk_of hok hoi) hik
      have hpl : ∀ j ∈ pl i, listed.getD j false = true := fun j hj => by
        rcases (hB.pred j hj).2 with h | ⟨j', h, hjj⟩
        · exact bindsOn_listed h hall
        · have hj' : j' < k := by
            unfold bindsOn at h
            obtain ⟨x, hx, hb⟩ := Array.any_eq_true'.1 h
            simp only [Bool.and_eq_true, beq_iff_eq] at hb
            have := (hB.edge x hx hb.1).1
            omega
          exact hcl j' hj' (bindsOn_listed h hall) j hjj
      have hplt : ∀ j ∈ pl i, j < i := fun j hj => (hB.pred j hj).1
      have hrr : ∀ j ∈ pl i, restr (j :: pl j) (restr (i :: pl i) β) = restr (j :: pl j) β := fun j hj => restr_restr β fun m hm => by
        rcases List.mem_cons.1 hm with rfl | hm
        · exact List.mem_cons_of_mem _ hj
        · exact List.mem_cons_of_mem _ (pl_trans hok i hik j hj m hm)
      have hsame : ∀ t ∈ oi.looksAt ops, envAt e (ops.toList.take i) (vals pl V i (restr (i :: pl i) β)) t = e' t := fun t ht => by
        have hs := hspec i (by omega) (restr (i :: pl i) β) t
        by_cases hex : ∃ (j : Nat) (oj : Oper), j < k ∧ ops[j]? = some oj ∧ oj.dst = some t
        · obtain ⟨j, oj, hj, hoj, hdj⟩ := hex
          have hji := (hB.dst j t hj (by simp [hoj, hdj])).2 ht
          rw [hs.2 j oj (hplt j hji) hoj hdj, hval j oj t hj (hpl j hji) hoj hdj, hrr j hji]
        · rw [hs.1 fun j oj hj hoj hd => hex ⟨j, oj, by omega, hoj, hd⟩, hold t fun j oj hj _ hoj hd => hex ⟨j, oj, hj, hoj, hd⟩]
      have hst := hop i oi (fun j => listed.getD j false) β w hoi hik hun' hpl s
      refine opJ_wpOp (e := e') hoi (bOk_select (bOk_of hok hoi)) hst.1 hst.2 hsame fun v w' hxx => ?_
      obtain ⟨x, rfl, hm⟩ := hxx
      have hset : ∀ j, (listed.setIfInBounds i true).getD j false = if i = j then true else listed.getD j false := fun j => by
        by_cases hij : i = j
        · subst hij; simp [hilt']
        · rw [getD_set_ne false hij, if_neg hij]
      have hri : restr (i :: pl i) (setF β i x) = setF (restr (i :: pl i) β) i x := restr_set List.mem_cons_self
      have hrj : ∀ j, j < k → listed.getD j false = true → restr (j :: pl j) (setF β i x) = restr (j :: pl j) β := fun j hj hl => restr_set_not fun hm => by
        rcases List.mem_cons.1 hm with rfl | hm
        · rw [hun'] at hl; cases hl
        · have := hcl j hj hl i hm
          rw [hun'] at this
          cases this
      refine ih _ (setF β i x) _ w' (by simpa using hsz) ?_ (fun j hj => ?_) (fun j hj hl m hm => ?_) (fun j oj d hj hl hoj hdj => ?_) (fun t ht => ?_) ?_
      · rw [count_set hilt' hun', if_pos hilt]; omega
      · rw [hset, if_neg (by omega)]; exact hrest j hj
      · rw [hset] at hl ⊢
        by_cases hij : i = j
        · subst hij
          split
          · rfl
          · exact hpl m hm
        · rw [if_neg hij] at hl
          split
          · rfl
          · exact hcl j hj hl m hm
      · rw [hset] at hl
        by_cases hij : i = j
        · subst hij
          rw [hoi] at hoj
          injection hoj with hoj
          subst hoj
          rw [hdj, hri]
          show upd e' d _ d = _
          rw [upd_apply, if_pos rfl]
        · rw [if_neg hij] at hl
          have := hval j oj d hj hl hoj hdj
          rw [hrj j hj hl]
          cases hdi : oi.dst with
          | none => exact this
          | some d' =>
            show upd e' d' _ d = _
            rw [upd_apply, if_neg]
            · exact this
            · intro heq
              subst heq
              exact hij (huniq i j oi oj d hik hj hoi hoj hdi hdj)
      · have h1 : e' t = e t := hold t fun j oj hj hl hoj => ht j oj hj (by rw [hset, hl]; split <;> rfl) hoj
        have h2 := ht i oi hik (by rw [hset, if_pos rfl]) hoi
        cases hdi : oi.dst with
        | none => exact h1
        | some d' =>
          show upd e' d' _ t = e t
          rw [upd_apply, if_neg]
          · exact h1
          · intro heq
            exact h2 (by rw [hdi, heq])
      · have hls : (fun j => (listed.setIfInBounds i true).getD j false) = setB (fun j => listed.getD j false) i := funext fun j => hset j
        rw [hls]
        exact hm
    · have hlist : ∀ i, i < k → listed.getD i false = true := fun i hi => by
        cases hb : listed.getD i false with
        | true => rfl
        | false => exact absurd ⟨i, hi, hb⟩ hfirst
      have hcount : listedCount listed ops.size = k := by rw [hsplit listed _ hrest hlist]; omega
      exact finish (fuel + 1) listed β e' w hsz (by omega) hrest hlist hval hold s


/-- A REGION THAT DRAWS: the first k operations in whatever order, under an invariant J of what is held; then the rest. -/
theorem gc_blockJ {id : Nat} {l : List Oper} (X : Type) [Inhabited X] (k : Nat) (pl : Nat → List Nat) (V : Nat → (Nat → X) → Value) (J : (Nat → Bool) → (Nat → X) → World → Prop) (hm : P.follows .mixedOrders = true) (hok : blockOk l.toArray k pl = true)
    (h0 : ∀ w, St w0 L w → J (fun _ => false) (fun _ => default) w)
    (hop : ∀ (i : Nat) (o : Oper) (ls : Nat → Bool) (β : Nat → X) (w : World), l[i]? = some o → i < k → ls i = false → (∀ j ∈ pl i, ls j = true) → J ls β w → wantedE N l.toArray (envAt e (l.take i) (vals pl V i (restr (i :: pl i) β))) o = true ∧
      StepG P (ev N (envAt e (l.take i) (vals pl V i (restr (i :: pl i) β)))) o w fun v w' => ∃ x, v = V i (setF (restr (i :: pl i) β) i x) ∧ J (setB ls i) (setF β i x) w')
    (htail : ∀ (ls : Nat → Bool) (β : Nat → X) (w : World), (∀ i, i < k → ls i = true) → J ls β w → wpList P l.toArray Q (l.drop k) (mk N (envAt e (l.take k) (vals pl V k β))) w) : GC P Q N w0 L (.region id l.toArray true) e := ⟨fun w s => by
  refine wp_region_any hm (any_blockJ (X := X) (V := V) (J := J) (k := k) (pl := pl) (e := e) hok (fun i o ls β w hi => hop i o ls β w (by simpa using hi)) htail l.toArray.size _ (fun _ => default) e _ (by simp) ?_ ?_ ?_ ?_ (fun _ _ => rfl) ?_)
  · have : listedCount (Array.replicate l.toArray.size false) l.toArray.size = 0 := by
      unfold listedCount
      rw [List.length_eq_zero_iff, List.filter_eq_nil_iff]
      intro i _
      by_cases hi : i < l.length <;> simp [hi]
    omega
  · intro i _
    by_cases hi : i < l.length <;> simp [hi]
  · intro i _ hl'
    by_cases hi : i < l.length <;> simp [hi] at hl'
  · intro i o d _ hl'
    by_cases hi : i < l.length <;> simp [hi] at hl'
  · have hf : (fun j => (Array.replicate l.toArray.size false).getD j false) = fun _ => false := by
      funext j
      by_cases hi : j < l.length <;> simp [hi]
    rw [hf]
    exact h0 _ (s.ext (Ext.drawn w _))⟩
theorem detG {E : Env} {c : Value} {φ : Value → World → Prop} {w : World} (hd : Det P ops N w0 L o E c) (hw : wantedE N ops E o = true) (s : St w0 L w) (k : ∀ w', Ext w w' → φ c w') : wantedE N ops E o = true ∧ StepG P (ev N E) o w φ := by
  refine ⟨hw, ?_⟩
  rcases hd with ⟨_, h⟩ | ⟨h, _⟩
  · have h1 := h w s
    unfold Step at h1
    unfold StepG
    split at h1
    · rename_i v w' hr
      rw [hr]
      show φ v w'
      rw [h1.2]
      exact k _ h1.1
    · rename_i w' hr
      rw [hr]
      show φ undef w'
      rw [h1.2]
      exact k _ h1.1
    · rename_i hr
      rw [hr]
      exact h1.2.mono fun v w' hx hv => by rw [hv]; exact k _ (h1.1.trans hx)
    · exact h1.elim
  · rw [hw] at h; cases h
theorem StepG.mono {ρ : Operand → Value} {w : World} {φ ψ : Value → World → Prop} (h : StepG P ρ o w φ) (k : ∀ v w', φ v w' → ψ v w') : StepG P ρ o w ψ := by
  unfold StepG at *
  split at h
  · exact k _ _ h
  · exact k _ _ h
  · exact Ok.mono h fun v w' _ hv => k v w' hv
  · exact h.elim
end
end Go.Proofs.YtckhibfbdnoigaaGreat

/- Drawn regions that make variables and store into them. No program in sight. -/
namespace Go.Proofs.YtckhibfbdnoigaaGreat
open Go.RowKit
section
variable {P : Program} {N : Nat} {w0 : World} {L L' : List Res} {e : Env}
theorem stepG_alloc {t : Nat} {z : Value} [CZero P t z] {d : Nat} {ty : TypeId} {pos : String} {af : Array Edge} {g : Option (Nat × Bool)} {w : World} (s : St w0 L w) :
    StepG P (ev N e) ⟨some d, .alloc t, ty, pos, af, g⟩ w fun u w' => ∃ b, u = .pointer (some ⟨b, 0, none⟩) ∧ St w0 (Box b t z.cells :: L) w' := by
  obtain ⟨i, hi, hzi⟩ := Option.bind_eq_some_iff.1 (CZero.h (P := P) (t := t) (z := z))
  have hr : (execOp (ev N e) ⟨some d, .alloc t, ty, pos, af, g⟩).run P w = .ok (.value (.pointer (some ⟨w.heap.size, 0, none⟩))) (w.alloc (.cells z.cells t)) := by
    unfold execOp
    simp [Instr.alloc, zeroValue, typeInfo, hi, hzi, newVar, newRow, newObj, Sem.run]
  unfold StepG
  rw [hr]
  exact ⟨w.heap.size, rfl, s.box t _⟩
theorem stepG_store {t n : Nat} [CSize P t n] {x y : Operand} {b : Nat} {bt ty : TypeId} {cs vs : Array Value} {pos : String} {af : Array Edge} {g : Option (Nat × Bool)} (hx : ev N e x = .pointer (some ⟨b, 0, none⟩)) (hy : ev N e y = .agg vs) (hn : vs.size = n)
    (h1 : vs.toList.all (·.oneCell') = true) (hp : Pick L (Box b bt cs) L') (hcs : cs.size = n) {w : World} (s : St w0 L w) :
    StepG P (ev N e) ⟨none, .store t x y, ty, pos, af, g⟩ w fun u w' => u = undef ∧ St w0 (Box b bt vs :: L') w' := by
  have s1 := s.pick hp
  have hb : w.heap[b]? = some (.cells cs bt (0, 0)) := s1.head
  obtain ⟨inf, hi, hsz⟩ := Option.map_eq_some_iff.1 (CSize.h (P := P) (t := t) (n := n))
  have hst := run_storeCells_at (P := P) b 0 bt vs.toList 0 cs w hb (by simp; omega) (fun u hu => List.all_eq_true.1 h1 u hu)
  have hlen : vs.toList.length = n := by simpa using hn
  have hvv : (cs.toList.take 0 ++ vs.toList ++ cs.toList.drop (0 + n)).toArray = vs := by
    rw [List.drop_eq_nil_of_le (by simp; omega)]
    simp
  simp only [Nat.add_zero, hlen] at hst
  rw [hvv] at hst
  have hr : (execOp (ev N e) ⟨none, .store t x y, ty, pos, af, g⟩).run P w = .ok .skip (w.setRow b vs) := by
    unfold execOp
    have hv2 : (Value.agg vs).cells = vs := rfl
    simp [Instr.storeAt, hx, hy, Instr.sureAddr, storeVar, sizeOf, typeInfo, hi, hsz, hn, hst, hv2]
  unfold StepG
  rw [hr]
  refine ⟨rfl, s1.turn (r' := Box b bt vs) ?_ ?_ ?_ ?_ ?_ ?_ ?_⟩
  · simp [World.setRow]
  · rfl
  · rfl
  · rfl
  · intro c _ hc
    have : c ≠ b := hc
    simp [World.setRow, Array.getElem?_modify, Ne.symm this]
  · exact setRow_heap w b cs _ bt _ hb
  · intro c hc
    exact .inl hc
end
end Go.Proofs.YtckhibfbdnoigaaGreat
