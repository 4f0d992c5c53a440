/-
  The seat's types, as the walker's laws ask for them. Written by program.
-/
import Derived.Test.YtieldjpbempkcaaProg
import Derived.Test.YtieldjpbempkcaaMem
namespace Go.Proofs.Ytieldjpbempkcaa
open Go Go.Vc Go.Proofs
theorem TI2 : Ty Try.prog 2 (.int .i64) 1 8 (.int .i64 0) := ⟨Try.underlying2, Try.t2, Try.type2, rfl, rfl, rfl⟩
theorem TI3 : Ty Try.prog 3 (.int .i64) 1 8 (.int .i64 0) := ⟨Try.underlying3, Try.t3, Try.type3, rfl, rfl, rfl⟩
theorem TI4 : Ty Try.prog 4 .bool 1 1 (.bool false) := ⟨Try.underlying4, Try.t4, Try.type4, rfl, rfl, rfl⟩
theorem TI5 : Ty Try.prog 5 (.int .u8) 1 1 (.int .u8 0) := ⟨Try.underlying5, Try.t5, Try.type5, rfl, rfl, rfl⟩
theorem TI6 : Ty Try.prog 6 (.int .u8) 1 1 (.int .u8 0) := ⟨Try.underlying6, Try.t6, Try.type6, rfl, rfl, rfl⟩
theorem TI7 : Ty Try.prog 7 (.struct #[(.mk "x" 2 0 false "" "runtime" 0), (.mk "y" 3 1 false "" "runtime" 8), (.mk "signed" 4 2 false "" "runtime" 16), (.mk "code" 6 3 false "" "runtime" 17)]) 4 24 (.agg #[(.int .i64 0), (.int .i64 0), (.bool false), (.int .u8 0)]) := ⟨Try.underlying7, Try.t7, Try.type7, rfl, rfl, rfl⟩
theorem TI8 : Ty Try.prog 8 (.struct #[(.mk "x" 2 0 false "" "runtime" 0), (.mk "y" 3 1 false "" "runtime" 8), (.mk "signed" 4 2 false "" "runtime" 16), (.mk "code" 6 3 false "" "runtime" 17)]) 4 24 (.agg #[(.int .i64 0), (.int .i64 0), (.bool false), (.int .u8 0)]) := ⟨Try.underlying8, Try.t8, Try.type8, rfl, rfl, rfl⟩
theorem TI9 : Ty Try.prog 9 .string 1 16 (.string ⟨#[]⟩) := ⟨Try.underlying9, Try.t9, Try.type9, rfl, rfl, rfl⟩
theorem TI10 : Ty Try.prog 10 .string 1 16 (.string ⟨#[]⟩) := ⟨Try.underlying10, Try.t10, Try.type10, rfl, rfl, rfl⟩
theorem TI11 : Ty Try.prog 11 .string 1 16 (.string ⟨#[]⟩) := ⟨Try.underlying11, Try.t11, Try.type11, rfl, rfl, rfl⟩
theorem TI12 : Ty Try.prog 12 (.int .u64) 1 8 (.int .u64 0) := ⟨Try.underlying12, Try.t12, Try.type12, rfl, rfl, rfl⟩
theorem TI13 : Ty Try.prog 13 (.struct #[(.mk "msg" 9 0 false "" "runtime" 0), (.mk "addr" 12 1 false "" "runtime" 16)]) 2 24 (.agg #[(.string ⟨#[]⟩), (.int .u64 0)]) := ⟨Try.underlying13, Try.t13, Try.type13, rfl, rfl, rfl⟩
theorem TI14 : Ty Try.prog 14 (.struct #[(.mk "msg" 9 0 false "" "runtime" 0), (.mk "addr" 12 1 false "" "runtime" 16)]) 2 24 (.agg #[(.string ⟨#[]⟩), (.int .u64 0)]) := ⟨Try.underlying14, Try.t14, Try.type14, rfl, rfl, rfl⟩
theorem TI15 : Ty Try.prog 15 (.pointer 72) 1 8 (.pointer none) := ⟨Try.underlying15, Try.t15, Try.type15, rfl, rfl, rfl⟩
theorem TI16 : Ty Try.prog 16 (.pointer 75) 1 8 (.pointer none) := ⟨Try.underlying16, Try.t16, Try.type16, rfl, rfl, rfl⟩
theorem TI17 : Ty Try.prog 17 (.pointer 85) 1 8 (.pointer none) := ⟨Try.underlying17, Try.t17, Try.type17, rfl, rfl, rfl⟩
theorem TI18 : Ty Try.prog 18 (.struct #[(.mk "typ" 17 0 false "" "internal/runtime/maps" 0)]) 1 8 (.agg #[(.pointer none)]) := ⟨Try.underlying18, Try.t18, Try.type18, rfl, rfl, rfl⟩
theorem TI19 : Ty Try.prog 19 (.struct #[(.mk "typ" 17 0 false "" "internal/runtime/maps" 0)]) 1 8 (.agg #[(.pointer none)]) := ⟨Try.underlying19, Try.t19, Try.type19, rfl, rfl, rfl⟩
theorem TI21 : Ty Try.prog 21 (.int .i32) 1 4 (.int .i32 0) := ⟨Try.underlying21, Try.t21, Try.type21, rfl, rfl, rfl⟩
theorem TI22 : Ty Try.prog 22 (.slice 34) 1 24 (.slice none 0 0) := ⟨Try.underlying22, Try.t22, Try.type22, rfl, rfl, rfl⟩
theorem TI24 : Ty Try.prog 24 (.pointer 30) 1 8 (.pointer none) := ⟨Try.underlying24, Try.t24, Try.type24, rfl, rfl, rfl⟩
theorem TI25 : Ty Try.prog 25 (.pointer 57) 1 8 (.pointer none) := ⟨Try.underlying25, Try.t25, Try.type25, rfl, rfl, rfl⟩
theorem TI27 : Ty Try.prog 27 (.pointer 59) 1 8 (.pointer none) := ⟨Try.underlying27, Try.t27, Try.type27, rfl, rfl, rfl⟩
theorem TI29 : Ty Try.prog 29 (.struct #[(.mk "P" 25 0 false "" "" 0), (.mk "R" 27 1 false "" "" 8)]) 2 16 (.agg #[(.pointer none), (.pointer none)]) := ⟨Try.underlying29, Try.t29, Try.type29, rfl, rfl, rfl⟩
theorem TI30 : Ty Try.prog 30 (.struct #[(.mk "P" 25 0 false "" "" 0), (.mk "R" 27 1 false "" "" 8)]) 2 16 (.agg #[(.pointer none), (.pointer none)]) := ⟨Try.underlying30, Try.t30, Try.type30, rfl, rfl, rfl⟩
theorem TI31 : Ty Try.prog 31 (.int .u64) 1 8 (.int .u64 0) := ⟨Try.underlying31, Try.t31, Try.type31, rfl, rfl, rfl⟩
theorem TI32 : Ty Try.prog 32 (.slice 5) 1 24 (.slice none 0 0) := ⟨Try.underlying32, Try.t32, Try.type32, rfl, rfl, rfl⟩
theorem TI33 : Ty Try.prog 33 (.struct #[(.mk "Kind" 3 0 false "" "" 0), (.mk "Two" 4 1 false "" "" 8), (.mk "N" 31 2 false "" "" 16), (.mk "B" 32 3 false "" "" 24), (.mk "C" 5 4 false "" "" 48)]) 5 56 (.agg #[(.int .i64 0), (.bool false), (.int .u64 0), (.slice none 0 0), (.int .u8 0)]) := ⟨Try.underlying33, Try.t33, Try.type33, rfl, rfl, rfl⟩
theorem TI34 : Ty Try.prog 34 (.struct #[(.mk "Kind" 3 0 false "" "" 0), (.mk "Two" 4 1 false "" "" 8), (.mk "N" 31 2 false "" "" 16), (.mk "B" 32 3 false "" "" 24), (.mk "C" 5 4 false "" "" 48)]) 5 56 (.agg #[(.int .i64 0), (.bool false), (.int .u64 0), (.slice none 0 0), (.int .u8 0)]) := ⟨Try.underlying34, Try.t34, Try.type34, rfl, rfl, rfl⟩
theorem TI39 : Ty Try.prog 39 (.int .i64) 1 8 (.int .i64 0) := ⟨Try.underlying39, Try.t39, Try.type39, rfl, rfl, rfl⟩
theorem TI52 : Ty Try.prog 52 (.int .u64) 1 8 (.int .u64 0) := ⟨Try.underlying52, Try.t52, Try.type52, rfl, rfl, rfl⟩
theorem TI54 : Ty Try.prog 54 (.slice 32) 1 24 (.slice none 0 0) := ⟨Try.underlying54, Try.t54, Try.type54, rfl, rfl, rfl⟩
theorem TI55 : Ty Try.prog 55 (.array 10 5) 10 10 (.agg #[(.int .u8 0), (.int .u8 0), (.int .u8 0), (.int .u8 0), (.int .u8 0), (.int .u8 0), (.int .u8 0), (.int .u8 0), (.int .u8 0), (.int .u8 0)]) := ⟨Try.underlying55, Try.t55, Try.type55, rfl, rfl, rfl⟩
theorem TI56 : Ty Try.prog 56 (.struct #[(.mk "b" 55 0 false "" "mortise/varint" 0), (.mk "n" 3 10 false "" "mortise/varint" 16), (.mk "over" 4 11 false "" "mortise/varint" 24)]) 12 32 (.agg #[(.int .u8 0), (.int .u8 0), (.int .u8 0), (.int .u8 0), (.int .u8 0), (.int .u8 0), (.int .u8 0), (.int .u8 0), (.int .u8 0), (.int .u8 0), (.int .i64 0), (.bool false)]) := ⟨Try.underlying56, Try.t56, Try.type56, rfl, rfl, rfl⟩
theorem TI57 : Ty Try.prog 57 (.struct #[(.mk "b" 55 0 false "" "mortise/varint" 0), (.mk "n" 3 10 false "" "mortise/varint" 16), (.mk "over" 4 11 false "" "mortise/varint" 24)]) 12 32 (.agg #[(.int .u8 0), (.int .u8 0), (.int .u8 0), (.int .u8 0), (.int .u8 0), (.int .u8 0), (.int .u8 0), (.int .u8 0), (.int .u8 0), (.int .u8 0), (.int .i64 0), (.bool false)]) := ⟨Try.underlying57, Try.t57, Try.type57, rfl, rfl, rfl⟩
theorem TI58 : Ty Try.prog 58 (.struct #[(.mk "B" 32 0 false "" "" 0), (.mk "Over" 4 1 false "" "" 24)]) 2 32 (.agg #[(.slice none 0 0), (.bool false)]) := ⟨Try.underlying58, Try.t58, Try.type58, rfl, rfl, rfl⟩
theorem TI59 : Ty Try.prog 59 (.struct #[(.mk "B" 32 0 false "" "" 0), (.mk "Over" 4 1 false "" "" 24)]) 2 32 (.agg #[(.slice none 0 0), (.bool false)]) := ⟨Try.underlying59, Try.t59, Try.type59, rfl, rfl, rfl⟩
theorem TI71 : Ty Try.prog 71 (.struct #[(.mk "_interface" 17 0 false "" "runtime" 0), (.mk "concrete" 17 1 false "" "runtime" 8), (.mk "asserted" 17 2 false "" "runtime" 16), (.mk "missingMethod" 9 3 false "" "runtime" 24)]) 4 40 (.agg #[(.pointer none), (.pointer none), (.pointer none), (.string ⟨#[]⟩)]) := ⟨Try.underlying71, Try.t71, Try.type71, rfl, rfl, rfl⟩
theorem TI72 : Ty Try.prog 72 (.struct #[(.mk "_interface" 17 0 false "" "runtime" 0), (.mk "concrete" 17 1 false "" "runtime" 8), (.mk "asserted" 17 2 false "" "runtime" 16), (.mk "missingMethod" 9 3 false "" "runtime" 24)]) 4 40 (.agg #[(.pointer none), (.pointer none), (.pointer none), (.string ⟨#[]⟩)]) := ⟨Try.underlying72, Try.t72, Try.type72, rfl, rfl, rfl⟩
theorem TI73 : Ty Try.prog 73 (.array 0 16) 0 0 (.agg #[]) := ⟨Try.underlying73, Try.t73, Try.type73, rfl, rfl, rfl⟩
theorem TI74 : Ty Try.prog 74 (.struct #[(.mk "_" 73 0 false "" "runtime" 0)]) 0 0 (.agg #[]) := ⟨Try.underlying74, Try.t74, Try.type74, rfl, rfl, rfl⟩
theorem TI75 : Ty Try.prog 75 (.struct #[(.mk "_" 73 0 false "" "runtime" 0)]) 0 0 (.agg #[]) := ⟨Try.underlying75, Try.t75, Try.type75, rfl, rfl, rfl⟩
theorem TI77 : Ty Try.prog 77 (.int .u32) 1 4 (.int .u32 0) := ⟨Try.underlying77, Try.t77, Try.type77, rfl, rfl, rfl⟩
theorem TI78 : Ty Try.prog 78 (.int .u8) 1 1 (.int .u8 0) := ⟨Try.underlying78, Try.t78, Try.type78, rfl, rfl, rfl⟩
theorem TI79 : Ty Try.prog 79 (.int .u8) 1 1 (.int .u8 0) := ⟨Try.underlying79, Try.t79, Try.type79, rfl, rfl, rfl⟩
theorem TI81 : Ty Try.prog 81 (.pointer 5) 1 8 (.pointer none) := ⟨Try.underlying81, Try.t81, Try.type81, rfl, rfl, rfl⟩
theorem TI82 : Ty Try.prog 82 (.int .i32) 1 4 (.int .i32 0) := ⟨Try.underlying82, Try.t82, Try.type82, rfl, rfl, rfl⟩
theorem TI83 : Ty Try.prog 83 (.int .i32) 1 4 (.int .i32 0) := ⟨Try.underlying83, Try.t83, Try.type83, rfl, rfl, rfl⟩
theorem TI84 : Ty Try.prog 84 (.struct #[(.mk "Size_" 12 0 false "" "" 0), (.mk "PtrBytes" 12 1 false "" "" 8), (.mk "Hash" 77 2 false "" "" 16), (.mk "TFlag" 78 3 false "" "" 20), (.mk "Align_" 5 4 false "" "" 21), (.mk "FieldAlign_" 5 5 false "" "" 22), (.mk "Kind_" 79 6 false "" "" 23), (.mk "Equal" 80 7 false "" "" 24), (.mk "GCData" 81 8 false "" "" 32), (.mk "Str" 82 9 false "" "" 40), (.mk "PtrToThis" 83 10 false "" "" 44)]) 11 48 (.agg #[(.int .u64 0), (.int .u64 0), (.int .u32 0), (.int .u8 0), (.int .u8 0), (.int .u8 0), (.int .u8 0), .nilFunc, (.pointer none), (.int .i32 0), (.int .i32 0)]) := ⟨Try.underlying84, Try.t84, Try.type84, rfl, rfl, rfl⟩
theorem TI85 : Ty Try.prog 85 (.struct #[(.mk "Size_" 12 0 false "" "" 0), (.mk "PtrBytes" 12 1 false "" "" 8), (.mk "Hash" 77 2 false "" "" 16), (.mk "TFlag" 78 3 false "" "" 20), (.mk "Align_" 5 4 false "" "" 21), (.mk "FieldAlign_" 5 5 false "" "" 22), (.mk "Kind_" 79 6 false "" "" 23), (.mk "Equal" 80 7 false "" "" 24), (.mk "GCData" 81 8 false "" "" 32), (.mk "Str" 82 9 false "" "" 40), (.mk "PtrToThis" 83 10 false "" "" 44)]) 11 48 (.agg #[(.int .u64 0), (.int .u64 0), (.int .u32 0), (.int .u8 0), (.int .u8 0), (.int .u8 0), (.int .u8 0), .nilFunc, (.pointer none), (.int .i32 0), (.int .i32 0)]) := ⟨Try.underlying85, Try.t85, Try.type85, rfl, rfl, rfl⟩
theorem TI86 : Ty Try.prog 86 .unsafePointer 1 8 (.pointer none) := ⟨Try.underlying86, Try.t86, Try.type86, rfl, rfl, rfl⟩
end Go.Proofs.Ytieldjpbempkcaa
