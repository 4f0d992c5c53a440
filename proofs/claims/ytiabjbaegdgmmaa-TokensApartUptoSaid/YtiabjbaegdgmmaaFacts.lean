/-
  The seat's types, as the walker's laws ask for them. Written by program.
-/
import Derived.Test.YtiabjbaegdgmmaaProg
import Derived.Test.YtiabjbaegdgmmaaMem
namespace Go.Proofs.Ytiabjbaegdgmmaa
open Go Go.Vc Go.Proofs
theorem TI2 : Ty Try.prog 2 (.int .i64) 1 8 (.int .i64 0) := ⟨Try.underlying2, Try.t2, Try.type2, rfl, rfl, rfl⟩
theorem TI3 : Ty Try.prog 3 (.int .i64) 1 8 (.int .i64 0) := ⟨Try.underlying3, Try.t3, Try.type3, rfl, rfl, rfl⟩
theorem TI4 : Ty Try.prog 4 .bool 1 1 (.bool false) := ⟨Try.underlying4, Try.t4, Try.type4, rfl, rfl, rfl⟩
theorem TI5 : Ty Try.prog 5 (.int .u8) 1 1 (.int .u8 0) := ⟨Try.underlying5, Try.t5, Try.type5, rfl, rfl, rfl⟩
theorem TI6 : Ty Try.prog 6 (.int .u8) 1 1 (.int .u8 0) := ⟨Try.underlying6, Try.t6, Try.type6, rfl, rfl, rfl⟩
theorem TI7 : Ty Try.prog 7 (.struct #[(.mk "x" 2 0 false "" "runtime" 0), (.mk "y" 3 1 false "" "runtime" 8), (.mk "signed" 4 2 false "" "runtime" 16), (.mk "code" 6 3 false "" "runtime" 17)]) 4 24 (.agg #[(.int .i64 0), (.int .i64 0), (.bool false), (.int .u8 0)]) := ⟨Try.underlying7, Try.t7, Try.type7, rfl, rfl, rfl⟩
theorem TI8 : Ty Try.prog 8 (.struct #[(.mk "x" 2 0 false "" "runtime" 0), (.mk "y" 3 1 false "" "runtime" 8), (.mk "signed" 4 2 false "" "runtime" 16), (.mk "code" 6 3 false "" "runtime" 17)]) 4 24 (.agg #[(.int .i64 0), (.int .i64 0), (.bool false), (.int .u8 0)]) := ⟨Try.underlying8, Try.t8, Try.type8, rfl, rfl, rfl⟩
theorem TI9 : Ty Try.prog 9 .string 1 16 (.string ⟨#[]⟩) := ⟨Try.underlying9, Try.t9, Try.type9, rfl, rfl, rfl⟩
theorem TI10 : Ty Try.prog 10 .string 1 16 (.string ⟨#[]⟩) := ⟨Try.underlying10, Try.t10, Try.type10, rfl, rfl, rfl⟩
theorem TI11 : Ty Try.prog 11 .string 1 16 (.string ⟨#[]⟩) := ⟨Try.underlying11, Try.t11, Try.type11, rfl, rfl, rfl⟩
theorem TI12 : Ty Try.prog 12 (.int .u64) 1 8 (.int .u64 0) := ⟨Try.underlying12, Try.t12, Try.type12, rfl, rfl, rfl⟩
theorem TI13 : Ty Try.prog 13 (.struct #[(.mk "msg" 9 0 false "" "runtime" 0), (.mk "addr" 12 1 false "" "runtime" 16)]) 2 24 (.agg #[(.string ⟨#[]⟩), (.int .u64 0)]) := ⟨Try.underlying13, Try.t13, Try.type13, rfl, rfl, rfl⟩
theorem TI14 : Ty Try.prog 14 (.struct #[(.mk "msg" 9 0 false "" "runtime" 0), (.mk "addr" 12 1 false "" "runtime" 16)]) 2 24 (.agg #[(.string ⟨#[]⟩), (.int .u64 0)]) := ⟨Try.underlying14, Try.t14, Try.type14, rfl, rfl, rfl⟩
theorem TI15 : Ty Try.prog 15 (.pointer 59) 1 8 (.pointer none) := ⟨Try.underlying15, Try.t15, Try.type15, rfl, rfl, rfl⟩
theorem TI16 : Ty Try.prog 16 (.pointer 62) 1 8 (.pointer none) := ⟨Try.underlying16, Try.t16, Try.type16, rfl, rfl, rfl⟩
theorem TI17 : Ty Try.prog 17 (.pointer 72) 1 8 (.pointer none) := ⟨Try.underlying17, Try.t17, Try.type17, rfl, rfl, rfl⟩
theorem TI18 : Ty Try.prog 18 (.struct #[(.mk "typ" 17 0 false "" "internal/runtime/maps" 0)]) 1 8 (.agg #[(.pointer none)]) := ⟨Try.underlying18, Try.t18, Try.type18, rfl, rfl, rfl⟩
theorem TI19 : Ty Try.prog 19 (.struct #[(.mk "typ" 17 0 false "" "internal/runtime/maps" 0)]) 1 8 (.agg #[(.pointer none)]) := ⟨Try.underlying19, Try.t19, Try.type19, rfl, rfl, rfl⟩
theorem TI21 : Ty Try.prog 21 (.int .i32) 1 4 (.int .i32 0) := ⟨Try.underlying21, Try.t21, Try.type21, rfl, rfl, rfl⟩
theorem TI22 : Ty Try.prog 22 (.slice 3) 1 24 (.slice none 0 0) := ⟨Try.underlying22, Try.t22, Try.type22, rfl, rfl, rfl⟩
theorem TI26 : Ty Try.prog 26 (.slice 33) 1 24 (.slice none 0 0) := ⟨Try.underlying26, Try.t26, Try.type26, rfl, rfl, rfl⟩
theorem TI27 : Ty Try.prog 27 (.int .i64) 1 8 (.int .i64 0) := ⟨Try.underlying27, Try.t27, Try.type27, rfl, rfl, rfl⟩
theorem TI28 : Ty Try.prog 28 (.struct #[(.mk "Err" 27 0 false "" "" 0), (.mk "At" 3 1 false "" "" 8)]) 2 16 (.agg #[(.int .i64 0), (.int .i64 0)]) := ⟨Try.underlying28, Try.t28, Try.type28, rfl, rfl, rfl⟩
theorem TI29 : Ty Try.prog 29 (.struct #[(.mk "Err" 27 0 false "" "" 0), (.mk "At" 3 1 false "" "" 8)]) 2 16 (.agg #[(.int .i64 0), (.int .i64 0)]) := ⟨Try.underlying29, Try.t29, Try.type29, rfl, rfl, rfl⟩
theorem TI32 : Ty Try.prog 32 (.struct #[(.mk "Kind" 3 0 false "" "" 0), (.mk "Text" 9 1 false "" "" 8), (.mk "N" 3 2 false "" "" 24), (.mk "At" 3 3 false "" "" 32), (.mk "End" 3 4 false "" "" 40)]) 5 48 (.agg #[(.int .i64 0), (.string ⟨#[]⟩), (.int .i64 0), (.int .i64 0), (.int .i64 0)]) := ⟨Try.underlying32, Try.t32, Try.type32, rfl, rfl, rfl⟩
theorem TI33 : Ty Try.prog 33 (.struct #[(.mk "Kind" 3 0 false "" "" 0), (.mk "Text" 9 1 false "" "" 8), (.mk "N" 3 2 false "" "" 24), (.mk "At" 3 3 false "" "" 32), (.mk "End" 3 4 false "" "" 40)]) 5 48 (.agg #[(.int .i64 0), (.string ⟨#[]⟩), (.int .i64 0), (.int .i64 0), (.int .i64 0)]) := ⟨Try.underlying33, Try.t33, Try.type33, rfl, rfl, rfl⟩
theorem TI36 : Ty Try.prog 36 (.slice 5) 1 24 (.slice none 0 0) := ⟨Try.underlying36, Try.t36, Try.type36, rfl, rfl, rfl⟩
theorem TI38 : Ty Try.prog 38 (.int .u64) 1 8 (.int .u64 0) := ⟨Try.underlying38, Try.t38, Try.type38, rfl, rfl, rfl⟩
theorem TI41 : Ty Try.prog 41 (.slice 9) 1 24 (.slice none 0 0) := ⟨Try.underlying41, Try.t41, Try.type41, rfl, rfl, rfl⟩
theorem TI42 : Ty Try.prog 42 (.slice 26) 1 24 (.slice none 0 0) := ⟨Try.underlying42, Try.t42, Try.type42, rfl, rfl, rfl⟩
theorem TI58 : Ty Try.prog 58 (.struct #[(.mk "_interface" 17 0 false "" "runtime" 0), (.mk "concrete" 17 1 false "" "runtime" 8), (.mk "asserted" 17 2 false "" "runtime" 16), (.mk "missingMethod" 9 3 false "" "runtime" 24)]) 4 40 (.agg #[(.pointer none), (.pointer none), (.pointer none), (.string ⟨#[]⟩)]) := ⟨Try.underlying58, Try.t58, Try.type58, rfl, rfl, rfl⟩
theorem TI59 : Ty Try.prog 59 (.struct #[(.mk "_interface" 17 0 false "" "runtime" 0), (.mk "concrete" 17 1 false "" "runtime" 8), (.mk "asserted" 17 2 false "" "runtime" 16), (.mk "missingMethod" 9 3 false "" "runtime" 24)]) 4 40 (.agg #[(.pointer none), (.pointer none), (.pointer none), (.string ⟨#[]⟩)]) := ⟨Try.underlying59, Try.t59, Try.type59, rfl, rfl, rfl⟩
theorem TI60 : Ty Try.prog 60 (.array 0 16) 0 0 (.agg #[]) := ⟨Try.underlying60, Try.t60, Try.type60, rfl, rfl, rfl⟩
theorem TI61 : Ty Try.prog 61 (.struct #[(.mk "_" 60 0 false "" "runtime" 0)]) 0 0 (.agg #[]) := ⟨Try.underlying61, Try.t61, Try.type61, rfl, rfl, rfl⟩
theorem TI62 : Ty Try.prog 62 (.struct #[(.mk "_" 60 0 false "" "runtime" 0)]) 0 0 (.agg #[]) := ⟨Try.underlying62, Try.t62, Try.type62, rfl, rfl, rfl⟩
theorem TI64 : Ty Try.prog 64 (.int .u32) 1 4 (.int .u32 0) := ⟨Try.underlying64, Try.t64, Try.type64, rfl, rfl, rfl⟩
theorem TI65 : Ty Try.prog 65 (.int .u8) 1 1 (.int .u8 0) := ⟨Try.underlying65, Try.t65, Try.type65, rfl, rfl, rfl⟩
theorem TI66 : Ty Try.prog 66 (.int .u8) 1 1 (.int .u8 0) := ⟨Try.underlying66, Try.t66, Try.type66, rfl, rfl, rfl⟩
theorem TI68 : Ty Try.prog 68 (.pointer 5) 1 8 (.pointer none) := ⟨Try.underlying68, Try.t68, Try.type68, rfl, rfl, rfl⟩
theorem TI69 : Ty Try.prog 69 (.int .i32) 1 4 (.int .i32 0) := ⟨Try.underlying69, Try.t69, Try.type69, rfl, rfl, rfl⟩
theorem TI70 : Ty Try.prog 70 (.int .i32) 1 4 (.int .i32 0) := ⟨Try.underlying70, Try.t70, Try.type70, rfl, rfl, rfl⟩
theorem TI71 : Ty Try.prog 71 (.struct #[(.mk "Size_" 12 0 false "" "" 0), (.mk "PtrBytes" 12 1 false "" "" 8), (.mk "Hash" 64 2 false "" "" 16), (.mk "TFlag" 65 3 false "" "" 20), (.mk "Align_" 5 4 false "" "" 21), (.mk "FieldAlign_" 5 5 false "" "" 22), (.mk "Kind_" 66 6 false "" "" 23), (.mk "Equal" 67 7 false "" "" 24), (.mk "GCData" 68 8 false "" "" 32), (.mk "Str" 69 9 false "" "" 40), (.mk "PtrToThis" 70 10 false "" "" 44)]) 11 48 (.agg #[(.int .u64 0), (.int .u64 0), (.int .u32 0), (.int .u8 0), (.int .u8 0), (.int .u8 0), (.int .u8 0), .nilFunc, (.pointer none), (.int .i32 0), (.int .i32 0)]) := ⟨Try.underlying71, Try.t71, Try.type71, rfl, rfl, rfl⟩
theorem TI72 : Ty Try.prog 72 (.struct #[(.mk "Size_" 12 0 false "" "" 0), (.mk "PtrBytes" 12 1 false "" "" 8), (.mk "Hash" 64 2 false "" "" 16), (.mk "TFlag" 65 3 false "" "" 20), (.mk "Align_" 5 4 false "" "" 21), (.mk "FieldAlign_" 5 5 false "" "" 22), (.mk "Kind_" 66 6 false "" "" 23), (.mk "Equal" 67 7 false "" "" 24), (.mk "GCData" 68 8 false "" "" 32), (.mk "Str" 69 9 false "" "" 40), (.mk "PtrToThis" 70 10 false "" "" 44)]) 11 48 (.agg #[(.int .u64 0), (.int .u64 0), (.int .u32 0), (.int .u8 0), (.int .u8 0), (.int .u8 0), (.int .u8 0), .nilFunc, (.pointer none), (.int .i32 0), (.int .i32 0)]) := ⟨Try.underlying72, Try.t72, Try.type72, rfl, rfl, rfl⟩
theorem TI73 : Ty Try.prog 73 .unsafePointer 1 8 (.pointer none) := ⟨Try.underlying73, Try.t73, Try.type73, rfl, rfl, rfl⟩
end Go.Proofs.Ytiabjbaegdgmmaa
