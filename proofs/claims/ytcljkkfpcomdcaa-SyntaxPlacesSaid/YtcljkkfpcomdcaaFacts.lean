/-
  The seat's types, as the walker's laws ask for them. Written by program.
-/
import Derived.Test.YtcljkkfpcomdcaaProg
import Derived.Test.YtcljkkfpcomdcaaMem
set_option maxRecDepth 100000
namespace Go.Proofs.Ytcljkkfpcomdcaa
open Go Go.Vc Go.Proofs
theorem TI2 : Ty Try.prog 2 (.int .i64) 1 8 (.int .i64 0) := ⟨Try.underlying2, Try.t2, Try.type2, rfl, rfl, rfl⟩
theorem TI3 : Ty Try.prog 3 (.int .i64) 1 8 (.int .i64 0) := ⟨Try.underlying3, Try.t3, Try.type3, rfl, rfl, rfl⟩
theorem TI4 : Ty Try.prog 4 .bool 1 1 (.bool false) := ⟨Try.underlying4, Try.t4, Try.type4, rfl, rfl, rfl⟩
theorem TI5 : Ty Try.prog 5 (.int .u8) 1 1 (.int .u8 0) := ⟨Try.underlying5, Try.t5, Try.type5, rfl, rfl, rfl⟩
theorem TI6 : Ty Try.prog 6 (.int .u8) 1 1 (.int .u8 0) := ⟨Try.underlying6, Try.t6, Try.type6, rfl, rfl, rfl⟩
theorem TI7 : Ty Try.prog 7 (.struct #[(.mk "x" 2 0 false "" "runtime" 0), (.mk "y" 3 1 false "" "runtime" 8), (.mk "signed" 4 2 false "" "runtime" 16), (.mk "code" 6 3 false "" "runtime" 17)]) 4 24 (.agg #[(.int .i64 0), (.int .i64 0), (.bool false), (.int .u8 0)]) := ⟨Try.underlying7, Try.t7, Try.type7, rfl, rfl, rfl⟩
theorem TI8 : Ty Try.prog 8 (.struct #[(.mk "x" 2 0 false "" "runtime" 0), (.mk "y" 3 1 false "" "runtime" 8), (.mk "signed" 4 2 false "" "runtime" 16), (.mk "code" 6 3 false "" "runtime" 17)]) 4 24 (.agg #[(.int .i64 0), (.int .i64 0), (.bool false), (.int .u8 0)]) := ⟨Try.underlying8, Try.t8, Try.type8, rfl, rfl, rfl⟩
theorem TI9 : Ty Try.prog 9 .string 1 16 (.string ⟨#[]⟩) := ⟨Try.underlying9, Try.t9, Try.type9, rfl, rfl, rfl⟩
theorem TI10 : Ty Try.prog 10 .string 1 16 (.string ⟨#[]⟩) := ⟨Try.underlying10, Try.t10, Try.type10, rfl, rfl, rfl⟩
theorem TI11 : Ty Try.prog 11 .string 1 16 (.string ⟨#[]⟩) := ⟨Try.underlying11, Try.t11, Try.type11, rfl, rfl, rfl⟩
theorem TI12 : Ty Try.prog 12 (.int .u64) 1 8 (.int .u64 0) := ⟨Try.underlying12, Try.t12, Try.type12, rfl, rfl, rfl⟩
theorem TI13 : Ty Try.prog 13 (.struct #[(.mk "msg" 9 0 false "" "runtime" 0), (.mk "addr" 12 1 false "" "runtime" 16)]) 2 24 (.agg #[(.string ⟨#[]⟩), (.int .u64 0)]) := ⟨Try.underlying13, Try.t13, Try.type13, rfl, rfl, rfl⟩
theorem TI14 : Ty Try.prog 14 (.struct #[(.mk "msg" 9 0 false "" "runtime" 0), (.mk "addr" 12 1 false "" "runtime" 16)]) 2 24 (.agg #[(.string ⟨#[]⟩), (.int .u64 0)]) := ⟨Try.underlying14, Try.t14, Try.type14, rfl, rfl, rfl⟩
theorem TI15 : Ty Try.prog 15 (.pointer 125) 1 8 (.pointer none) := ⟨Try.underlying15, Try.t15, Try.type15, rfl, rfl, rfl⟩
theorem TI16 : Ty Try.prog 16 (.pointer 128) 1 8 (.pointer none) := ⟨Try.underlying16, Try.t16, Try.type16, rfl, rfl, rfl⟩
theorem TI17 : Ty Try.prog 17 (.pointer 137) 1 8 (.pointer none) := ⟨Try.underlying17, Try.t17, Try.type17, rfl, rfl, rfl⟩
theorem TI18 : Ty Try.prog 18 (.struct #[(.mk "typ" 17 0 false "" "internal/runtime/maps" 0)]) 1 8 (.agg #[(.pointer none)]) := ⟨Try.underlying18, Try.t18, Try.type18, rfl, rfl, rfl⟩
theorem TI19 : Ty Try.prog 19 (.struct #[(.mk "typ" 17 0 false "" "internal/runtime/maps" 0)]) 1 8 (.agg #[(.pointer none)]) := ⟨Try.underlying19, Try.t19, Try.type19, rfl, rfl, rfl⟩
theorem TI21 : Ty Try.prog 21 (.int .i32) 1 4 (.int .i32 0) := ⟨Try.underlying21, Try.t21, Try.type21, rfl, rfl, rfl⟩
theorem TI22 : Ty Try.prog 22 (.slice 3) 1 24 (.slice none 0 0) := ⟨Try.underlying22, Try.t22, Try.type22, rfl, rfl, rfl⟩
theorem TI26 : Ty Try.prog 26 (.slice 40) 1 24 (.slice none 0 0) := ⟨Try.underlying26, Try.t26, Try.type26, rfl, rfl, rfl⟩
theorem TI27 : Ty Try.prog 27 (.struct #[(.mk "Defs" 26 0 false "" "" 0)]) 1 24 (.agg #[(.slice none 0 0)]) := ⟨Try.underlying27, Try.t27, Try.type27, rfl, rfl, rfl⟩
theorem TI28 : Ty Try.prog 28 (.struct #[(.mk "Defs" 26 0 false "" "" 0)]) 1 24 (.agg #[(.slice none 0 0)]) := ⟨Try.underlying28, Try.t28, Try.type28, rfl, rfl, rfl⟩
theorem TI29 : Ty Try.prog 29 (.struct #[(.mk "Kind" 3 0 false "" "" 0), (.mk "N" 3 1 false "" "" 8), (.mk "Name" 9 2 false "" "" 16), (.mk "Label" 9 3 false "" "" 32), (.mk "Tag" 3 4 false "" "" 48), (.mk "Kids" 3 5 false "" "" 56), (.mk "At" 3 6 false "" "" 64)]) 7 72 (.agg #[(.int .i64 0), (.int .i64 0), (.string ⟨#[]⟩), (.string ⟨#[]⟩), (.int .i64 0), (.int .i64 0), (.int .i64 0)]) := ⟨Try.underlying29, Try.t29, Try.type29, rfl, rfl, rfl⟩
theorem TI30 : Ty Try.prog 30 (.struct #[(.mk "Kind" 3 0 false "" "" 0), (.mk "N" 3 1 false "" "" 8), (.mk "Name" 9 2 false "" "" 16), (.mk "Label" 9 3 false "" "" 32), (.mk "Tag" 3 4 false "" "" 48), (.mk "Kids" 3 5 false "" "" 56), (.mk "At" 3 6 false "" "" 64)]) 7 72 (.agg #[(.int .i64 0), (.int .i64 0), (.string ⟨#[]⟩), (.string ⟨#[]⟩), (.int .i64 0), (.int .i64 0), (.int .i64 0)]) := ⟨Try.underlying30, Try.t30, Try.type30, rfl, rfl, rfl⟩
theorem TI32 : Ty Try.prog 32 (.int .i64) 1 8 (.int .i64 0) := ⟨Try.underlying32, Try.t32, Try.type32, rfl, rfl, rfl⟩
theorem TI38 : Ty Try.prog 38 (.slice 30) 1 24 (.slice none 0 0) := ⟨Try.underlying38, Try.t38, Try.type38, rfl, rfl, rfl⟩
theorem TI39 : Ty Try.prog 39 (.struct #[(.mk "Name" 9 0 false "" "" 0), (.mk "At" 3 1 false "" "" 16), (.mk "Type" 38 2 false "" "" 24)]) 3 48 (.agg #[(.string ⟨#[]⟩), (.int .i64 0), (.slice none 0 0)]) := ⟨Try.underlying39, Try.t39, Try.type39, rfl, rfl, rfl⟩
theorem TI40 : Ty Try.prog 40 (.struct #[(.mk "Name" 9 0 false "" "" 0), (.mk "At" 3 1 false "" "" 16), (.mk "Type" 38 2 false "" "" 24)]) 3 48 (.agg #[(.string ⟨#[]⟩), (.int .i64 0), (.slice none 0 0)]) := ⟨Try.underlying40, Try.t40, Try.type40, rfl, rfl, rfl⟩
theorem TI42 : Ty Try.prog 42 (.pointer 45) 1 8 (.pointer none) := ⟨Try.underlying42, Try.t42, Try.type42, rfl, rfl, rfl⟩
theorem TI43 : Ty Try.prog 43 (.slice 5) 1 24 (.slice none 0 0) := ⟨Try.underlying43, Try.t43, Try.type43, rfl, rfl, rfl⟩
theorem TI44 : Ty Try.prog 44 (.struct #[(.mk "b" 43 0 false "" "mortise/mortiselaw06" 0)]) 1 24 (.agg #[(.slice none 0 0)]) := ⟨Try.underlying44, Try.t44, Try.type44, rfl, rfl, rfl⟩
theorem TI45 : Ty Try.prog 45 (.struct #[(.mk "b" 43 0 false "" "mortise/mortiselaw06" 0)]) 1 24 (.agg #[(.slice none 0 0)]) := ⟨Try.underlying45, Try.t45, Try.type45, rfl, rfl, rfl⟩
theorem TI48 : Ty Try.prog 48 (.struct #[(.mk "Err" 32 0 false "" "" 0), (.mk "At" 3 1 false "" "" 8)]) 2 16 (.agg #[(.int .i64 0), (.int .i64 0)]) := ⟨Try.underlying48, Try.t48, Try.type48, rfl, rfl, rfl⟩
theorem TI49 : Ty Try.prog 49 (.struct #[(.mk "Err" 32 0 false "" "" 0), (.mk "At" 3 1 false "" "" 8)]) 2 16 (.agg #[(.int .i64 0), (.int .i64 0)]) := ⟨Try.underlying49, Try.t49, Try.type49, rfl, rfl, rfl⟩
theorem TI54 : Ty Try.prog 54 (.slice 58) 1 24 (.slice none 0 0) := ⟨Try.underlying54, Try.t54, Try.type54, rfl, rfl, rfl⟩
theorem TI57 : Ty Try.prog 57 (.struct #[(.mk "Kind" 3 0 false "" "" 0), (.mk "Text" 9 1 false "" "" 8), (.mk "N" 3 2 false "" "" 24), (.mk "At" 3 3 false "" "" 32), (.mk "End" 3 4 false "" "" 40)]) 5 48 (.agg #[(.int .i64 0), (.string ⟨#[]⟩), (.int .i64 0), (.int .i64 0), (.int .i64 0)]) := ⟨Try.underlying57, Try.t57, Try.type57, rfl, rfl, rfl⟩
theorem TI58 : Ty Try.prog 58 (.struct #[(.mk "Kind" 3 0 false "" "" 0), (.mk "Text" 9 1 false "" "" 8), (.mk "N" 3 2 false "" "" 24), (.mk "At" 3 3 false "" "" 32), (.mk "End" 3 4 false "" "" 40)]) 5 48 (.agg #[(.int .i64 0), (.string ⟨#[]⟩), (.int .i64 0), (.int .i64 0), (.int .i64 0)]) := ⟨Try.underlying58, Try.t58, Try.type58, rfl, rfl, rfl⟩
theorem TI61 : Ty Try.prog 61 (.array 11 9) 11 176 (.agg #[(.string ⟨#[]⟩), (.string ⟨#[]⟩), (.string ⟨#[]⟩), (.string ⟨#[]⟩), (.string ⟨#[]⟩), (.string ⟨#[]⟩), (.string ⟨#[]⟩), (.string ⟨#[]⟩), (.string ⟨#[]⟩), (.string ⟨#[]⟩), (.string ⟨#[]⟩)]) := ⟨Try.underlying61, Try.t61, Try.type61, rfl, rfl, rfl⟩
theorem TI62 : Ty Try.prog 62 (.slice 9) 1 24 (.slice none 0 0) := ⟨Try.underlying62, Try.t62, Try.type62, rfl, rfl, rfl⟩
theorem TI63 : Ty Try.prog 63 (.slice 28) 1 24 (.slice none 0 0) := ⟨Try.underlying63, Try.t63, Try.type63, rfl, rfl, rfl⟩
theorem TI64 : Ty Try.prog 64 (.slice 38) 1 24 (.slice none 0 0) := ⟨Try.underlying64, Try.t64, Try.type64, rfl, rfl, rfl⟩
theorem TI65 : Ty Try.prog 65 (.slice 26) 1 24 (.slice none 0 0) := ⟨Try.underlying65, Try.t65, Try.type65, rfl, rfl, rfl⟩
theorem TI73 : Ty Try.prog 73 (.struct #[(.mk "f" 49 0 false "" "mortise/syntax" 0)]) 2 16 (.agg #[(.int .i64 0), (.int .i64 0)]) := ⟨Try.underlying73, Try.t73, Try.type73, rfl, rfl, rfl⟩
theorem TI74 : Ty Try.prog 74 (.struct #[(.mk "f" 49 0 false "" "mortise/syntax" 0)]) 2 16 (.agg #[(.int .i64 0), (.int .i64 0)]) := ⟨Try.underlying74, Try.t74, Try.type74, rfl, rfl, rfl⟩
theorem TI75 : Ty Try.prog 75 (.pointer 77) 1 8 (.pointer none) := ⟨Try.underlying75, Try.t75, Try.type75, rfl, rfl, rfl⟩
theorem TI76 : Ty Try.prog 76 (.struct #[(.mk "l" 54 0 false "" "mortise/syntax" 0), (.mk "at" 3 1 false "" "mortise/syntax" 24), (.mk "end" 3 2 false "" "mortise/syntax" 32)]) 3 40 (.agg #[(.slice none 0 0), (.int .i64 0), (.int .i64 0)]) := ⟨Try.underlying76, Try.t76, Try.type76, rfl, rfl, rfl⟩
theorem TI77 : Ty Try.prog 77 (.struct #[(.mk "l" 54 0 false "" "mortise/syntax" 0), (.mk "at" 3 1 false "" "mortise/syntax" 24), (.mk "end" 3 2 false "" "mortise/syntax" 32)]) 3 40 (.agg #[(.slice none 0 0), (.int .i64 0), (.int .i64 0)]) := ⟨Try.underlying77, Try.t77, Try.type77, rfl, rfl, rfl⟩
theorem TI90 : Ty Try.prog 90 (.pointer 92) 1 8 (.pointer none) := ⟨Try.underlying90, Try.t90, Try.type90, rfl, rfl, rfl⟩
theorem TI91 : Ty Try.prog 91 (.struct #[(.mk "L" 54 0 false "" "" 0), (.mk "At" 3 1 false "" "" 24), (.mk "Stack" 62 2 false "" "" 32), (.mk "Open" 22 3 false "" "" 56), (.mk "Defs" 3 4 false "" "" 80)]) 5 88 (.agg #[(.slice none 0 0), (.int .i64 0), (.slice none 0 0), (.slice none 0 0), (.int .i64 0)]) := ⟨Try.underlying91, Try.t91, Try.type91, rfl, rfl, rfl⟩
theorem TI92 : Ty Try.prog 92 (.struct #[(.mk "L" 54 0 false "" "" 0), (.mk "At" 3 1 false "" "" 24), (.mk "Stack" 62 2 false "" "" 32), (.mk "Open" 22 3 false "" "" 56), (.mk "Defs" 3 4 false "" "" 80)]) 5 88 (.agg #[(.slice none 0 0), (.int .i64 0), (.slice none 0 0), (.slice none 0 0), (.int .i64 0)]) := ⟨Try.underlying92, Try.t92, Try.type92, rfl, rfl, rfl⟩
theorem TI95 : Ty Try.prog 95 (.struct #[(.mk "kind" 3 0 false "" "mortise/syntax" 0), (.mk "left" 3 1 false "" "mortise/syntax" 8), (.mk "deep" 3 2 false "" "mortise/syntax" 16)]) 3 24 (.agg #[(.int .i64 0), (.int .i64 0), (.int .i64 0)]) := ⟨Try.underlying95, Try.t95, Try.type95, rfl, rfl, rfl⟩
theorem TI96 : Ty Try.prog 96 (.struct #[(.mk "kind" 3 0 false "" "mortise/syntax" 0), (.mk "left" 3 1 false "" "mortise/syntax" 8), (.mk "deep" 3 2 false "" "mortise/syntax" 16)]) 3 24 (.agg #[(.int .i64 0), (.int .i64 0), (.int .i64 0)]) := ⟨Try.underlying96, Try.t96, Try.type96, rfl, rfl, rfl⟩
theorem TI97 : Ty Try.prog 97 (.slice 96) 1 24 (.slice none 0 0) := ⟨Try.underlying97, Try.t97, Try.type97, rfl, rfl, rfl⟩
theorem TI98 : Ty Try.prog 98 (.pointer 96) 1 8 (.pointer none) := ⟨Try.underlying98, Try.t98, Try.type98, rfl, rfl, rfl⟩
theorem TI100 : Ty Try.prog 100 (.struct #[(.mk "kind" 3 0 false "" "mortise/mortiseref06" 0), (.mk "left" 3 1 false "" "mortise/mortiseref06" 8)]) 2 16 (.agg #[(.int .i64 0), (.int .i64 0)]) := ⟨Try.underlying100, Try.t100, Try.type100, rfl, rfl, rfl⟩
theorem TI101 : Ty Try.prog 101 (.struct #[(.mk "kind" 3 0 false "" "mortise/mortiseref06" 0), (.mk "left" 3 1 false "" "mortise/mortiseref06" 8)]) 2 16 (.agg #[(.int .i64 0), (.int .i64 0)]) := ⟨Try.underlying101, Try.t101, Try.type101, rfl, rfl, rfl⟩
theorem TI102 : Ty Try.prog 102 (.slice 101) 1 24 (.slice none 0 0) := ⟨Try.underlying102, Try.t102, Try.type102, rfl, rfl, rfl⟩
theorem TI109 : Ty Try.prog 109 (.pointer 30) 1 8 (.pointer none) := ⟨Try.underlying109, Try.t109, Try.type109, rfl, rfl, rfl⟩
theorem TI124 : Ty Try.prog 124 (.struct #[(.mk "_interface" 17 0 false "" "runtime" 0), (.mk "concrete" 17 1 false "" "runtime" 8), (.mk "asserted" 17 2 false "" "runtime" 16), (.mk "missingMethod" 9 3 false "" "runtime" 24)]) 4 40 (.agg #[(.pointer none), (.pointer none), (.pointer none), (.string ⟨#[]⟩)]) := ⟨Try.underlying124, Try.t124, Try.type124, rfl, rfl, rfl⟩
theorem TI125 : Ty Try.prog 125 (.struct #[(.mk "_interface" 17 0 false "" "runtime" 0), (.mk "concrete" 17 1 false "" "runtime" 8), (.mk "asserted" 17 2 false "" "runtime" 16), (.mk "missingMethod" 9 3 false "" "runtime" 24)]) 4 40 (.agg #[(.pointer none), (.pointer none), (.pointer none), (.string ⟨#[]⟩)]) := ⟨Try.underlying125, Try.t125, Try.type125, rfl, rfl, rfl⟩
theorem TI126 : Ty Try.prog 126 (.array 0 16) 0 0 (.agg #[]) := ⟨Try.underlying126, Try.t126, Try.type126, rfl, rfl, rfl⟩
theorem TI127 : Ty Try.prog 127 (.struct #[(.mk "_" 126 0 false "" "runtime" 0)]) 0 0 (.agg #[]) := ⟨Try.underlying127, Try.t127, Try.type127, rfl, rfl, rfl⟩
theorem TI128 : Ty Try.prog 128 (.struct #[(.mk "_" 126 0 false "" "runtime" 0)]) 0 0 (.agg #[]) := ⟨Try.underlying128, Try.t128, Try.type128, rfl, rfl, rfl⟩
theorem TI129 : Ty Try.prog 129 (.int .u32) 1 4 (.int .u32 0) := ⟨Try.underlying129, Try.t129, Try.type129, rfl, rfl, rfl⟩
theorem TI130 : Ty Try.prog 130 (.int .u8) 1 1 (.int .u8 0) := ⟨Try.underlying130, Try.t130, Try.type130, rfl, rfl, rfl⟩
theorem TI131 : Ty Try.prog 131 (.int .u8) 1 1 (.int .u8 0) := ⟨Try.underlying131, Try.t131, Try.type131, rfl, rfl, rfl⟩
theorem TI133 : Ty Try.prog 133 (.pointer 5) 1 8 (.pointer none) := ⟨Try.underlying133, Try.t133, Try.type133, rfl, rfl, rfl⟩
theorem TI134 : Ty Try.prog 134 (.int .i32) 1 4 (.int .i32 0) := ⟨Try.underlying134, Try.t134, Try.type134, rfl, rfl, rfl⟩
theorem TI135 : Ty Try.prog 135 (.int .i32) 1 4 (.int .i32 0) := ⟨Try.underlying135, Try.t135, Try.type135, rfl, rfl, rfl⟩
theorem TI136 : Ty Try.prog 136 (.struct #[(.mk "Size_" 12 0 false "" "" 0), (.mk "PtrBytes" 12 1 false "" "" 8), (.mk "Hash" 129 2 false "" "" 16), (.mk "TFlag" 130 3 false "" "" 20), (.mk "Align_" 5 4 false "" "" 21), (.mk "FieldAlign_" 5 5 false "" "" 22), (.mk "Kind_" 131 6 false "" "" 23), (.mk "Equal" 132 7 false "" "" 24), (.mk "GCData" 133 8 false "" "" 32), (.mk "Str" 134 9 false "" "" 40), (.mk "PtrToThis" 135 10 false "" "" 44)]) 11 48 (.agg #[(.int .u64 0), (.int .u64 0), (.int .u32 0), (.int .u8 0), (.int .u8 0), (.int .u8 0), (.int .u8 0), .nilFunc, (.pointer none), (.int .i32 0), (.int .i32 0)]) := ⟨Try.underlying136, Try.t136, Try.type136, rfl, rfl, rfl⟩
theorem TI137 : Ty Try.prog 137 (.struct #[(.mk "Size_" 12 0 false "" "" 0), (.mk "PtrBytes" 12 1 false "" "" 8), (.mk "Hash" 129 2 false "" "" 16), (.mk "TFlag" 130 3 false "" "" 20), (.mk "Align_" 5 4 false "" "" 21), (.mk "FieldAlign_" 5 5 false "" "" 22), (.mk "Kind_" 131 6 false "" "" 23), (.mk "Equal" 132 7 false "" "" 24), (.mk "GCData" 133 8 false "" "" 32), (.mk "Str" 134 9 false "" "" 40), (.mk "PtrToThis" 135 10 false "" "" 44)]) 11 48 (.agg #[(.int .u64 0), (.int .u64 0), (.int .u32 0), (.int .u8 0), (.int .u8 0), (.int .u8 0), (.int .u8 0), .nilFunc, (.pointer none), (.int .i32 0), (.int .i32 0)]) := ⟨Try.underlying137, Try.t137, Try.type137, rfl, rfl, rfl⟩
theorem TI138 : Ty Try.prog 138 .unsafePointer 1 8 (.pointer none) := ⟨Try.underlying138, Try.t138, Try.type138, rfl, rfl, rfl⟩
end Go.Proofs.Ytcljkkfpcomdcaa
