/-
  The seat's types, as the walker's laws ask for them. Written by program.
-/
import Derived.Test.YtdiaeafjjffjmaaProg
import Derived.Test.YtdiaeafjjffjmaaMem
set_option maxRecDepth 100000
namespace Go.Proofs.Ytdiaeafjjffjmaa
open Go Go.Vc Go.Proofs
theorem TI2 : Ty Try.prog 2 (.int .i64) 1 8 (.int .i64 0) := ⟨Try.underlying2, Try.t2, Try.type2, rfl, rfl, rfl⟩
theorem TI3 : Ty Try.prog 3 (.int .i64) 1 8 (.int .i64 0) := ⟨Try.underlying3, Try.t3, Try.type3, rfl, rfl, rfl⟩
theorem TI4 : Ty Try.prog 4 .bool 1 1 (.bool false) := ⟨Try.underlying4, Try.t4, Try.type4, rfl, rfl, rfl⟩
theorem TI5 : Ty Try.prog 5 (.int .u8) 1 1 (.int .u8 0) := ⟨Try.underlying5, Try.t5, Try.type5, rfl, rfl, rfl⟩
theorem TI6 : Ty Try.prog 6 (.int .u8) 1 1 (.int .u8 0) := ⟨Try.underlying6, Try.t6, Try.type6, rfl, rfl, rfl⟩
theorem TI7 : Ty Try.prog 7 (.struct #[(.mk "x" 2 0 false "" "runtime" 0), (.mk "y" 3 1 false "" "runtime" 8), (.mk "signed" 4 2 false "" "runtime" 16), (.mk "code" 6 3 false "" "runtime" 17)]) 4 24 (.agg #[(.int .i64 0), (.int .i64 0), (.bool false), (.int .u8 0)]) := ⟨Try.underlying7, Try.t7, Try.type7, rfl, rfl, rfl⟩
theorem TI8 : Ty Try.prog 8 (.struct #[(.mk "x" 2 0 false "" "runtime" 0), (.mk "y" 3 1 false "" "runtime" 8), (.mk "signed" 4 2 false "" "runtime" 16), (.mk "code" 6 3 false "" "runtime" 17)]) 4 24 (.agg #[(.int .i64 0), (.int .i64 0), (.bool false), (.int .u8 0)]) := ⟨Try.underlying8, Try.t8, Try.type8, rfl, rfl, rfl⟩
theorem TI9 : Ty Try.prog 9 .string 1 16 (.string ⟨#[]⟩) := ⟨Try.underlying9, Try.t9, Try.type9, rfl, rfl, rfl⟩
theorem TI10 : Ty Try.prog 10 .string 1 16 (.string ⟨#[]⟩) := ⟨Try.underlying10, Try.t10, Try.type10, rfl, rfl, rfl⟩
theorem TI11 : Ty Try.prog 11 .string 1 16 (.string ⟨#[]⟩) := ⟨Try.underlying11, Try.t11, Try.type11, rfl, rfl, rfl⟩
theorem TI12 : Ty Try.prog 12 (.int .u64) 1 8 (.int .u64 0) := ⟨Try.underlying12, Try.t12, Try.type12, rfl, rfl, rfl⟩
theorem TI13 : Ty Try.prog 13 (.struct #[(.mk "msg" 9 0 false "" "runtime" 0), (.mk "addr" 12 1 false "" "runtime" 16)]) 2 24 (.agg #[(.string ⟨#[]⟩), (.int .u64 0)]) := ⟨Try.underlying13, Try.t13, Try.type13, rfl, rfl, rfl⟩
theorem TI14 : Ty Try.prog 14 (.struct #[(.mk "msg" 9 0 false "" "runtime" 0), (.mk "addr" 12 1 false "" "runtime" 16)]) 2 24 (.agg #[(.string ⟨#[]⟩), (.int .u64 0)]) := ⟨Try.underlying14, Try.t14, Try.type14, rfl, rfl, rfl⟩
theorem TI15 : Ty Try.prog 15 (.pointer 116) 1 8 (.pointer none) := ⟨Try.underlying15, Try.t15, Try.type15, rfl, rfl, rfl⟩
theorem TI16 : Ty Try.prog 16 (.pointer 119) 1 8 (.pointer none) := ⟨Try.underlying16, Try.t16, Try.type16, rfl, rfl, rfl⟩
theorem TI17 : Ty Try.prog 17 (.pointer 128) 1 8 (.pointer none) := ⟨Try.underlying17, Try.t17, Try.type17, rfl, rfl, rfl⟩
theorem TI18 : Ty Try.prog 18 (.struct #[(.mk "typ" 17 0 false "" "internal/runtime/maps" 0)]) 1 8 (.agg #[(.pointer none)]) := ⟨Try.underlying18, Try.t18, Try.type18, rfl, rfl, rfl⟩
theorem TI19 : Ty Try.prog 19 (.struct #[(.mk "typ" 17 0 false "" "internal/runtime/maps" 0)]) 1 8 (.agg #[(.pointer none)]) := ⟨Try.underlying19, Try.t19, Try.type19, rfl, rfl, rfl⟩
theorem TI21 : Ty Try.prog 21 (.int .i32) 1 4 (.int .i32 0) := ⟨Try.underlying21, Try.t21, Try.type21, rfl, rfl, rfl⟩
theorem TI22 : Ty Try.prog 22 (.slice 39) 1 24 (.slice none 0 0) := ⟨Try.underlying22, Try.t22, Try.type22, rfl, rfl, rfl⟩
theorem TI23 : Ty Try.prog 23 (.slice 5) 1 24 (.slice none 0 0) := ⟨Try.underlying23, Try.t23, Try.type23, rfl, rfl, rfl⟩
theorem TI25 : Ty Try.prog 25 (.pointer 71) 1 8 (.pointer none) := ⟨Try.underlying25, Try.t25, Try.type25, rfl, rfl, rfl⟩
theorem TI29 : Ty Try.prog 29 (.int .i64) 1 8 (.int .i64 0) := ⟨Try.underlying29, Try.t29, Try.type29, rfl, rfl, rfl⟩
theorem TI30 : Ty Try.prog 30 (.struct #[(.mk "Err" 29 0 false "" "" 0), (.mk "At" 3 1 false "" "" 8)]) 2 16 (.agg #[(.int .i64 0), (.int .i64 0)]) := ⟨Try.underlying30, Try.t30, Try.type30, rfl, rfl, rfl⟩
theorem TI31 : Ty Try.prog 31 (.struct #[(.mk "Err" 29 0 false "" "" 0), (.mk "At" 3 1 false "" "" 8)]) 2 16 (.agg #[(.int .i64 0), (.int .i64 0)]) := ⟨Try.underlying31, Try.t31, Try.type31, rfl, rfl, rfl⟩
theorem TI37 : Ty Try.prog 37 (.slice 3) 1 24 (.slice none 0 0) := ⟨Try.underlying37, Try.t37, Try.type37, rfl, rfl, rfl⟩
theorem TI38 : Ty Try.prog 38 (.struct #[(.mk "Routine" 3 0 false "" "" 0), (.mk "At" 3 1 false "" "" 8), (.mk "Base" 3 2 false "" "" 16), (.mk "End" 3 3 false "" "" 24), (.mk "Node" 3 4 false "" "" 32), (.mk "Next" 3 5 false "" "" 40), (.mk "Table" 37 6 false "" "" 48)]) 7 72 (.agg #[(.int .i64 0), (.int .i64 0), (.int .i64 0), (.int .i64 0), (.int .i64 0), (.int .i64 0), (.slice none 0 0)]) := ⟨Try.underlying38, Try.t38, Try.type38, rfl, rfl, rfl⟩
theorem TI39 : Ty Try.prog 39 (.struct #[(.mk "Routine" 3 0 false "" "" 0), (.mk "At" 3 1 false "" "" 8), (.mk "Base" 3 2 false "" "" 16), (.mk "End" 3 3 false "" "" 24), (.mk "Node" 3 4 false "" "" 32), (.mk "Next" 3 5 false "" "" 40), (.mk "Table" 37 6 false "" "" 48)]) 7 72 (.agg #[(.int .i64 0), (.int .i64 0), (.int .i64 0), (.int .i64 0), (.int .i64 0), (.int .i64 0), (.slice none 0 0)]) := ⟨Try.underlying39, Try.t39, Try.type39, rfl, rfl, rfl⟩
theorem TI45 : Ty Try.prog 45 (.slice 58) 1 24 (.slice none 0 0) := ⟨Try.underlying45, Try.t45, Try.type45, rfl, rfl, rfl⟩
theorem TI46 : Ty Try.prog 46 (.pointer 55) 1 8 (.pointer none) := ⟨Try.underlying46, Try.t46, Try.type46, rfl, rfl, rfl⟩
theorem TI47 : Ty Try.prog 47 (.array 2 25) 2 16 (.agg #[(.pointer none), (.pointer none)]) := ⟨Try.underlying47, Try.t47, Try.type47, rfl, rfl, rfl⟩
theorem TI48 : Ty Try.prog 48 (.pointer 95) 1 8 (.pointer none) := ⟨Try.underlying48, Try.t48, Try.type48, rfl, rfl, rfl⟩
theorem TI49 : Ty Try.prog 49 (.array 2 48) 2 16 (.agg #[(.pointer none), (.pointer none)]) := ⟨Try.underlying49, Try.t49, Try.type49, rfl, rfl, rfl⟩
theorem TI50 : Ty Try.prog 50 (.slice 37) 1 24 (.slice none 0 0) := ⟨Try.underlying50, Try.t50, Try.type50, rfl, rfl, rfl⟩
theorem TI51 : Ty Try.prog 51 (.slice 23) 1 24 (.slice none 0 0) := ⟨Try.underlying51, Try.t51, Try.type51, rfl, rfl, rfl⟩
theorem TI52 : Ty Try.prog 52 (.struct #[(.mk "T" 50 0 false "" "" 0), (.mk "MoreT" 50 1 false "" "" 24), (.mk "B" 51 2 false "" "" 48), (.mk "MoreB" 51 3 false "" "" 72)]) 4 96 (.agg #[(.slice none 0 0), (.slice none 0 0), (.slice none 0 0), (.slice none 0 0)]) := ⟨Try.underlying52, Try.t52, Try.type52, rfl, rfl, rfl⟩
theorem TI53 : Ty Try.prog 53 (.struct #[(.mk "T" 50 0 false "" "" 0), (.mk "MoreT" 50 1 false "" "" 24), (.mk "B" 51 2 false "" "" 48), (.mk "MoreB" 51 3 false "" "" 72)]) 4 96 (.agg #[(.slice none 0 0), (.slice none 0 0), (.slice none 0 0), (.slice none 0 0)]) := ⟨Try.underlying53, Try.t53, Try.type53, rfl, rfl, rfl⟩
theorem TI54 : Ty Try.prog 54 (.struct #[(.mk "P" 47 0 false "" "" 0), (.mk "R" 49 2 false "" "" 16), (.mk "Book" 53 4 false "" "" 32)]) 8 128 (.agg #[(.pointer none), (.pointer none), (.pointer none), (.pointer none), (.slice none 0 0), (.slice none 0 0), (.slice none 0 0), (.slice none 0 0)]) := ⟨Try.underlying54, Try.t54, Try.type54, rfl, rfl, rfl⟩
theorem TI55 : Ty Try.prog 55 (.struct #[(.mk "P" 47 0 false "" "" 0), (.mk "R" 49 2 false "" "" 16), (.mk "Book" 53 4 false "" "" 32)]) 8 128 (.agg #[(.pointer none), (.pointer none), (.pointer none), (.pointer none), (.slice none 0 0), (.slice none 0 0), (.slice none 0 0), (.slice none 0 0)]) := ⟨Try.underlying55, Try.t55, Try.type55, rfl, rfl, rfl⟩
theorem TI57 : Ty Try.prog 57 (.struct #[(.mk "Kind" 3 0 false "" "" 0), (.mk "Which" 4 1 false "" "" 8), (.mk "F" 39 2 false "" "" 16), (.mk "N" 3 9 false "" "" 88), (.mk "B" 23 10 false "" "" 96)]) 11 120 (.agg #[(.int .i64 0), (.bool false), (.int .i64 0), (.int .i64 0), (.int .i64 0), (.int .i64 0), (.int .i64 0), (.int .i64 0), (.slice none 0 0), (.int .i64 0), (.slice none 0 0)]) := ⟨Try.underlying57, Try.t57, Try.type57, rfl, rfl, rfl⟩
theorem TI58 : Ty Try.prog 58 (.struct #[(.mk "Kind" 3 0 false "" "" 0), (.mk "Which" 4 1 false "" "" 8), (.mk "F" 39 2 false "" "" 16), (.mk "N" 3 9 false "" "" 88), (.mk "B" 23 10 false "" "" 96)]) 11 120 (.agg #[(.int .i64 0), (.bool false), (.int .i64 0), (.int .i64 0), (.int .i64 0), (.int .i64 0), (.int .i64 0), (.int .i64 0), (.slice none 0 0), (.int .i64 0), (.slice none 0 0)]) := ⟨Try.underlying58, Try.t58, Try.type58, rfl, rfl, rfl⟩
theorem TI68 : Ty Try.prog 68 (.int .u64) 1 8 (.int .u64 0) := ⟨Try.underlying68, Try.t68, Try.type68, rfl, rfl, rfl⟩
theorem TI70 : Ty Try.prog 70 (.struct #[(.mk "most" 3 0 false "" "mortise/frames" 0), (.mk "high" 3 1 false "" "mortise/frames" 8), (.mk "list" 22 2 false "" "mortise/frames" 16)]) 3 40 (.agg #[(.int .i64 0), (.int .i64 0), (.slice none 0 0)]) := ⟨Try.underlying70, Try.t70, Try.type70, rfl, rfl, rfl⟩
theorem TI71 : Ty Try.prog 71 (.struct #[(.mk "most" 3 0 false "" "mortise/frames" 0), (.mk "high" 3 1 false "" "mortise/frames" 8), (.mk "list" 22 2 false "" "mortise/frames" 16)]) 3 40 (.agg #[(.int .i64 0), (.int .i64 0), (.slice none 0 0)]) := ⟨Try.underlying71, Try.t71, Try.type71, rfl, rfl, rfl⟩
theorem TI73 : Ty Try.prog 73 (.pointer 75) 1 8 (.pointer none) := ⟨Try.underlying73, Try.t73, Try.type73, rfl, rfl, rfl⟩
theorem TI74 : Ty Try.prog 74 (.struct #[(.mk "b" 23 0 false "" "mortise/frames" 0), (.mk "at" 3 1 false "" "mortise/frames" 24)]) 2 32 (.agg #[(.slice none 0 0), (.int .i64 0)]) := ⟨Try.underlying74, Try.t74, Try.type74, rfl, rfl, rfl⟩
theorem TI75 : Ty Try.prog 75 (.struct #[(.mk "b" 23 0 false "" "mortise/frames" 0), (.mk "at" 3 1 false "" "mortise/frames" 24)]) 2 32 (.agg #[(.slice none 0 0), (.int .i64 0)]) := ⟨Try.underlying75, Try.t75, Try.type75, rfl, rfl, rfl⟩
theorem TI77 : Ty Try.prog 77 (.pointer 39) 1 8 (.pointer none) := ⟨Try.underlying77, Try.t77, Try.type77, rfl, rfl, rfl⟩
theorem TI88 : Ty Try.prog 88 (.pointer 53) 1 8 (.pointer none) := ⟨Try.underlying88, Try.t88, Try.type88, rfl, rfl, rfl⟩
theorem TI91 : Ty Try.prog 91 (.int .u64) 1 8 (.int .u64 0) := ⟨Try.underlying91, Try.t91, Try.type91, rfl, rfl, rfl⟩
theorem TI94 : Ty Try.prog 94 (.struct #[(.mk "L" 22 0 false "" "" 0), (.mk "Most" 3 1 false "" "" 24), (.mk "Top0" 3 2 false "" "" 32)]) 3 40 (.agg #[(.slice none 0 0), (.int .i64 0), (.int .i64 0)]) := ⟨Try.underlying94, Try.t94, Try.type94, rfl, rfl, rfl⟩
theorem TI95 : Ty Try.prog 95 (.struct #[(.mk "L" 22 0 false "" "" 0), (.mk "Most" 3 1 false "" "" 24), (.mk "Top0" 3 2 false "" "" 32)]) 3 40 (.agg #[(.slice none 0 0), (.int .i64 0), (.int .i64 0)]) := ⟨Try.underlying95, Try.t95, Try.type95, rfl, rfl, rfl⟩
theorem TI110 : Ty Try.prog 110 (.pointer 112) 1 8 (.pointer none) := ⟨Try.underlying110, Try.t110, Try.type110, rfl, rfl, rfl⟩
theorem TI111 : Ty Try.prog 111 (.struct #[(.mk "B" 23 0 false "" "" 0), (.mk "At" 3 1 false "" "" 24), (.mk "Err" 3 2 false "" "" 32), (.mk "Bad" 3 3 false "" "" 40)]) 4 48 (.agg #[(.slice none 0 0), (.int .i64 0), (.int .i64 0), (.int .i64 0)]) := ⟨Try.underlying111, Try.t111, Try.type111, rfl, rfl, rfl⟩
theorem TI112 : Ty Try.prog 112 (.struct #[(.mk "B" 23 0 false "" "" 0), (.mk "At" 3 1 false "" "" 24), (.mk "Err" 3 2 false "" "" 32), (.mk "Bad" 3 3 false "" "" 40)]) 4 48 (.agg #[(.slice none 0 0), (.int .i64 0), (.int .i64 0), (.int .i64 0)]) := ⟨Try.underlying112, Try.t112, Try.type112, rfl, rfl, rfl⟩
theorem TI115 : Ty Try.prog 115 (.struct #[(.mk "_interface" 17 0 false "" "runtime" 0), (.mk "concrete" 17 1 false "" "runtime" 8), (.mk "asserted" 17 2 false "" "runtime" 16), (.mk "missingMethod" 9 3 false "" "runtime" 24)]) 4 40 (.agg #[(.pointer none), (.pointer none), (.pointer none), (.string ⟨#[]⟩)]) := ⟨Try.underlying115, Try.t115, Try.type115, rfl, rfl, rfl⟩
theorem TI116 : Ty Try.prog 116 (.struct #[(.mk "_interface" 17 0 false "" "runtime" 0), (.mk "concrete" 17 1 false "" "runtime" 8), (.mk "asserted" 17 2 false "" "runtime" 16), (.mk "missingMethod" 9 3 false "" "runtime" 24)]) 4 40 (.agg #[(.pointer none), (.pointer none), (.pointer none), (.string ⟨#[]⟩)]) := ⟨Try.underlying116, Try.t116, Try.type116, rfl, rfl, rfl⟩
theorem TI117 : Ty Try.prog 117 (.array 0 16) 0 0 (.agg #[]) := ⟨Try.underlying117, Try.t117, Try.type117, rfl, rfl, rfl⟩
theorem TI118 : Ty Try.prog 118 (.struct #[(.mk "_" 117 0 false "" "runtime" 0)]) 0 0 (.agg #[]) := ⟨Try.underlying118, Try.t118, Try.type118, rfl, rfl, rfl⟩
theorem TI119 : Ty Try.prog 119 (.struct #[(.mk "_" 117 0 false "" "runtime" 0)]) 0 0 (.agg #[]) := ⟨Try.underlying119, Try.t119, Try.type119, rfl, rfl, rfl⟩
theorem TI120 : Ty Try.prog 120 (.int .u32) 1 4 (.int .u32 0) := ⟨Try.underlying120, Try.t120, Try.type120, rfl, rfl, rfl⟩
theorem TI121 : Ty Try.prog 121 (.int .u8) 1 1 (.int .u8 0) := ⟨Try.underlying121, Try.t121, Try.type121, rfl, rfl, rfl⟩
theorem TI122 : Ty Try.prog 122 (.int .u8) 1 1 (.int .u8 0) := ⟨Try.underlying122, Try.t122, Try.type122, rfl, rfl, rfl⟩
theorem TI124 : Ty Try.prog 124 (.pointer 5) 1 8 (.pointer none) := ⟨Try.underlying124, Try.t124, Try.type124, rfl, rfl, rfl⟩
theorem TI125 : Ty Try.prog 125 (.int .i32) 1 4 (.int .i32 0) := ⟨Try.underlying125, Try.t125, Try.type125, rfl, rfl, rfl⟩
theorem TI126 : Ty Try.prog 126 (.int .i32) 1 4 (.int .i32 0) := ⟨Try.underlying126, Try.t126, Try.type126, rfl, rfl, rfl⟩
theorem TI127 : Ty Try.prog 127 (.struct #[(.mk "Size_" 12 0 false "" "" 0), (.mk "PtrBytes" 12 1 false "" "" 8), (.mk "Hash" 120 2 false "" "" 16), (.mk "TFlag" 121 3 false "" "" 20), (.mk "Align_" 5 4 false "" "" 21), (.mk "FieldAlign_" 5 5 false "" "" 22), (.mk "Kind_" 122 6 false "" "" 23), (.mk "Equal" 123 7 false "" "" 24), (.mk "GCData" 124 8 false "" "" 32), (.mk "Str" 125 9 false "" "" 40), (.mk "PtrToThis" 126 10 false "" "" 44)]) 11 48 (.agg #[(.int .u64 0), (.int .u64 0), (.int .u32 0), (.int .u8 0), (.int .u8 0), (.int .u8 0), (.int .u8 0), .nilFunc, (.pointer none), (.int .i32 0), (.int .i32 0)]) := ⟨Try.underlying127, Try.t127, Try.type127, rfl, rfl, rfl⟩
theorem TI128 : Ty Try.prog 128 (.struct #[(.mk "Size_" 12 0 false "" "" 0), (.mk "PtrBytes" 12 1 false "" "" 8), (.mk "Hash" 120 2 false "" "" 16), (.mk "TFlag" 121 3 false "" "" 20), (.mk "Align_" 5 4 false "" "" 21), (.mk "FieldAlign_" 5 5 false "" "" 22), (.mk "Kind_" 122 6 false "" "" 23), (.mk "Equal" 123 7 false "" "" 24), (.mk "GCData" 124 8 false "" "" 32), (.mk "Str" 125 9 false "" "" 40), (.mk "PtrToThis" 126 10 false "" "" 44)]) 11 48 (.agg #[(.int .u64 0), (.int .u64 0), (.int .u32 0), (.int .u8 0), (.int .u8 0), (.int .u8 0), (.int .u8 0), .nilFunc, (.pointer none), (.int .i32 0), (.int .i32 0)]) := ⟨Try.underlying128, Try.t128, Try.type128, rfl, rfl, rfl⟩
theorem TI129 : Ty Try.prog 129 .unsafePointer 1 8 (.pointer none) := ⟨Try.underlying129, Try.t129, Try.type129, rfl, rfl, rfl⟩
end Go.Proofs.Ytdiaeafjjffjmaa
