/-
  Texts that the law leans on. Nothing here is trusted.
-/
import Derived.Test.YtenjkphlbdhaiaaEngRd
import Derived.Test.YtenjkphlbdhaiaaProg
set_option linter.unusedVariables false
set_option linter.unusedSimpArgs false
namespace Go.Proofs.Ytenjkphlbdhaiaa
open Go Go.Eng
def t1 : TI := ⟨.func, 1, 8, [.nilFunc], [.func], []⟩
def t2 : TI := ⟨.int .i64, 1, 8, [.int .i64 0], [.int .i64], []⟩
def t3 : TI := ⟨.int .i64, 1, 8, [.int .i64 0], [.int .i64], []⟩
def t4 : TI := ⟨.bool, 1, 1, [.bool false], [.bool], []⟩
def t5 : TI := ⟨.int .u8, 1, 1, [.int .u8 0], [.int .u8], []⟩
def t6 : TI := ⟨.int .u8, 1, 1, [.int .u8 0], [.int .u8], []⟩
def t7 : TI := ⟨.struct [(0, 2), (1, 3), (2, 4), (3, 6)], 4, 24, [.int .i64 0, .int .i64 0, .bool false, .int .u8 0], [.int .i64, .int .i64, .bool, .int .u8], []⟩
def t8 : TI := ⟨.struct [(0, 2), (1, 3), (2, 4), (3, 6)], 4, 24, [.int .i64 0, .int .i64 0, .bool false, .int .u8 0], [.int .i64, .int .i64, .bool, .int .u8], []⟩
def t9 : TI := ⟨.str, 1, 16, [.string ⟨#[]⟩], [.str], []⟩
def t10 : TI := ⟨.str, 1, 16, [.string ⟨#[]⟩], [.str], []⟩
def t11 : TI := ⟨.str, 1, 16, [.string ⟨#[]⟩], [.str], []⟩
def t12 : TI := ⟨.int .u64, 1, 8, [.int .u64 0], [.int .u64], []⟩
def t13 : TI := ⟨.struct [(0, 9), (1, 12)], 2, 24, [.string ⟨#[]⟩, .int .u64 0], [.str, .int .u64], []⟩
def t14 : TI := ⟨.struct [(0, 9), (1, 12)], 2, 24, [.string ⟨#[]⟩, .int .u64 0], [.str, .int .u64], []⟩
def t15 : TI := ⟨.ptr 149, 1, 8, [.pointer none], [.ptr 149], []⟩
def t16 : TI := ⟨.ptr 152, 1, 8, [.pointer none], [.ptr 152], []⟩
def t17 : TI := ⟨.ptr 160, 1, 8, [.pointer none], [.ptr 160], []⟩
def t18 : TI := ⟨.struct [(0, 17)], 1, 8, [.pointer none], [.ptr 160], []⟩
def t19 : TI := ⟨.struct [(0, 17)], 1, 8, [.pointer none], [.ptr 160], []⟩
def t21 : TI := ⟨.int .i32, 1, 4, [.int .i32 0], [.int .i32], []⟩
def t22 : TI := ⟨.slice 3, 1, 24, [.slice none 0 0], [.slice 3], []⟩
def t23 : TI := ⟨.ptr 43, 1, 8, [.pointer none], [.ptr 43], []⟩
def t24 : TI := ⟨.func, 1, 8, [.nilFunc], [.func], []⟩
def t25 : TI := ⟨.slice 9, 1, 24, [.slice none 0 0], [.slice 9], []⟩
def t26 : TI := ⟨.func, 1, 8, [.nilFunc], [.func], []⟩
def t27 : TI := ⟨.func, 1, 8, [.nilFunc], [.func], []⟩
def t28 : TI := ⟨.func, 1, 8, [.nilFunc], [.func], []⟩
def t29 : TI := ⟨.func, 1, 8, [.nilFunc], [.func], []⟩
def t30 : TI := ⟨.func, 1, 8, [.nilFunc], [.func], []⟩
def t31 : TI := ⟨.func, 1, 8, [.nilFunc], [.func], []⟩
def t32 : TI := ⟨.func, 1, 8, [.nilFunc], [.func], []⟩
def t33 : TI := ⟨.func, 1, 8, [.nilFunc], [.func], []⟩
def t34 : TI := ⟨.func, 1, 8, [.nilFunc], [.func], []⟩
def t35 : TI := ⟨.int .i64, 1, 8, [.int .i64 0], [.int .i64], []⟩
def t36 : TI := ⟨.func, 1, 8, [.nilFunc], [.func], []⟩
def t37 : TI := ⟨.func, 1, 8, [.nilFunc], [.func], []⟩
def t38 : TI := ⟨.func, 1, 8, [.nilFunc], [.func], []⟩
def t40 : TI := ⟨.func, 1, 8, [.nilFunc], [.func], []⟩
def t41 : TI := ⟨.func, 1, 8, [.nilFunc], [.func], []⟩
def t42 : TI := ⟨.struct [(0, 3), (1, 25), (2, 3), (3, 3)], 4, 48, [.int .i64 0, .slice none 0 0, .int .i64 0, .int .i64 0], [.int .i64, .slice 9, .int .i64, .int .i64], []⟩
def t43 : TI := ⟨.struct [(0, 3), (1, 25), (2, 3), (3, 3)], 4, 48, [.int .i64 0, .slice none 0 0, .int .i64 0, .int .i64 0], [.int .i64, .slice 9, .int .i64, .int .i64], []⟩
def t44 : TI := ⟨.slice 23, 1, 24, [.slice none 0 0], [.slice 23], []⟩
def t46 : TI := ⟨.func, 1, 8, [.nilFunc], [.func], []⟩
def t48 : TI := ⟨.func, 1, 8, [.nilFunc], [.func], []⟩
def t49 : TI := ⟨.func, 1, 8, [.nilFunc], [.func], []⟩
def t50 : TI := ⟨.func, 1, 8, [.nilFunc], [.func], []⟩
def t51 : TI := ⟨.func, 1, 8, [.nilFunc], [.func], []⟩
def t52 : TI := ⟨.func, 1, 8, [.nilFunc], [.func], []⟩
def t53 : TI := ⟨.func, 1, 8, [.nilFunc], [.func], []⟩
def t54 : TI := ⟨.func, 1, 8, [.nilFunc], [.func], []⟩
def t55 : TI := ⟨.func, 1, 8, [.nilFunc], [.func], []⟩
def t56 : TI := ⟨.ptr 73, 1, 8, [.pointer none], [.ptr 73], []⟩
def t58 : TI := ⟨.func, 1, 8, [.nilFunc], [.func], []⟩
def t59 : TI := ⟨.func, 1, 8, [.nilFunc], [.func], []⟩
def t60 : TI := ⟨.func, 1, 8, [.nilFunc], [.func], []⟩
def t61 : TI := ⟨.func, 1, 8, [.nilFunc], [.func], []⟩
def t62 : TI := ⟨.int .i64, 1, 8, [.int .i64 0], [.int .i64], []⟩
def t63 : TI := ⟨.slice 62, 1, 24, [.slice none 0 0], [.slice 62], []⟩
def t64 : TI := ⟨.func, 1, 8, [.nilFunc], [.func], []⟩
def t65 : TI := ⟨.slice 67, 1, 24, [.slice none 0 0], [.slice 67], []⟩
def t66 : TI := ⟨.struct [(0, 5), (1, 9), (2, 62)], 3, 32, [.int .u8 0, .string ⟨#[]⟩, .int .i64 0], [.int .u8, .str, .int .i64], [.int .u8, .str, .int .i64]⟩
def t67 : TI := ⟨.struct [(0, 5), (1, 9), (2, 62)], 3, 32, [.int .u8 0, .string ⟨#[]⟩, .int .i64 0], [.int .u8, .str, .int .i64], [.int .u8, .str, .int .i64]⟩
def t68 : TI := ⟨.func, 1, 8, [.nilFunc], [.func], []⟩
def t69 : TI := ⟨.func, 1, 8, [.nilFunc], [.func], []⟩
def t70 : TI := ⟨.slice 25, 1, 24, [.slice none 0 0], [.slice 25], []⟩
def t71 : TI := ⟨.slice 105, 1, 24, [.slice none 0 0], [.slice 105], []⟩
def t72 : TI := ⟨.struct [(0, 23), (1, 70), (2, 71), (3, 4), (4, 4), (5, 3), (6, 3)], 7, 80, [.pointer none, .slice none 0 0, .slice none 0 0, .bool false, .bool false, .int .i64 0, .int .i64 0], [.ptr 43, .slice 25, .slice 105, .bool, .bool, .int .i64, .int .i64], []⟩
def t73 : TI := ⟨.struct [(0, 23), (1, 70), (2, 71), (3, 4), (4, 4), (5, 3), (6, 3)], 7, 80, [.pointer none, .slice none 0 0, .slice none 0 0, .bool false, .bool false, .int .i64 0, .int .i64 0], [.ptr 43, .slice 25, .slice 105, .bool, .bool, .int .i64, .int .i64], []⟩
def t74 : TI := ⟨.slice 56, 1, 24, [.slice none 0 0], [.slice 56], []⟩
def t75 : TI := ⟨.func, 1, 8, [.nilFunc], [.func], []⟩
def t76 : TI := ⟨.func, 1, 8, [.nilFunc], [.func], []⟩
def t78 : TI := ⟨.func, 1, 8, [.nilFunc], [.func], []⟩
def t79 : TI := ⟨.slice 21, 1, 24, [.slice none 0 0], [.slice 21], []⟩
def t81 : TI := ⟨.func, 1, 8, [.nilFunc], [.func], []⟩
def t82 : TI := ⟨.slice 5, 1, 24, [.slice none 0 0], [.slice 5], []⟩
def t83 : TI := ⟨.func, 1, 8, [.nilFunc], [.func], []⟩
def t84 : TI := ⟨.func, 1, 8, [.nilFunc], [.func], []⟩
def t85 : TI := ⟨.func, 1, 8, [.nilFunc], [.func], []⟩
def t86 : TI := ⟨.ptr 88, 1, 8, [.pointer none], [.ptr 88], []⟩
def t87 : TI := ⟨.struct [(0, 86), (1, 82)], 2, 32, [.pointer none, .slice none 0 0], [.ptr 88, .slice 5], []⟩
def t88 : TI := ⟨.struct [(0, 86), (1, 82)], 2, 32, [.pointer none, .slice none 0 0], [.ptr 88, .slice 5], []⟩
def t92 : TI := ⟨.func, 1, 8, [.nilFunc], [.func], []⟩
def t93 : TI := ⟨.func, 1, 8, [.nilFunc], [.func], []⟩
def t94 : TI := ⟨.func, 1, 8, [.nilFunc], [.func], []⟩
def t95 : TI := ⟨.func, 1, 8, [.nilFunc], [.func], []⟩
def t96 : TI := ⟨.func, 1, 8, [.nilFunc], [.func], []⟩
def t98 : TI := ⟨.func, 1, 8, [.nilFunc], [.func], []⟩
def t99 : TI := ⟨.func, 1, 8, [.nilFunc], [.func], []⟩
def t100 : TI := ⟨.func, 1, 8, [.nilFunc], [.func], []⟩
def t101 : TI := ⟨.func, 1, 8, [.nilFunc], [.func], []⟩
def t102 : TI := ⟨.func, 1, 8, [.nilFunc], [.func], []⟩
def t103 : TI := ⟨.func, 1, 8, [.nilFunc], [.func], []⟩
def t104 : TI := ⟨.struct [(0, 25), (1, 3)], 2, 32, [.slice none 0 0, .int .i64 0], [.slice 9, .int .i64], []⟩
def t105 : TI := ⟨.struct [(0, 25), (1, 3)], 2, 32, [.slice none 0 0, .int .i64 0], [.slice 9, .int .i64], []⟩
def t106 : TI := ⟨.func, 1, 8, [.nilFunc], [.func], []⟩
def t107 : TI := ⟨.func, 1, 8, [.nilFunc], [.func], []⟩
def t109 : TI := ⟨.func, 1, 8, [.nilFunc], [.func], []⟩
def t110 : TI := ⟨.func, 1, 8, [.nilFunc], [.func], []⟩
def t111 : TI := ⟨.ptr 5, 1, 8, [.pointer none], [.ptr 5], []⟩
def t112 : TI := ⟨.func, 1, 8, [.nilFunc], [.func], []⟩
def t113 : TI := ⟨.func, 1, 8, [.nilFunc], [.func], []⟩
def t114 : TI := ⟨.func, 1, 8, [.nilFunc], [.func], []⟩
def t115 : TI := ⟨.func, 1, 8, [.nilFunc], [.func], []⟩
def t116 : TI := ⟨.func, 1, 8, [.nilFunc], [.func], []⟩
def t117 : TI := ⟨.struct [(0, 25), (1, 82), (2, 4)], 3, 56, [.slice none 0 0, .slice none 0 0, .bool false], [.slice 9, .slice 5, .bool], []⟩
def t118 : TI := ⟨.struct [(0, 25), (1, 82), (2, 4)], 3, 56, [.slice none 0 0, .slice none 0 0, .bool false], [.slice 9, .slice 5, .bool], []⟩
def t119 : TI := ⟨.func, 1, 8, [.nilFunc], [.func], []⟩
def t120 : TI := ⟨.func, 1, 8, [.nilFunc], [.func], []⟩
def t121 : TI := ⟨.func, 1, 8, [.nilFunc], [.func], []⟩
def t122 : TI := ⟨.func, 1, 8, [.nilFunc], [.func], []⟩
def t123 : TI := ⟨.func, 1, 8, [.nilFunc], [.func], []⟩
def t124 : TI := ⟨.slice 135, 1, 24, [.slice none 0 0], [.slice 135], []⟩
def t125 : TI := ⟨.func, 1, 8, [.nilFunc], [.func], []⟩
def t127 : TI := ⟨.func, 1, 8, [.nilFunc], [.func], []⟩
def t128 : TI := ⟨.func, 1, 8, [.nilFunc], [.func], []⟩
def t129 : TI := ⟨.func, 1, 8, [.nilFunc], [.func], []⟩
def t130 : TI := ⟨.func, 1, 8, [.nilFunc], [.func], []⟩
def t131 : TI := ⟨.func, 1, 8, [.nilFunc], [.func], []⟩
def t132 : TI := ⟨.func, 1, 8, [.nilFunc], [.func], []⟩
def t133 : TI := ⟨.ptr 118, 1, 8, [.pointer none], [.ptr 118], []⟩
def t134 : TI := ⟨.struct [(0, 21), (1, 21)], 2, 8, [.int .i32 0, .int .i32 0], [.int .i32, .int .i32], [.int .i32, .int .i32]⟩
def t135 : TI := ⟨.struct [(0, 21), (1, 21)], 2, 8, [.int .i32 0, .int .i32 0], [.int .i32, .int .i32], [.int .i32, .int .i32]⟩
def t136 : TI := ⟨.func, 1, 8, [.nilFunc], [.func], []⟩
def t138 : TI := ⟨.func, 1, 8, [.nilFunc], [.func], []⟩
def t139 : TI := ⟨.func, 1, 8, [.nilFunc], [.func], []⟩
def t140 : TI := ⟨.func, 1, 8, [.nilFunc], [.func], []⟩
def t141 : TI := ⟨.int .u64, 1, 8, [.int .u64 0], [.int .u64], []⟩
def t142 : TI := ⟨.func, 1, 8, [.nilFunc], [.func], []⟩
def t143 : TI := ⟨.func, 1, 8, [.nilFunc], [.func], []⟩
def t144 : TI := ⟨.func, 1, 8, [.nilFunc], [.func], []⟩
def t145 : TI := ⟨.struct [(0, 3), (1, 5), (2, 5), (3, 21)], 4, 16, [.int .i64 0, .int .u8 0, .int .u8 0, .int .i32 0], [.int .i64, .int .u8, .int .u8, .int .i32], [.int .i64, .int .u8, .int .u8, .int .i32]⟩
def t146 : TI := ⟨.struct [(0, 3), (1, 5), (2, 5), (3, 21)], 4, 16, [.int .i64 0, .int .u8 0, .int .u8 0, .int .i32 0], [.int .i64, .int .u8, .int .u8, .int .i32], [.int .i64, .int .u8, .int .u8, .int .i32]⟩
def t147 : TI := ⟨.func, 1, 8, [.nilFunc], [.func], []⟩
def t148 : TI := ⟨.struct [(0, 17), (1, 17), (2, 17), (3, 9)], 4, 40, [.pointer none, .pointer none, .pointer none, .string ⟨#[]⟩], [.ptr 160, .ptr 160, .ptr 160, .str], []⟩
def t149 : TI := ⟨.struct [(0, 17), (1, 17), (2, 17), (3, 9)], 4, 40, [.pointer none, .pointer none, .pointer none, .string ⟨#[]⟩], [.ptr 160, .ptr 160, .ptr 160, .str], []⟩
def t153 : TI := ⟨.int .u32, 1, 4, [.int .u32 0], [.int .u32], []⟩
def t154 : TI := ⟨.int .u8, 1, 1, [.int .u8 0], [.int .u8], []⟩
def t155 : TI := ⟨.int .u8, 1, 1, [.int .u8 0], [.int .u8], []⟩
def t156 : TI := ⟨.func, 1, 8, [.nilFunc], [.func], []⟩
def t157 : TI := ⟨.int .i32, 1, 4, [.int .i32 0], [.int .i32], []⟩
def t158 : TI := ⟨.int .i32, 1, 4, [.int .i32 0], [.int .i32], []⟩
def t159 : TI := ⟨.struct [(0, 12), (1, 12), (2, 153), (3, 154), (4, 5), (5, 5), (6, 155), (7, 156), (8, 111), (9, 157), (10, 158)], 11, 48, [.int .u64 0, .int .u64 0, .int .u32 0, .int .u8 0, .int .u8 0, .int .u8 0, .int .u8 0, .nilFunc, .pointer none, .int .i32 0, .int .i32 0], [.int .u64, .int .u64, .int .u32, .int .u8, .int .u8, .int .u8, .int .u8, .func, .ptr 5, .int .i32, .int .i32], []⟩
def t160 : TI := ⟨.struct [(0, 12), (1, 12), (2, 153), (3, 154), (4, 5), (5, 5), (6, 155), (7, 156), (8, 111), (9, 157), (10, 158)], 11, 48, [.int .u64 0, .int .u64 0, .int .u32 0, .int .u8 0, .int .u8 0, .int .u8 0, .int .u8 0, .nilFunc, .pointer none, .int .i32 0, .int .i32 0], [.int .u64, .int .u64, .int .u32, .int .u8, .int .u8, .int .u8, .int .u8, .func, .ptr 5, .int .i32, .int .i32], []⟩
def tab : Tab := (.node (.node (.node (.node (.node (.node (.node (.node .nil 1 t1 .nil) 2 t2 .nil) 3 t3 (.node .nil 4 t4 .nil)) 5 t5 (.node (.node .nil 6 t6 .nil) 7 t7 (.node .nil 8 t8 .nil))) 9 t9 (.node (.node (.node (.node .nil 10 t10 .nil) 11 t11 .nil) 12 t12 (.node .nil 13 t13 .nil)) 14 t14 (.node (.node .nil 15 t15 .nil) 16 t16 (.node .nil 17 t17 .nil)))) 18 t18 (.node (.node (.node (.node (.node .nil 19 t19 .nil) 21 t21 .nil) 22 t22 (.node .nil 23 t23 .nil)) 24 t24 (.node (.node .nil 25 t25 .nil) 26 t26 (.node .nil 27 t27 .nil))) 28 t28 (.node (.node (.node (.node .nil 29 t29 .nil) 30 t30 .nil) 31 t31 (.node .nil 32 t32 .nil)) 33 t33 (.node (.node .nil 34 t34 .nil) 35 t35 (.node .nil 36 t36 .nil))))) 37 t37 (.node (.node (.node (.node (.node (.node .nil 38 t38 .nil) 40 t40 .nil) 41 t41 (.node .nil 42 t42 .nil)) 43 t43 (.node (.node .nil 44 t44 .nil) 46 t46 (.node .nil 48 t48 .nil))) 49 t49 (.node (.node (.node (.node .nil 50 t50 .nil) 51 t51 .nil) 52 t52 (.node .nil 53 t53 .nil)) 54 t54 (.node (.node .nil 55 t55 .nil) 56 t56 (.node .nil 58 t58 .nil)))) 59 t59 (.node (.node (.node (.node (.node .nil 60 t60 .nil) 61 t61 .nil) 62 t62 (.node .nil 63 t63 .nil)) 64 t64 (.node (.node .nil 65 t65 .nil) 66 t66 (.node .nil 67 t67 .nil))) 68 t68 (.node (.node (.node (.node .nil 69 t69 .nil) 70 t70 .nil) 71 t71 (.node .nil 72 t72 .nil)) 73 t73 (.node (.node .nil 74 t74 .nil) 75 t75 (.node .nil 76 t76 .nil)))))) 78 t78 (.node (.node (.node (.node (.node (.node (.node .nil 79 t79 .nil) 81 t81 .nil) 82 t82 (.node .nil 83 t83 .nil)) 84 t84 (.node (.node .nil 85 t85 .nil) 86 t86 (.node .nil 87 t87 .nil))) 88 t88 (.node (.node (.node (.node .nil 92 t92 .nil) 93 t93 .nil) 94 t94 (.node .nil 95 t95 .nil)) 96 t96 (.node (.node .nil 98 t98 .nil) 99 t99 (.node .nil 100 t100 .nil)))) 101 t101 (.node (.node (.node (.node (.node .nil 102 t102 .nil) 103 t103 .nil) 104 t104 (.node .nil 105 t105 .nil)) 106 t106 (.node (.node .nil 107 t107 .nil) 109 t109 (.node .nil 110 t110 .nil))) 111 t111 (.node (.node (.node (.node .nil 112 t112 .nil) 113 t113 .nil) 114 t114 (.node .nil 115 t115 .nil)) 116 t116 (.node (.node .nil 117 t117 .nil) 118 t118 (.node .nil 119 t119 .nil))))) 120 t120 (.node (.node (.node (.node (.node (.node .nil 121 t121 .nil) 122 t122 .nil) 123 t123 (.node .nil 124 t124 .nil)) 125 t125 (.node (.node .nil 127 t127 .nil) 128 t128 (.node .nil 129 t129 .nil))) 130 t130 (.node (.node (.node (.node .nil 131 t131 .nil) 132 t132 .nil) 133 t133 (.node .nil 134 t134 .nil)) 135 t135 (.node (.node .nil 136 t136 .nil) 138 t138 (.node .nil 139 t139 .nil)))) 140 t140 (.node (.node (.node (.node (.node .nil 141 t141 .nil) 142 t142 .nil) 143 t143 (.node .nil 144 t144 .nil)) 145 t145 (.node (.node .nil 146 t146 .nil) 147 t147 (.node .nil 148 t148 .nil))) 149 t149 (.node (.node (.node (.node .nil 153 t153 .nil) 154 t154 .nil) 155 t155 (.node .nil 156 t156 .nil)) 157 t157 (.node (.node .nil 158 t158 .nil) 159 t159 (.node .nil 160 t160 .nil)))))))
theorem tab_b : tabB Try.prog tab = true := by kernel_rfl
theorem tab_ok : TabOk Try.prog tab := tabOk_of tab_b
theorem nm0 : (Try.f0.name == "runtime.NumGoroutine") = false := by kernel_rfl
theorem nm1 : (Try.f1.name == "runtime.NumGoroutine") = false := by kernel_rfl
theorem nm2 : (Try.f2.name == "runtime.NumGoroutine") = false := by kernel_rfl
theorem nm3 : (Try.f3.name == "runtime.NumGoroutine") = false := by kernel_rfl
theorem nm4 : (Try.f4.name == "runtime.NumGoroutine") = false := by kernel_rfl
theorem nm5 : (Try.f5.name == "runtime.NumGoroutine") = false := by kernel_rfl
theorem nm6 : (Try.f6.name == "runtime.NumGoroutine") = false := by kernel_rfl
theorem nm7 : (Try.f7.name == "runtime.NumGoroutine") = false := by kernel_rfl
theorem nm8 : (Try.f8.name == "runtime.NumGoroutine") = false := by kernel_rfl
theorem nm9 : (Try.f9.name == "runtime.NumGoroutine") = false := by kernel_rfl
theorem nm10 : (Try.f10.name == "runtime.NumGoroutine") = false := by kernel_rfl
theorem nm11 : (Try.f11.name == "runtime.NumGoroutine") = false := by kernel_rfl
theorem nm12 : (Try.f12.name == "runtime.NumGoroutine") = false := by kernel_rfl
theorem nm13 : (Try.f13.name == "runtime.NumGoroutine") = false := by kernel_rfl
theorem nm14 : (Try.f14.name == "runtime.NumGoroutine") = false := by kernel_rfl
theorem nm15 : (Try.f15.name == "runtime.NumGoroutine") = false := by kernel_rfl
theorem nm16 : (Try.f16.name == "runtime.NumGoroutine") = false := by kernel_rfl
theorem nm17 : (Try.f17.name == "runtime.NumGoroutine") = false := by kernel_rfl
theorem nm18 : (Try.f18.name == "runtime.NumGoroutine") = false := by kernel_rfl
theorem nm19 : (Try.f19.name == "runtime.NumGoroutine") = false := by kernel_rfl
theorem nm20 : (Try.f20.name == "runtime.NumGoroutine") = false := by kernel_rfl
theorem nm21 : (Try.f21.name == "runtime.NumGoroutine") = false := by kernel_rfl
theorem nm22 : (Try.f22.name == "runtime.NumGoroutine") = false := by kernel_rfl
theorem nm23 : (Try.f23.name == "runtime.NumGoroutine") = false := by kernel_rfl
theorem nm24 : (Try.f24.name == "runtime.NumGoroutine") = false := by kernel_rfl
theorem nm25 : (Try.f25.name == "runtime.NumGoroutine") = false := by kernel_rfl
theorem nm26 : (Try.f26.name == "runtime.NumGoroutine") = false := by kernel_rfl
theorem nm27 : (Try.f27.name == "runtime.NumGoroutine") = false := by kernel_rfl
theorem nm28 : (Try.f28.name == "runtime.NumGoroutine") = false := by kernel_rfl
theorem nm29 : (Try.f29.name == "runtime.NumGoroutine") = false := by kernel_rfl
theorem nm30 : (Try.f30.name == "runtime.NumGoroutine") = false := by kernel_rfl
theorem nm31 : (Try.f31.name == "runtime.NumGoroutine") = false := by kernel_rfl
theorem nm32 : (Try.f32.name == "runtime.NumGoroutine") = false := by kernel_rfl
theorem nm33 : (Try.f33.name == "runtime.NumGoroutine") = false := by kernel_rfl
theorem nm34 : (Try.f34.name == "runtime.NumGoroutine") = false := by kernel_rfl
theorem nm35 : (Try.f35.name == "runtime.NumGoroutine") = false := by kernel_rfl
theorem nm36 : (Try.f36.name == "runtime.NumGoroutine") = false := by kernel_rfl
theorem nm37 : (Try.f37.name == "runtime.NumGoroutine") = false := by kernel_rfl
theorem nm38 : (Try.f38.name == "runtime.NumGoroutine") = false := by kernel_rfl
theorem nm39 : (Try.f39.name == "runtime.NumGoroutine") = false := by kernel_rfl
theorem nm40 : (Try.f40.name == "runtime.NumGoroutine") = false := by kernel_rfl
theorem nm41 : (Try.f41.name == "runtime.NumGoroutine") = false := by kernel_rfl
theorem nm42 : (Try.f42.name == "runtime.NumGoroutine") = false := by kernel_rfl
theorem nm43 : (Try.f43.name == "runtime.NumGoroutine") = false := by kernel_rfl
theorem nm44 : (Try.f44.name == "runtime.NumGoroutine") = false := by kernel_rfl
theorem nm45 : (Try.f45.name == "runtime.NumGoroutine") = false := by kernel_rfl
theorem nm46 : (Try.f46.name == "runtime.NumGoroutine") = false := by kernel_rfl
theorem nm47 : (Try.f47.name == "runtime.NumGoroutine") = false := by kernel_rfl
theorem nm48 : (Try.f48.name == "runtime.NumGoroutine") = false := by kernel_rfl
theorem nm49 : (Try.f49.name == "runtime.NumGoroutine") = false := by kernel_rfl
theorem nm50 : (Try.f50.name == "runtime.NumGoroutine") = false := by kernel_rfl
theorem nm51 : (Try.f51.name == "runtime.NumGoroutine") = false := by kernel_rfl
theorem nm52 : (Try.f52.name == "runtime.NumGoroutine") = false := by kernel_rfl
theorem nm53 : (Try.f53.name == "runtime.NumGoroutine") = false := by kernel_rfl
theorem nm54 : (Try.f54.name == "runtime.NumGoroutine") = false := by kernel_rfl
theorem nm55 : (Try.f55.name == "runtime.NumGoroutine") = false := by kernel_rfl
theorem nm56 : (Try.f56.name == "runtime.NumGoroutine") = false := by kernel_rfl
theorem nm57 : (Try.f57.name == "runtime.NumGoroutine") = false := by kernel_rfl
theorem nm58 : (Try.f58.name == "runtime.NumGoroutine") = false := by kernel_rfl
theorem nm59 : (Try.f59.name == "runtime.NumGoroutine") = false := by kernel_rfl
theorem nm60 : (Try.f60.name == "runtime.NumGoroutine") = false := by kernel_rfl
theorem nm61 : (Try.f61.name == "runtime.NumGoroutine") = false := by kernel_rfl
theorem nm62 : (Try.f62.name == "runtime.NumGoroutine") = false := by kernel_rfl
theorem nm63 : (Try.f63.name == "runtime.NumGoroutine") = false := by kernel_rfl
theorem nm64 : (Try.f64.name == "runtime.NumGoroutine") = false := by kernel_rfl
theorem nm65 : (Try.f65.name == "runtime.NumGoroutine") = false := by kernel_rfl
theorem nm66 : (Try.f66.name == "runtime.NumGoroutine") = false := by kernel_rfl
theorem nm67 : (Try.f67.name == "runtime.NumGoroutine") = false := by kernel_rfl
theorem nm68 : (Try.f68.name == "runtime.NumGoroutine") = false := by kernel_rfl
theorem nm69 : (Try.f69.name == "runtime.NumGoroutine") = false := by kernel_rfl
theorem nm70 : (Try.f70.name == "runtime.NumGoroutine") = false := by kernel_rfl
theorem nm71 : (Try.f71.name == "runtime.NumGoroutine") = false := by kernel_rfl
theorem nm72 : (Try.f72.name == "runtime.NumGoroutine") = false := by kernel_rfl
theorem nm73 : (Try.f73.name == "runtime.NumGoroutine") = false := by kernel_rfl
theorem nm74 : (Try.f74.name == "runtime.NumGoroutine") = false := by kernel_rfl
theorem nm75 : (Try.f75.name == "runtime.NumGoroutine") = false := by kernel_rfl
theorem nm76 : (Try.f76.name == "runtime.NumGoroutine") = false := by kernel_rfl
theorem nm77 : (Try.f77.name == "runtime.NumGoroutine") = false := by kernel_rfl
theorem nm78 : (Try.f78.name == "runtime.NumGoroutine") = false := by kernel_rfl
theorem nm79 : (Try.f79.name == "runtime.NumGoroutine") = false := by kernel_rfl
theorem nm80 : (Try.f80.name == "runtime.NumGoroutine") = false := by kernel_rfl
theorem nm81 : (Try.f81.name == "runtime.NumGoroutine") = false := by kernel_rfl
theorem nm82 : (Try.f82.name == "runtime.NumGoroutine") = false := by kernel_rfl
theorem nm83 : (Try.f83.name == "runtime.NumGoroutine") = false := by kernel_rfl
theorem nm84 : (Try.f84.name == "runtime.NumGoroutine") = false := by kernel_rfl
theorem nm85 : (Try.f85.name == "runtime.NumGoroutine") = false := by kernel_rfl
theorem nm86 : (Try.f86.name == "runtime.NumGoroutine") = false := by kernel_rfl
theorem nm87 : (Try.f87.name == "runtime.NumGoroutine") = false := by kernel_rfl
theorem nm88 : (Try.f88.name == "runtime.NumGoroutine") = false := by kernel_rfl
theorem nm89 : (Try.f89.name == "runtime.NumGoroutine") = false := by kernel_rfl
theorem nm90 : (Try.f90.name == "runtime.NumGoroutine") = false := by kernel_rfl
theorem nm91 : (Try.f91.name == "runtime.NumGoroutine") = false := by kernel_rfl
theorem nm92 : (Try.f92.name == "runtime.NumGoroutine") = false := by kernel_rfl
theorem nm93 : (Try.f93.name == "runtime.NumGoroutine") = false := by kernel_rfl
theorem nm94 : (Try.f94.name == "runtime.NumGoroutine") = false := by kernel_rfl
theorem nm95 : (Try.f95.name == "runtime.NumGoroutine") = false := by kernel_rfl
theorem nm96 : (Try.f96.name == "runtime.NumGoroutine") = false := by kernel_rfl
theorem nm97 : (Try.f97.name == "runtime.NumGoroutine") = false := by kernel_rfl
theorem nm98 : (Try.f98.name == "runtime.NumGoroutine") = false := by kernel_rfl
theorem nm99 : (Try.f99.name == "runtime.NumGoroutine") = false := by kernel_rfl
theorem nm100 : (Try.f100.name == "runtime.NumGoroutine") = false := by kernel_rfl
theorem nm101 : (Try.f101.name == "runtime.NumGoroutine") = false := by kernel_rfl
theorem nm102 : (Try.f102.name == "runtime.NumGoroutine") = false := by kernel_rfl
theorem nm103 : (Try.f103.name == "runtime.NumGoroutine") = false := by kernel_rfl
theorem nm104 : (Try.f104.name == "runtime.NumGoroutine") = false := by kernel_rfl
theorem nm105 : (Try.f105.name == "runtime.NumGoroutine") = false := by kernel_rfl
theorem nm106 : (Try.f106.name == "runtime.NumGoroutine") = false := by kernel_rfl
theorem nm107 : (Try.f107.name == "runtime.NumGoroutine") = false := by kernel_rfl
theorem nm108 : (Try.f108.name == "runtime.NumGoroutine") = false := by kernel_rfl
theorem nm109 : (Try.f109.name == "runtime.NumGoroutine") = false := by kernel_rfl
theorem nm110 : (Try.f110.name == "runtime.NumGoroutine") = false := by kernel_rfl
theorem nm111 : (Try.f111.name == "runtime.NumGoroutine") = false := by kernel_rfl
theorem nm112 : (Try.f112.name == "runtime.NumGoroutine") = false := by kernel_rfl
theorem nm113 : (Try.f113.name == "runtime.NumGoroutine") = false := by kernel_rfl
theorem nm114 : (Try.f114.name == "runtime.NumGoroutine") = false := by kernel_rfl
theorem nm115 : (Try.f115.name == "runtime.NumGoroutine") = false := by kernel_rfl
theorem nm116 : (Try.f116.name == "runtime.NumGoroutine") = false := by kernel_rfl
theorem nm117 : (Try.f117.name == "runtime.NumGoroutine") = false := by kernel_rfl
theorem nm118 : (Try.f118.name == "runtime.NumGoroutine") = false := by kernel_rfl
theorem nm119 : (Try.f119.name == "runtime.NumGoroutine") = false := by kernel_rfl
theorem nm120 : (Try.f120.name == "runtime.NumGoroutine") = false := by kernel_rfl
theorem nm121 : (Try.f121.name == "runtime.NumGoroutine") = false := by kernel_rfl
theorem nm122 : (Try.f122.name == "runtime.NumGoroutine") = false := by kernel_rfl
theorem nm123 : (Try.f123.name == "runtime.NumGoroutine") = false := by kernel_rfl
theorem nm124 : (Try.f124.name == "runtime.NumGoroutine") = false := by kernel_rfl
theorem nm125 : (Try.f125.name == "runtime.NumGoroutine") = false := by kernel_rfl
theorem nm126 : (Try.f126.name == "runtime.NumGoroutine") = false := by kernel_rfl
theorem nm127 : (Try.f127.name == "runtime.NumGoroutine") = false := by kernel_rfl
theorem nm128 : (Try.f128.name == "runtime.NumGoroutine") = false := by kernel_rfl
theorem nm129 : (Try.f129.name == "runtime.NumGoroutine") = false := by kernel_rfl
theorem nm130 : (Try.f130.name == "runtime.NumGoroutine") = false := by kernel_rfl
theorem nm131 : (Try.f131.name == "runtime.NumGoroutine") = false := by kernel_rfl
theorem nm132 : (Try.f132.name == "runtime.NumGoroutine") = false := by kernel_rfl
theorem nm133 : (Try.f133.name == "runtime.NumGoroutine") = false := by kernel_rfl
theorem nm134 : (Try.f134.name == "runtime.NumGoroutine") = false := by kernel_rfl
theorem nm135 : (Try.f135.name == "runtime.NumGoroutine") = false := by kernel_rfl
theorem nm136 : (Try.f136.name == "runtime.NumGoroutine") = false := by kernel_rfl
theorem nm137 : (Try.f137.name == "runtime.NumGoroutine") = false := by kernel_rfl
theorem nm138 : (Try.f138.name == "runtime.NumGoroutine") = false := by kernel_rfl
theorem nm139 : (Try.f139.name == "runtime.NumGoroutine") = false := by kernel_rfl
theorem nm140 : (Try.f140.name == "runtime.NumGoroutine") = false := by kernel_rfl
theorem nm141 : (Try.f141.name == "runtime.NumGoroutine") = false := by kernel_rfl
theorem nm142 : (Try.f142.name == "runtime.NumGoroutine") = false := by kernel_rfl
theorem nm143 : (Try.f143.name == "runtime.NumGoroutine") = false := by kernel_rfl
theorem nm144 : (Try.f144.name == "runtime.NumGoroutine") = false := by kernel_rfl
theorem nm145 : (Try.f145.name == "runtime.NumGoroutine") = false := by kernel_rfl
theorem nm146 : (Try.f146.name == "runtime.NumGoroutine") = false := by kernel_rfl
theorem nm147 : (Try.f147.name == "runtime.NumGoroutine") = false := by kernel_rfl
theorem nm148 : (Try.f148.name == "runtime.NumGoroutine") = false := by kernel_rfl
theorem nm149 : (Try.f149.name == "runtime.NumGoroutine") = false := by kernel_rfl
theorem nm150 : (Try.f150.name == "runtime.NumGoroutine") = false := by kernel_rfl
theorem nm151 : (Try.f151.name == "runtime.NumGoroutine") = false := by kernel_rfl
noncomputable def ft : Tr Func := (.node (.node (.node (.node (.node (.node (.node (.node .nil 0 Try.f0 .nil) 1 Try.f1 .nil) 2 Try.f2 (.node .nil 3 Try.f3 .nil)) 4 Try.f4 (.node (.node (.node .nil 5 Try.f5 .nil) 6 Try.f6 .nil) 7 Try.f7 (.node .nil 8 Try.f8 .nil))) 9 Try.f9 (.node (.node (.node (.node .nil 10 Try.f10 .nil) 11 Try.f11 .nil) 12 Try.f12 (.node .nil 13 Try.f13 .nil)) 14 Try.f14 (.node (.node (.node .nil 15 Try.f15 .nil) 16 Try.f16 .nil) 17 Try.f17 (.node .nil 18 Try.f18 .nil)))) 19 Try.f19 (.node (.node (.node (.node (.node .nil 20 Try.f20 .nil) 21 Try.f21 .nil) 22 Try.f22 (.node .nil 23 Try.f23 .nil)) 24 Try.f24 (.node (.node (.node .nil 25 Try.f25 .nil) 26 Try.f26 .nil) 27 Try.f27 (.node .nil 28 Try.f28 .nil))) 29 Try.f29 (.node (.node (.node (.node .nil 30 Try.f30 .nil) 31 Try.f31 .nil) 32 Try.f32 (.node .nil 33 Try.f33 .nil)) 34 Try.f34 (.node (.node .nil 35 Try.f35 .nil) 36 Try.f36 (.node .nil 37 Try.f37 .nil))))) 38 Try.f38 (.node (.node (.node (.node (.node (.node .nil 39 Try.f39 .nil) 40 Try.f40 .nil) 41 Try.f41 (.node .nil 42 Try.f42 .nil)) 43 Try.f43 (.node (.node (.node .nil 44 Try.f44 .nil) 45 Try.f45 .nil) 46 Try.f46 (.node .nil 47 Try.f47 .nil))) 48 Try.f48 (.node (.node (.node (.node .nil 49 Try.f49 .nil) 50 Try.f50 .nil) 51 Try.f51 (.node .nil 52 Try.f52 .nil)) 53 Try.f53 (.node (.node .nil 54 Try.f54 .nil) 55 Try.f55 (.node .nil 56 Try.f56 .nil)))) 57 Try.f57 (.node (.node (.node (.node (.node .nil 58 Try.f58 .nil) 59 Try.f59 .nil) 60 Try.f60 (.node .nil 61 Try.f61 .nil)) 62 Try.f62 (.node (.node (.node .nil 63 Try.f63 .nil) 64 Try.f64 .nil) 65 Try.f65 (.node .nil 66 Try.f66 .nil))) 67 Try.f67 (.node (.node (.node (.node .nil 68 Try.f68 .nil) 69 Try.f69 .nil) 70 Try.f70 (.node .nil 71 Try.f71 .nil)) 72 Try.f72 (.node (.node .nil 73 Try.f73 .nil) 74 Try.f74 (.node .nil 75 Try.f75 .nil)))))) 76 Try.f76 (.node (.node (.node (.node (.node (.node (.node .nil 77 Try.f77 .nil) 78 Try.f78 .nil) 79 Try.f79 (.node .nil 80 Try.f80 .nil)) 81 Try.f81 (.node (.node (.node .nil 82 Try.f82 .nil) 83 Try.f83 .nil) 84 Try.f84 (.node .nil 85 Try.f85 .nil))) 86 Try.f86 (.node (.node (.node (.node .nil 87 Try.f87 .nil) 88 Try.f88 .nil) 89 Try.f89 (.node .nil 90 Try.f90 .nil)) 91 Try.f91 (.node (.node .nil 92 Try.f92 .nil) 93 Try.f93 (.node .nil 94 Try.f94 .nil)))) 95 Try.f95 (.node (.node (.node (.node (.node .nil 96 Try.f96 .nil) 97 Try.f97 .nil) 98 Try.f98 (.node .nil 99 Try.f99 .nil)) 100 Try.f100 (.node (.node (.node .nil 101 Try.f101 .nil) 102 Try.f102 .nil) 103 Try.f103 (.node .nil 104 Try.f104 .nil))) 105 Try.f105 (.node (.node (.node (.node .nil 106 Try.f106 .nil) 107 Try.f107 .nil) 108 Try.f108 (.node .nil 109 Try.f109 .nil)) 110 Try.f110 (.node (.node .nil 111 Try.f111 .nil) 112 Try.f112 (.node .nil 113 Try.f113 .nil))))) 114 Try.f114 (.node (.node (.node (.node (.node (.node .nil 115 Try.f115 .nil) 116 Try.f116 .nil) 117 Try.f117 (.node .nil 118 Try.f118 .nil)) 119 Try.f119 (.node (.node (.node .nil 120 Try.f120 .nil) 121 Try.f121 .nil) 122 Try.f122 (.node .nil 123 Try.f123 .nil))) 124 Try.f124 (.node (.node (.node (.node .nil 125 Try.f125 .nil) 126 Try.f126 .nil) 127 Try.f127 (.node .nil 128 Try.f128 .nil)) 129 Try.f129 (.node (.node .nil 130 Try.f130 .nil) 131 Try.f131 (.node .nil 132 Try.f132 .nil)))) 133 Try.f133 (.node (.node (.node (.node (.node .nil 134 Try.f134 .nil) 135 Try.f135 .nil) 136 Try.f136 (.node .nil 137 Try.f137 .nil)) 138 Try.f138 (.node (.node (.node .nil 139 Try.f139 .nil) 140 Try.f140 .nil) 141 Try.f141 (.node .nil 142 Try.f142 .nil))) 143 Try.f143 (.node (.node (.node (.node .nil 144 Try.f144 .nil) 145 Try.f145 .nil) 146 Try.f146 (.node .nil 147 Try.f147 .nil)) 148 Try.f148 (.node (.node .nil 149 Try.f149 .nil) 150 Try.f150 (.node .nil 151 Try.f151 .nil)))))))
theorem ft_ok : FTOk Try.prog ft := (ft_node (ft_node (ft_node (ft_node (ft_node (ft_node (ft_node (ft_node ft_nil ft_nil Try.func0 nm0) ft_nil Try.func1 nm1) (ft_node ft_nil ft_nil Try.func3 nm3) Try.func2 nm2) (ft_node (ft_node (ft_node ft_nil ft_nil Try.func5 nm5) ft_nil Try.func6 nm6) (ft_node ft_nil ft_nil Try.func8 nm8) Try.func7 nm7) Try.func4 nm4) (ft_node (ft_node (ft_node (ft_node ft_nil ft_nil Try.func10 nm10) ft_nil Try.func11 nm11) (ft_node ft_nil ft_nil Try.func13 nm13) Try.func12 nm12) (ft_node (ft_node (ft_node ft_nil ft_nil Try.func15 nm15) ft_nil Try.func16 nm16) (ft_node ft_nil ft_nil Try.func18 nm18) Try.func17 nm17) Try.func14 nm14) Try.func9 nm9) (ft_node (ft_node (ft_node (ft_node (ft_node ft_nil ft_nil Try.func20 nm20) ft_nil Try.func21 nm21) (ft_node ft_nil ft_nil Try.func23 nm23) Try.func22 nm22) (ft_node (ft_node (ft_node ft_nil ft_nil Try.func25 nm25) ft_nil Try.func26 nm26) (ft_node ft_nil ft_nil Try.func28 nm28) Try.func27 nm27) Try.func24 nm24) (ft_node (ft_node (ft_node (ft_node ft_nil ft_nil Try.func30 nm30) ft_nil Try.func31 nm31) (ft_node ft_nil ft_nil Try.func33 nm33) Try.func32 nm32) (ft_node (ft_node ft_nil ft_nil Try.func35 nm35) (ft_node ft_nil ft_nil Try.func37 nm37) Try.func36 nm36) Try.func34 nm34) Try.func29 nm29) Try.func19 nm19) (ft_node (ft_node (ft_node (ft_node (ft_node (ft_node ft_nil ft_nil Try.func39 nm39) ft_nil Try.func40 nm40) (ft_node ft_nil ft_nil Try.func42 nm42) Try.func41 nm41) (ft_node (ft_node (ft_node ft_nil ft_nil Try.func44 nm44) ft_nil Try.func45 nm45) (ft_node ft_nil ft_nil Try.func47 nm47) Try.func46 nm46) Try.func43 nm43) (ft_node (ft_node (ft_node (ft_node ft_nil ft_nil Try.func49 nm49) ft_nil Try.func50 nm50) (ft_node ft_nil ft_nil Try.func52 nm52) Try.func51 nm51) (ft_node (ft_node ft_nil ft_nil Try.func54 nm54) (ft_node ft_nil ft_nil Try.func56 nm56) Try.func55 nm55) Try.func53 nm53) Try.func48 nm48) (ft_node (ft_node (ft_node (ft_node (ft_node ft_nil ft_nil Try.func58 nm58) ft_nil Try.func59 nm59) (ft_node ft_nil ft_nil Try.func61 nm61) Try.func60 nm60) (ft_node (ft_node (ft_node ft_nil ft_nil Try.func63 nm63) ft_nil Try.func64 nm64) (ft_node ft_nil ft_nil Try.func66 nm66) Try.func65 nm65) Try.func62 nm62) (ft_node (ft_node (ft_node (ft_node ft_nil ft_nil Try.func68 nm68) ft_nil Try.func69 nm69) (ft_node ft_nil ft_nil Try.func71 nm71) Try.func70 nm70) (ft_node (ft_node ft_nil ft_nil Try.func73 nm73) (ft_node ft_nil ft_nil Try.func75 nm75) Try.func74 nm74) Try.func72 nm72) Try.func67 nm67) Try.func57 nm57) Try.func38 nm38) (ft_node (ft_node (ft_node (ft_node (ft_node (ft_node (ft_node ft_nil ft_nil Try.func77 nm77) ft_nil Try.func78 nm78) (ft_node ft_nil ft_nil Try.func80 nm80) Try.func79 nm79) (ft_node (ft_node (ft_node ft_nil ft_nil Try.func82 nm82) ft_nil Try.func83 nm83) (ft_node ft_nil ft_nil Try.func85 nm85) Try.func84 nm84) Try.func81 nm81) (ft_node (ft_node (ft_node (ft_node ft_nil ft_nil Try.func87 nm87) ft_nil Try.func88 nm88) (ft_node ft_nil ft_nil Try.func90 nm90) Try.func89 nm89) (ft_node (ft_node ft_nil ft_nil Try.func92 nm92) (ft_node ft_nil ft_nil Try.func94 nm94) Try.func93 nm93) Try.func91 nm91) Try.func86 nm86) (ft_node (ft_node (ft_node (ft_node (ft_node ft_nil ft_nil Try.func96 nm96) ft_nil Try.func97 nm97) (ft_node ft_nil ft_nil Try.func99 nm99) Try.func98 nm98) (ft_node (ft_node (ft_node ft_nil ft_nil Try.func101 nm101) ft_nil Try.func102 nm102) (ft_node ft_nil ft_nil Try.func104 nm104) Try.func103 nm103) Try.func100 nm100) (ft_node (ft_node (ft_node (ft_node ft_nil ft_nil Try.func106 nm106) ft_nil Try.func107 nm107) (ft_node ft_nil ft_nil Try.func109 nm109) Try.func108 nm108) (ft_node (ft_node ft_nil ft_nil Try.func111 nm111) (ft_node ft_nil ft_nil Try.func113 nm113) Try.func112 nm112) Try.func110 nm110) Try.func105 nm105) Try.func95 nm95) (ft_node (ft_node (ft_node (ft_node (ft_node (ft_node ft_nil ft_nil Try.func115 nm115) ft_nil Try.func116 nm116) (ft_node ft_nil ft_nil Try.func118 nm118) Try.func117 nm117) (ft_node (ft_node (ft_node ft_nil ft_nil Try.func120 nm120) ft_nil Try.func121 nm121) (ft_node ft_nil ft_nil Try.func123 nm123) Try.func122 nm122) Try.func119 nm119) (ft_node (ft_node (ft_node (ft_node ft_nil ft_nil Try.func125 nm125) ft_nil Try.func126 nm126) (ft_node ft_nil ft_nil Try.func128 nm128) Try.func127 nm127) (ft_node (ft_node ft_nil ft_nil Try.func130 nm130) (ft_node ft_nil ft_nil Try.func132 nm132) Try.func131 nm131) Try.func129 nm129) Try.func124 nm124) (ft_node (ft_node (ft_node (ft_node (ft_node ft_nil ft_nil Try.func134 nm134) ft_nil Try.func135 nm135) (ft_node ft_nil ft_nil Try.func137 nm137) Try.func136 nm136) (ft_node (ft_node (ft_node ft_nil ft_nil Try.func139 nm139) ft_nil Try.func140 nm140) (ft_node ft_nil ft_nil Try.func142 nm142) Try.func141 nm141) Try.func138 nm138) (ft_node (ft_node (ft_node (ft_node ft_nil ft_nil Try.func144 nm144) ft_nil Try.func145 nm145) (ft_node ft_nil ft_nil Try.func147 nm147) Try.func146 nm146) (ft_node (ft_node ft_nil ft_nil Try.func149 nm149) (ft_node ft_nil ft_nil Try.func151 nm151) Try.func150 nm150) Try.func148 nm148) Try.func143 nm143) Try.func133 nm133) Try.func114 nm114) Try.func76 nm76)
theorem mix_ok : Try.prog.follows .mixedOrders = true := by kernel_rfl
noncomputable def envC (Δ : List Eng.CS) (wr : Bool) (cuts : List (Nat × Nat)) : Env := { T := tab, Γ := [], Δ := Δ, FT := ft, inv := fun _ _ _ => none, wr := fun _ => wr, cut := R.inL cuts }
theorem envC_ok {Δ : List Eng.CS} {wr : Bool} {cuts : List (Nat × Nat)} (h' : CSsOk Try.prog Δ) : EnvOk Try.prog (envC Δ wr cuts) := ⟨mix_ok, tab_ok, specs_nil, h', ft_ok⟩
end Go.Proofs.Ytenjkphlbdhaiaa
