/-
  Texts that the law leans on. Nothing here is trusted.
-/
import Derived.Test.YtnlglgafokjhnaaGreatEngRd
import Derived.Test.YtnlglgafokjhnaaGreatProg
set_option linter.unusedVariables false
set_option linter.unusedSimpArgs false
namespace Go.Proofs.YtnlglgafokjhnaaGreat
open Go Go.Eng
def t1 : TI := ⟨.func, 1, 8, [.nilFunc], [.func], []⟩
def t2 : TI := ⟨.int .i64, 1, 8, [.int .i64 0], [.int .i64], []⟩
def t3 : TI := ⟨.int .i64, 1, 8, [.int .i64 0], [.int .i64], []⟩
def t4 : TI := ⟨.bool, 1, 1, [.bool false], [.bool], []⟩
def t5 : TI := ⟨.int .u8, 1, 1, [.int .u8 0], [.int .u8], []⟩
def t6 : TI := ⟨.int .u8, 1, 1, [.int .u8 0], [.int .u8], []⟩
def t7 : TI := ⟨.struct [(0, 2), (1, 3), (2, 4), (3, 6)], 4, 24, [.int .i64 0, .int .i64 0, .bool false, .int .u8 0], [.int .i64, .int .i64, .bool, .int .u8], []⟩
def t8 : TI := ⟨.struct [(0, 2), (1, 3), (2, 4), (3, 6)], 4, 24, [.int .i64 0, .int .i64 0, .bool false, .int .u8 0], [.int .i64, .int .i64, .bool, .int .u8], []⟩
def t9 : TI := ⟨.str, 1, 16, [.string ⟨#[]⟩], [.str], []⟩
def t10 : TI := ⟨.str, 1, 16, [.string ⟨#[]⟩], [.str], []⟩
def t11 : TI := ⟨.str, 1, 16, [.string ⟨#[]⟩], [.str], []⟩
def t12 : TI := ⟨.int .u64, 1, 8, [.int .u64 0], [.int .u64], []⟩
def t13 : TI := ⟨.struct [(0, 9), (1, 12)], 2, 24, [.string ⟨#[]⟩, .int .u64 0], [.str, .int .u64], []⟩
def t14 : TI := ⟨.struct [(0, 9), (1, 12)], 2, 24, [.string ⟨#[]⟩, .int .u64 0], [.str, .int .u64], []⟩
def t15 : TI := ⟨.ptr 480, 1, 8, [.pointer none], [.ptr 480], []⟩
def t16 : TI := ⟨.ptr 483, 1, 8, [.pointer none], [.ptr 483], []⟩
def t17 : TI := ⟨.ptr 490, 1, 8, [.pointer none], [.ptr 490], []⟩
def t18 : TI := ⟨.struct [(0, 17)], 1, 8, [.pointer none], [.ptr 490], []⟩
def t19 : TI := ⟨.struct [(0, 17)], 1, 8, [.pointer none], [.ptr 490], []⟩
def t21 : TI := ⟨.int .i32, 1, 4, [.int .i32 0], [.int .i32], []⟩
def t22 : TI := ⟨.slice 55, 1, 24, [.slice none 0 0], [.slice 55], []⟩
def t23 : TI := ⟨.slice 9, 1, 24, [.slice none 0 0], [.slice 9], []⟩
def t24 : TI := ⟨.struct [(0, 9), (1, 22), (2, 23), (3, 3)], 4, 72, [.string ⟨#[]⟩, .slice none 0 0, .slice none 0 0, .int .i64 0], [.str, .slice 55, .slice 9, .int .i64], []⟩
def t25 : TI := ⟨.struct [(0, 9), (1, 22), (2, 23), (3, 3)], 4, 72, [.string ⟨#[]⟩, .slice none 0 0, .slice none 0 0, .int .i64 0], [.str, .slice 55, .slice 9, .int .i64], []⟩
def t26 : TI := ⟨.func, 1, 8, [.nilFunc], [.func], []⟩
def t27 : TI := ⟨.ptr 34, 1, 8, [.pointer none], [.ptr 34], []⟩
def t28 : TI := ⟨.slice 141, 1, 24, [.slice none 0 0], [.slice 141], []⟩
def t29 : TI := ⟨.int .i64, 1, 8, [.int .i64 0], [.int .i64], []⟩
def t30 : TI := ⟨.int .i64, 1, 8, [.int .i64 0], [.int .i64], []⟩
def t31 : TI := ⟨.struct [(0, 3), (1, 3), (2, 30)], 3, 24, [.int .i64 0, .int .i64 0, .int .i64 0], [.int .i64, .int .i64, .int .i64], [.int .i64, .int .i64, .int .i64]⟩
def t32 : TI := ⟨.struct [(0, 3), (1, 3), (2, 30)], 3, 24, [.int .i64 0, .int .i64 0, .int .i64 0], [.int .i64, .int .i64, .int .i64], [.int .i64, .int .i64, .int .i64]⟩
def t33 : TI := ⟨.struct [(0, 25), (4, 28), (5, 3), (6, 29), (7, 32)], 10, 136, [.string ⟨#[]⟩, .slice none 0 0, .slice none 0 0, .int .i64 0, .slice none 0 0, .int .i64 0, .int .i64 0, .int .i64 0, .int .i64 0, .int .i64 0], [.str, .slice 55, .slice 9, .int .i64, .slice 141, .int .i64, .int .i64, .int .i64, .int .i64, .int .i64], []⟩
def t34 : TI := ⟨.struct [(0, 25), (4, 28), (5, 3), (6, 29), (7, 32)], 10, 136, [.string ⟨#[]⟩, .slice none 0 0, .slice none 0 0, .int .i64 0, .slice none 0 0, .int .i64 0, .int .i64 0, .int .i64 0, .int .i64 0, .int .i64 0], [.str, .slice 55, .slice 9, .int .i64, .slice 141, .int .i64, .int .i64, .int .i64, .int .i64, .int .i64], []⟩
def t35 : TI := ⟨.slice 27, 1, 24, [.slice none 0 0], [.slice 27], []⟩
def t36 : TI := ⟨.slice 109, 1, 24, [.slice none 0 0], [.slice 109], []⟩
def t37 : TI := ⟨.struct [(0, 36), (1, 3), (2, 3), (3, 4)], 4, 48, [.slice none 0 0, .int .i64 0, .int .i64 0, .bool false], [.slice 109, .int .i64, .int .i64, .bool], []⟩
def t38 : TI := ⟨.struct [(0, 36), (1, 3), (2, 3), (3, 4)], 4, 48, [.slice none 0 0, .int .i64 0, .int .i64 0, .bool false], [.slice 109, .int .i64, .int .i64, .bool], []⟩
def t40 : TI := ⟨.func, 1, 8, [.nilFunc], [.func], []⟩
def t42 : TI := ⟨.func, 1, 8, [.nilFunc], [.func], []⟩
def t43 : TI := ⟨.slice 98, 1, 24, [.slice none 0 0], [.slice 98], []⟩
def t45 : TI := ⟨.func, 1, 8, [.nilFunc], [.func], []⟩
def t46 : TI := ⟨.func, 1, 8, [.nilFunc], [.func], []⟩
def t47 : TI := ⟨.func, 1, 8, [.nilFunc], [.func], []⟩
def t48 : TI := ⟨.func, 1, 8, [.nilFunc], [.func], []⟩
def t49 : TI := ⟨.int .i64, 1, 8, [.int .i64 0], [.int .i64], []⟩
def t50 : TI := ⟨.flt .f64, 1, 8, [.float .f64 0], [.flt .f64], []⟩
def t51 : TI := ⟨.slice 3, 1, 24, [.slice none 0 0], [.slice 3], []⟩
def t52 : TI := ⟨.struct [(0, 9), (1, 3), (2, 4), (3, 51), (4, 50)], 5, 64, [.string ⟨#[]⟩, .int .i64 0, .bool false, .slice none 0 0, .float .f64 0], [.str, .int .i64, .bool, .slice 3, .flt .f64], []⟩
def t53 : TI := ⟨.struct [(0, 9), (1, 3), (2, 4), (3, 51), (4, 50)], 5, 64, [.string ⟨#[]⟩, .int .i64 0, .bool false, .slice none 0 0, .float .f64 0], [.str, .int .i64, .bool, .slice 3, .flt .f64], []⟩
def t54 : TI := ⟨.struct [(0, 49), (1, 9), (2, 9), (3, 23), (4, 3), (5, 3), (6, 50), (7, 50), (8, 50), (9, 53), (14, 9), (15, 9)], 16, 200, [.int .i64 0, .string ⟨#[]⟩, .string ⟨#[]⟩, .slice none 0 0, .int .i64 0, .int .i64 0, .float .f64 0, .float .f64 0, .float .f64 0, .string ⟨#[]⟩, .int .i64 0, .bool false, .slice none 0 0, .float .f64 0, .string ⟨#[]⟩, .string ⟨#[]⟩], [.int .i64, .str, .str, .slice 9, .int .i64, .int .i64, .flt .f64, .flt .f64, .flt .f64, .str, .int .i64, .bool, .slice 3, .flt .f64, .str, .str], []⟩
def t55 : TI := ⟨.struct [(0, 49), (1, 9), (2, 9), (3, 23), (4, 3), (5, 3), (6, 50), (7, 50), (8, 50), (9, 53), (14, 9), (15, 9)], 16, 200, [.int .i64 0, .string ⟨#[]⟩, .string ⟨#[]⟩, .slice none 0 0, .int .i64 0, .int .i64 0, .float .f64 0, .float .f64 0, .float .f64 0, .string ⟨#[]⟩, .int .i64 0, .bool false, .slice none 0 0, .float .f64 0, .string ⟨#[]⟩, .string ⟨#[]⟩], [.int .i64, .str, .str, .slice 9, .int .i64, .int .i64, .flt .f64, .flt .f64, .flt .f64, .str, .int .i64, .bool, .slice 3, .flt .f64, .str, .str], []⟩
def t56 : TI := ⟨.func, 1, 8, [.nilFunc], [.func], []⟩
def t57 : TI := ⟨.func, 1, 8, [.nilFunc], [.func], []⟩
def t58 : TI := ⟨.ptr 118, 1, 8, [.pointer none], [.ptr 118], []⟩
def t60 : TI := ⟨.func, 1, 8, [.nilFunc], [.func], []⟩
def t62 : TI := ⟨.func, 1, 8, [.nilFunc], [.func], []⟩
def t64 : TI := ⟨.func, 1, 8, [.nilFunc], [.func], []⟩
def t65 : TI := ⟨.func, 1, 8, [.nilFunc], [.func], []⟩
def t66 : TI := ⟨.struct [(0, 4), (1, 4), (2, 4), (3, 3), (4, 3)], 5, 24, [.bool false, .bool false, .bool false, .int .i64 0, .int .i64 0], [.bool, .bool, .bool, .int .i64, .int .i64], [.bool, .bool, .bool, .int .i64, .int .i64]⟩
def t67 : TI := ⟨.struct [(0, 4), (1, 4), (2, 4), (3, 3), (4, 3)], 5, 24, [.bool false, .bool false, .bool false, .int .i64 0, .int .i64 0], [.bool, .bool, .bool, .int .i64, .int .i64], [.bool, .bool, .bool, .int .i64, .int .i64]⟩
def t68 : TI := ⟨.slice 73, 1, 24, [.slice none 0 0], [.slice 73], []⟩
def t69 : TI := ⟨.func, 1, 8, [.nilFunc], [.func], []⟩
def t70 : TI := ⟨.func, 1, 8, [.nilFunc], [.func], []⟩
def t71 : TI := ⟨.slice 79, 1, 24, [.slice none 0 0], [.slice 79], []⟩
def t72 : TI := ⟨.struct [(0, 3), (1, 4), (2, 71), (3, 3)], 4, 48, [.int .i64 0, .bool false, .slice none 0 0, .int .i64 0], [.int .i64, .bool, .slice 79, .int .i64], []⟩
def t73 : TI := ⟨.struct [(0, 3), (1, 4), (2, 71), (3, 3)], 4, 48, [.int .i64 0, .bool false, .slice none 0 0, .int .i64 0], [.int .i64, .bool, .slice 79, .int .i64], []⟩
def t74 : TI := ⟨.func, 1, 8, [.nilFunc], [.func], []⟩
def t75 : TI := ⟨.func, 1, 8, [.nilFunc], [.func], []⟩
def t77 : TI := ⟨.func, 1, 8, [.nilFunc], [.func], []⟩
def t78 : TI := ⟨.struct [(0, 9), (1, 67)], 6, 40, [.string ⟨#[]⟩, .bool false, .bool false, .bool false, .int .i64 0, .int .i64 0], [.str, .bool, .bool, .bool, .int .i64, .int .i64], [.str, .bool, .bool, .bool, .int .i64, .int .i64]⟩
def t79 : TI := ⟨.struct [(0, 9), (1, 67)], 6, 40, [.string ⟨#[]⟩, .bool false, .bool false, .bool false, .int .i64 0, .int .i64 0], [.str, .bool, .bool, .bool, .int .i64, .int .i64], [.str, .bool, .bool, .bool, .int .i64, .int .i64]⟩
def t80 : TI := ⟨.func, 1, 8, [.nilFunc], [.func], []⟩
def t81 : TI := ⟨.slice 4, 1, 24, [.slice none 0 0], [.slice 4], []⟩
def t82 : TI := ⟨.struct [(0, 49), (1, 9), (2, 9), (3, 3), (4, 4), (5, 23), (6, 3), (7, 81)], 8, 112, [.int .i64 0, .string ⟨#[]⟩, .string ⟨#[]⟩, .int .i64 0, .bool false, .slice none 0 0, .int .i64 0, .slice none 0 0], [.int .i64, .str, .str, .int .i64, .bool, .slice 9, .int .i64, .slice 4], []⟩
def t83 : TI := ⟨.struct [(0, 49), (1, 9), (2, 9), (3, 3), (4, 4), (5, 23), (6, 3), (7, 81)], 8, 112, [.int .i64 0, .string ⟨#[]⟩, .string ⟨#[]⟩, .int .i64 0, .bool false, .slice none 0 0, .int .i64 0, .slice none 0 0], [.int .i64, .str, .str, .int .i64, .bool, .slice 9, .int .i64, .slice 4], []⟩
def t85 : TI := ⟨.func, 1, 8, [.nilFunc], [.func], []⟩
def t86 : TI := ⟨.func, 1, 8, [.nilFunc], [.func], []⟩
def t87 : TI := ⟨.func, 1, 8, [.nilFunc], [.func], []⟩
def t88 : TI := ⟨.func, 1, 8, [.nilFunc], [.func], []⟩
def t90 : TI := ⟨.func, 1, 8, [.nilFunc], [.func], []⟩
def t91 : TI := ⟨.func, 1, 8, [.nilFunc], [.func], []⟩
def t92 : TI := ⟨.func, 1, 8, [.nilFunc], [.func], []⟩
def t93 : TI := ⟨.func, 1, 8, [.nilFunc], [.func], []⟩
def t94 : TI := ⟨.func, 1, 8, [.nilFunc], [.func], []⟩
def t95 : TI := ⟨.func, 1, 8, [.nilFunc], [.func], []⟩
def t96 : TI := ⟨.func, 1, 8, [.nilFunc], [.func], []⟩
def t97 : TI := ⟨.struct [(0, 3), (1, 9)], 2, 24, [.int .i64 0, .string ⟨#[]⟩], [.int .i64, .str], [.int .i64, .str]⟩
def t98 : TI := ⟨.struct [(0, 3), (1, 9)], 2, 24, [.int .i64 0, .string ⟨#[]⟩], [.int .i64, .str], [.int .i64, .str]⟩
def t99 : TI := ⟨.func, 1, 8, [.nilFunc], [.func], []⟩
def t100 : TI := ⟨.func, 1, 8, [.nilFunc], [.func], []⟩
def t102 : TI := ⟨.func, 1, 8, [.nilFunc], [.func], []⟩
def t103 : TI := ⟨.func, 1, 8, [.nilFunc], [.func], []⟩
def t104 : TI := ⟨.func, 1, 8, [.nilFunc], [.func], []⟩
def t105 : TI := ⟨.int .i64, 1, 8, [.int .i64 0], [.int .i64], []⟩
def t106 : TI := ⟨.struct [(0, 105), (1, 9), (2, 3), (3, 4), (4, 4), (5, 4)], 6, 40, [.int .i64 0, .string ⟨#[]⟩, .int .i64 0, .bool false, .bool false, .bool false], [.int .i64, .str, .int .i64, .bool, .bool, .bool], [.int .i64, .str, .int .i64, .bool, .bool, .bool]⟩
def t107 : TI := ⟨.struct [(0, 105), (1, 9), (2, 3), (3, 4), (4, 4), (5, 4)], 6, 40, [.int .i64 0, .string ⟨#[]⟩, .int .i64 0, .bool false, .bool false, .bool false], [.int .i64, .str, .int .i64, .bool, .bool, .bool], [.int .i64, .str, .int .i64, .bool, .bool, .bool]⟩
def t108 : TI := ⟨.func, 1, 8, [.nilFunc], [.func], []⟩
def t109 : TI := ⟨.slice 158, 1, 24, [.slice none 0 0], [.slice 158], []⟩
def t110 : TI := ⟨.func, 1, 8, [.nilFunc], [.func], []⟩
def t111 : TI := ⟨.func, 1, 8, [.nilFunc], [.func], []⟩
def t112 : TI := ⟨.ptr 163, 1, 8, [.pointer none], [.ptr 163], []⟩
def t114 : TI := ⟨.func, 1, 8, [.nilFunc], [.func], []⟩
def t115 : TI := ⟨.struct [(0, 112), (1, 3), (2, 3), (3, 4)], 4, 32, [.pointer none, .int .i64 0, .int .i64 0, .bool false], [.ptr 163, .int .i64, .int .i64, .bool], []⟩
def t116 : TI := ⟨.struct [(0, 112), (1, 3), (2, 3), (3, 4)], 4, 32, [.pointer none, .int .i64 0, .int .i64 0, .bool false], [.ptr 163, .int .i64, .int .i64, .bool], []⟩
def t117 : TI := ⟨.struct [(0, 116)], 4, 32, [.pointer none, .int .i64 0, .int .i64 0, .bool false], [.ptr 163, .int .i64, .int .i64, .bool], []⟩
def t118 : TI := ⟨.struct [(0, 116)], 4, 32, [.pointer none, .int .i64 0, .int .i64 0, .bool false], [.ptr 163, .int .i64, .int .i64, .bool], []⟩
def t119 : TI := ⟨.struct [(0, 3), (1, 3), (2, 3), (3, 3)], 4, 32, [.int .i64 0, .int .i64 0, .int .i64 0, .int .i64 0], [.int .i64, .int .i64, .int .i64, .int .i64], [.int .i64, .int .i64, .int .i64, .int .i64]⟩
def t120 : TI := ⟨.struct [(0, 3), (1, 3), (2, 3), (3, 3)], 4, 32, [.int .i64 0, .int .i64 0, .int .i64 0, .int .i64 0], [.int .i64, .int .i64, .int .i64, .int .i64], [.int .i64, .int .i64, .int .i64, .int .i64]⟩
def t121 : TI := ⟨.slice 120, 1, 24, [.slice none 0 0], [.slice 120], []⟩
def t123 : TI := ⟨.func, 1, 8, [.nilFunc], [.func], []⟩
def t124 : TI := ⟨.func, 1, 8, [.nilFunc], [.func], []⟩
def t125 : TI := ⟨.func, 1, 8, [.nilFunc], [.func], []⟩
def t126 : TI := ⟨.func, 1, 8, [.nilFunc], [.func], []⟩
def t127 : TI := ⟨.func, 1, 8, [.nilFunc], [.func], []⟩
def t128 : TI := ⟨.func, 1, 8, [.nilFunc], [.func], []⟩
def t129 : TI := ⟨.func, 1, 8, [.nilFunc], [.func], []⟩
def t131 : TI := ⟨.func, 1, 8, [.nilFunc], [.func], []⟩
def t132 : TI := ⟨.func, 1, 8, [.nilFunc], [.func], []⟩
def t133 : TI := ⟨.func, 1, 8, [.nilFunc], [.func], []⟩
def t134 : TI := ⟨.func, 1, 8, [.nilFunc], [.func], []⟩
def t135 : TI := ⟨.func, 1, 8, [.nilFunc], [.func], []⟩
def t136 : TI := ⟨.func, 1, 8, [.nilFunc], [.func], []⟩
def t137 : TI := ⟨.func, 1, 8, [.nilFunc], [.func], []⟩
def t138 : TI := ⟨.ptr 188, 1, 8, [.pointer none], [.ptr 188], []⟩
def t139 : TI := ⟨.ptr 191, 1, 8, [.pointer none], [.ptr 191], []⟩
def t140 : TI := ⟨.struct [(0, 138), (1, 139)], 2, 16, [.pointer none, .pointer none], [.ptr 188, .ptr 191], []⟩
def t141 : TI := ⟨.struct [(0, 138), (1, 139)], 2, 16, [.pointer none, .pointer none], [.ptr 188, .ptr 191], []⟩
def t142 : TI := ⟨.func, 1, 8, [.nilFunc], [.func], []⟩
def t143 : TI := ⟨.func, 1, 8, [.nilFunc], [.func], []⟩
def t144 : TI := ⟨.func, 1, 8, [.nilFunc], [.func], []⟩
def t145 : TI := ⟨.func, 1, 8, [.nilFunc], [.func], []⟩
def t146 : TI := ⟨.func, 1, 8, [.nilFunc], [.func], []⟩
def t147 : TI := ⟨.func, 1, 8, [.nilFunc], [.func], []⟩
def t148 : TI := ⟨.arr 24 5, 24, 24, [.int .u8 0, .int .u8 0, .int .u8 0, .int .u8 0, .int .u8 0, .int .u8 0, .int .u8 0, .int .u8 0, .int .u8 0, .int .u8 0, .int .u8 0, .int .u8 0, .int .u8 0, .int .u8 0, .int .u8 0, .int .u8 0, .int .u8 0, .int .u8 0, .int .u8 0, .int .u8 0, .int .u8 0, .int .u8 0, .int .u8 0, .int .u8 0], [.int .u8, .int .u8, .int .u8, .int .u8, .int .u8, .int .u8, .int .u8, .int .u8, .int .u8, .int .u8, .int .u8, .int .u8, .int .u8, .int .u8, .int .u8, .int .u8, .int .u8, .int .u8, .int .u8, .int .u8, .int .u8, .int .u8, .int .u8, .int .u8], []⟩
def t149 : TI := ⟨.int .u64, 1, 8, [.int .u64 0], [.int .u64], []⟩
def t150 : TI := ⟨.slice 5, 1, 24, [.slice none 0 0], [.slice 5], []⟩
def t151 : TI := ⟨.func, 1, 8, [.nilFunc], [.func], []⟩
def t152 : TI := ⟨.func, 1, 8, [.nilFunc], [.func], []⟩
def t153 : TI := ⟨.func, 1, 8, [.nilFunc], [.func], []⟩
def t154 : TI := ⟨.func, 1, 8, [.nilFunc], [.func], []⟩
def t155 : TI := ⟨.func, 1, 8, [.nilFunc], [.func], []⟩
def t156 : TI := ⟨.func, 1, 8, [.nilFunc], [.func], []⟩
def t157 : TI := ⟨.struct [(0, 9), (1, 3), (2, 67)], 7, 48, [.string ⟨#[]⟩, .int .i64 0, .bool false, .bool false, .bool false, .int .i64 0, .int .i64 0], [.str, .int .i64, .bool, .bool, .bool, .int .i64, .int .i64], [.str, .int .i64, .bool, .bool, .bool, .int .i64, .int .i64]⟩
def t158 : TI := ⟨.struct [(0, 9), (1, 3), (2, 67)], 7, 48, [.string ⟨#[]⟩, .int .i64 0, .bool false, .bool false, .bool false, .int .i64 0, .int .i64 0], [.str, .int .i64, .bool, .bool, .bool, .int .i64, .int .i64], [.str, .int .i64, .bool, .bool, .bool, .int .i64, .int .i64]⟩
def t159 : TI := ⟨.func, 1, 8, [.nilFunc], [.func], []⟩
def t160 : TI := ⟨.func, 1, 8, [.nilFunc], [.func], []⟩
def t161 : TI := ⟨.func, 1, 8, [.nilFunc], [.func], []⟩
def t162 : TI := ⟨.struct [(0, 3), (1, 3), (2, 109)], 3, 40, [.int .i64 0, .int .i64 0, .slice none 0 0], [.int .i64, .int .i64, .slice 158], []⟩
def t163 : TI := ⟨.struct [(0, 3), (1, 3), (2, 109)], 3, 40, [.int .i64 0, .int .i64 0, .slice none 0 0], [.int .i64, .int .i64, .slice 158], []⟩
def t164 : TI := ⟨.func, 1, 8, [.nilFunc], [.func], []⟩
def t166 : TI := ⟨.func, 1, 8, [.nilFunc], [.func], []⟩
def t167 : TI := ⟨.func, 1, 8, [.nilFunc], [.func], []⟩
def t168 : TI := ⟨.func, 1, 8, [.nilFunc], [.func], []⟩
def t169 : TI := ⟨.func, 1, 8, [.nilFunc], [.func], []⟩
def t170 : TI := ⟨.ptr 172, 1, 8, [.pointer none], [.ptr 172], []⟩
def t171 : TI := ⟨.struct [(0, 170), (1, 150)], 2, 32, [.pointer none, .slice none 0 0], [.ptr 172, .slice 5], []⟩
def t172 : TI := ⟨.struct [(0, 170), (1, 150)], 2, 32, [.pointer none, .slice none 0 0], [.ptr 172, .slice 5], []⟩
def t176 : TI := ⟨.func, 1, 8, [.nilFunc], [.func], []⟩
def t177 : TI := ⟨.func, 1, 8, [.nilFunc], [.func], []⟩
def t178 : TI := ⟨.func, 1, 8, [.nilFunc], [.func], []⟩
def t179 : TI := ⟨.func, 1, 8, [.nilFunc], [.func], []⟩
def t180 : TI := ⟨.func, 1, 8, [.nilFunc], [.func], []⟩
def t181 : TI := ⟨.func, 1, 8, [.nilFunc], [.func], []⟩
def t182 : TI := ⟨.func, 1, 8, [.nilFunc], [.func], []⟩
def t183 : TI := ⟨.func, 1, 8, [.nilFunc], [.func], []⟩
def t184 : TI := ⟨.func, 1, 8, [.nilFunc], [.func], []⟩
def t185 : TI := ⟨.ptr 262, 1, 8, [.pointer none], [.ptr 262], []⟩
def t186 : TI := ⟨.ptr 328, 1, 8, [.pointer none], [.ptr 328], []⟩
def t187 : TI := ⟨.struct [(0, 185), (1, 55), (17, 186), (18, 9), (19, 3), (20, 3)], 21, 248, [.pointer none, .int .i64 0, .string ⟨#[]⟩, .string ⟨#[]⟩, .slice none 0 0, .int .i64 0, .int .i64 0, .float .f64 0, .float .f64 0, .float .f64 0, .string ⟨#[]⟩, .int .i64 0, .bool false, .slice none 0 0, .float .f64 0, .string ⟨#[]⟩, .string ⟨#[]⟩, .pointer none, .string ⟨#[]⟩, .int .i64 0, .int .i64 0], [.ptr 262, .int .i64, .str, .str, .slice 9, .int .i64, .int .i64, .flt .f64, .flt .f64, .flt .f64, .str, .int .i64, .bool, .slice 3, .flt .f64, .str, .str, .ptr 328, .str, .int .i64, .int .i64], []⟩
def t188 : TI := ⟨.struct [(0, 185), (1, 55), (17, 186), (18, 9), (19, 3), (20, 3)], 21, 248, [.pointer none, .int .i64 0, .string ⟨#[]⟩, .string ⟨#[]⟩, .slice none 0 0, .int .i64 0, .int .i64 0, .float .f64 0, .float .f64 0, .float .f64 0, .string ⟨#[]⟩, .int .i64 0, .bool false, .slice none 0 0, .float .f64 0, .string ⟨#[]⟩, .string ⟨#[]⟩, .pointer none, .string ⟨#[]⟩, .int .i64 0, .int .i64 0], [.ptr 262, .int .i64, .str, .str, .slice 9, .int .i64, .int .i64, .flt .f64, .flt .f64, .flt .f64, .str, .int .i64, .bool, .slice 3, .flt .f64, .str, .str, .ptr 328, .str, .int .i64, .int .i64], []⟩
def t189 : TI := ⟨.func, 1, 8, [.nilFunc], [.func], []⟩
def t190 : TI := ⟨.struct [(0, 185), (1, 55), (17, 186), (18, 4), (19, 3), (20, 81), (21, 51), (22, 3)], 23, 288, [.pointer none, .int .i64 0, .string ⟨#[]⟩, .string ⟨#[]⟩, .slice none 0 0, .int .i64 0, .int .i64 0, .float .f64 0, .float .f64 0, .float .f64 0, .string ⟨#[]⟩, .int .i64 0, .bool false, .slice none 0 0, .float .f64 0, .string ⟨#[]⟩, .string ⟨#[]⟩, .pointer none, .bool false, .int .i64 0, .slice none 0 0, .slice none 0 0, .int .i64 0], [.ptr 262, .int .i64, .str, .str, .slice 9, .int .i64, .int .i64, .flt .f64, .flt .f64, .flt .f64, .str, .int .i64, .bool, .slice 3, .flt .f64, .str, .str, .ptr 328, .bool, .int .i64, .slice 4, .slice 3, .int .i64], []⟩
def t191 : TI := ⟨.struct [(0, 185), (1, 55), (17, 186), (18, 4), (19, 3), (20, 81), (21, 51), (22, 3)], 23, 288, [.pointer none, .int .i64 0, .string ⟨#[]⟩, .string ⟨#[]⟩, .slice none 0 0, .int .i64 0, .int .i64 0, .float .f64 0, .float .f64 0, .float .f64 0, .string ⟨#[]⟩, .int .i64 0, .bool false, .slice none 0 0, .float .f64 0, .string ⟨#[]⟩, .string ⟨#[]⟩, .pointer none, .bool false, .int .i64 0, .slice none 0 0, .slice none 0 0, .int .i64 0], [.ptr 262, .int .i64, .str, .str, .slice 9, .int .i64, .int .i64, .flt .f64, .flt .f64, .flt .f64, .str, .int .i64, .bool, .slice 3, .flt .f64, .str, .str, .ptr 328, .bool, .int .i64, .slice 4, .slice 3, .int .i64], []⟩
def t192 : TI := ⟨.func, 1, 8, [.nilFunc], [.func], []⟩
def t193 : TI := ⟨.func, 1, 8, [.nilFunc], [.func], []⟩
def t194 : TI := ⟨.func, 1, 8, [.nilFunc], [.func], []⟩
def t195 : TI := ⟨.func, 1, 8, [.nilFunc], [.func], []⟩
def t196 : TI := ⟨.struct [(0, 3), (1, 4), (2, 4)], 3, 16, [.int .i64 0, .bool false, .bool false], [.int .i64, .bool, .bool], [.int .i64, .bool, .bool]⟩
def t197 : TI := ⟨.struct [(0, 3), (1, 4), (2, 4)], 3, 16, [.int .i64 0, .bool false, .bool false], [.int .i64, .bool, .bool], [.int .i64, .bool, .bool]⟩
def t198 : TI := ⟨.func, 1, 8, [.nilFunc], [.func], []⟩
def t199 : TI := ⟨.slice 212, 1, 24, [.slice none 0 0], [.slice 212], []⟩
def t201 : TI := ⟨.func, 1, 8, [.nilFunc], [.func], []⟩
def t202 : TI := ⟨.func, 1, 8, [.nilFunc], [.func], []⟩
def t203 : TI := ⟨.func, 1, 8, [.nilFunc], [.func], []⟩
def t204 : TI := ⟨.func, 1, 8, [.nilFunc], [.func], []⟩
def t205 : TI := ⟨.func, 1, 8, [.nilFunc], [.func], []⟩
def t206 : TI := ⟨.func, 1, 8, [.nilFunc], [.func], []⟩
def t207 : TI := ⟨.func, 1, 8, [.nilFunc], [.func], []⟩
def t208 : TI := ⟨.int .i64, 1, 8, [.int .i64 0], [.int .i64], []⟩
def t209 : TI := ⟨.struct [(0, 208), (1, 50), (2, 9), (3, 4)], 4, 40, [.int .i64 0, .float .f64 0, .string ⟨#[]⟩, .bool false], [.int .i64, .flt .f64, .str, .bool], []⟩
def t210 : TI := ⟨.struct [(0, 208), (1, 50), (2, 9), (3, 4)], 4, 40, [.int .i64 0, .float .f64 0, .string ⟨#[]⟩, .bool false], [.int .i64, .flt .f64, .str, .bool], []⟩
def t211 : TI := ⟨.struct [(0, 9), (1, 210)], 5, 56, [.string ⟨#[]⟩, .int .i64 0, .float .f64 0, .string ⟨#[]⟩, .bool false], [.str, .int .i64, .flt .f64, .str, .bool], []⟩
def t212 : TI := ⟨.struct [(0, 9), (1, 210)], 5, 56, [.string ⟨#[]⟩, .int .i64 0, .float .f64 0, .string ⟨#[]⟩, .bool false], [.str, .int .i64, .flt .f64, .str, .bool], []⟩
def t213 : TI := ⟨.func, 1, 8, [.nilFunc], [.func], []⟩
def t214 : TI := ⟨.func, 1, 8, [.nilFunc], [.func], []⟩
def t215 : TI := ⟨.func, 1, 8, [.nilFunc], [.func], []⟩
def t216 : TI := ⟨.func, 1, 8, [.nilFunc], [.func], []⟩
def t217 : TI := ⟨.func, 1, 8, [.nilFunc], [.func], []⟩
def t218 : TI := ⟨.func, 1, 8, [.nilFunc], [.func], []⟩
def t220 : TI := ⟨.func, 1, 8, [.nilFunc], [.func], []⟩
def t222 : TI := ⟨.func, 1, 8, [.nilFunc], [.func], []⟩
def t223 : TI := ⟨.func, 1, 8, [.nilFunc], [.func], []⟩
def t224 : TI := ⟨.func, 1, 8, [.nilFunc], [.func], []⟩
def t225 : TI := ⟨.func, 1, 8, [.nilFunc], [.func], []⟩
def t226 : TI := ⟨.func, 1, 8, [.nilFunc], [.func], []⟩
def t227 : TI := ⟨.func, 1, 8, [.nilFunc], [.func], []⟩
def t228 : TI := ⟨.func, 1, 8, [.nilFunc], [.func], []⟩
def t229 : TI := ⟨.func, 1, 8, [.nilFunc], [.func], []⟩
def t230 : TI := ⟨.func, 1, 8, [.nilFunc], [.func], []⟩
def t231 : TI := ⟨.func, 1, 8, [.nilFunc], [.func], []⟩
def t232 : TI := ⟨.struct [(0, 23), (1, 150), (2, 4)], 3, 56, [.slice none 0 0, .slice none 0 0, .bool false], [.slice 9, .slice 5, .bool], []⟩
def t233 : TI := ⟨.struct [(0, 23), (1, 150), (2, 4)], 3, 56, [.slice none 0 0, .slice none 0 0, .bool false], [.slice 9, .slice 5, .bool], []⟩
def t234 : TI := ⟨.func, 1, 8, [.nilFunc], [.func], []⟩
def t235 : TI := ⟨.func, 1, 8, [.nilFunc], [.func], []⟩
def t236 : TI := ⟨.func, 1, 8, [.nilFunc], [.func], []⟩
def t237 : TI := ⟨.func, 1, 8, [.nilFunc], [.func], []⟩
def t238 : TI := ⟨.func, 1, 8, [.nilFunc], [.func], []⟩
def t239 : TI := ⟨.func, 1, 8, [.nilFunc], [.func], []⟩
def t240 : TI := ⟨.func, 1, 8, [.nilFunc], [.func], []⟩
def t241 : TI := ⟨.ptr 5, 1, 8, [.pointer none], [.ptr 5], []⟩
def t242 : TI := ⟨.func, 1, 8, [.nilFunc], [.func], []⟩
def t243 : TI := ⟨.func, 1, 8, [.nilFunc], [.func], []⟩
def t244 : TI := ⟨.func, 1, 8, [.nilFunc], [.func], []⟩
def t245 : TI := ⟨.func, 1, 8, [.nilFunc], [.func], []⟩
def t246 : TI := ⟨.func, 1, 8, [.nilFunc], [.func], []⟩
def t247 : TI := ⟨.struct [(0, 3), (1, 3), (2, 51)], 3, 40, [.int .i64 0, .int .i64 0, .slice none 0 0], [.int .i64, .int .i64, .slice 3], []⟩
def t248 : TI := ⟨.struct [(0, 3), (1, 3), (2, 51)], 3, 40, [.int .i64 0, .int .i64 0, .slice none 0 0], [.int .i64, .int .i64, .slice 3], []⟩
def t250 : TI := ⟨.func, 1, 8, [.nilFunc], [.func], []⟩
def t251 : TI := ⟨.slice 23, 1, 24, [.slice none 0 0], [.slice 23], []⟩
def t252 : TI := ⟨.func, 1, 8, [.nilFunc], [.func], []⟩
def t253 : TI := ⟨.func, 1, 8, [.nilFunc], [.func], []⟩
def t254 : TI := ⟨.int .u64, 1, 8, [.int .u64 0], [.int .u64], []⟩
def t256 : TI := ⟨.func, 1, 8, [.nilFunc], [.func], []⟩
def t257 : TI := ⟨.func, 1, 8, [.nilFunc], [.func], []⟩
def t258 : TI := ⟨.func, 1, 8, [.nilFunc], [.func], []⟩
def t259 : TI := ⟨.ptr 316, 1, 8, [.pointer none], [.ptr 316], []⟩
def t260 : TI := ⟨.slice 343, 1, 24, [.slice none 0 0], [.slice 343], []⟩
def t261 : TI := ⟨.struct [(0, 259), (1, 251), (2, 260), (3, 4), (4, 4), (5, 3), (6, 3)], 7, 80, [.pointer none, .slice none 0 0, .slice none 0 0, .bool false, .bool false, .int .i64 0, .int .i64 0], [.ptr 316, .slice 23, .slice 343, .bool, .bool, .int .i64, .int .i64], []⟩
def t262 : TI := ⟨.struct [(0, 259), (1, 251), (2, 260), (3, 4), (4, 4), (5, 3), (6, 3)], 7, 80, [.pointer none, .slice none 0 0, .slice none 0 0, .bool false, .bool false, .int .i64 0, .int .i64 0], [.ptr 316, .slice 23, .slice 343, .bool, .bool, .int .i64, .int .i64], []⟩
def t263 : TI := ⟨.func, 1, 8, [.nilFunc], [.func], []⟩
def t264 : TI := ⟨.slice 197, 1, 24, [.slice none 0 0], [.slice 197], []⟩
def t265 : TI := ⟨.func, 1, 8, [.nilFunc], [.func], []⟩
def t266 : TI := ⟨.func, 1, 8, [.nilFunc], [.func], []⟩
def t268 : TI := ⟨.func, 1, 8, [.nilFunc], [.func], []⟩
def t269 : TI := ⟨.func, 1, 8, [.nilFunc], [.func], []⟩
def t270 : TI := ⟨.func, 1, 8, [.nilFunc], [.func], []⟩
def t271 : TI := ⟨.func, 1, 8, [.nilFunc], [.func], []⟩
def t272 : TI := ⟨.func, 1, 8, [.nilFunc], [.func], []⟩
def t273 : TI := ⟨.func, 1, 8, [.nilFunc], [.func], []⟩
def t274 : TI := ⟨.slice 276, 1, 24, [.slice none 0 0], [.slice 276], []⟩
def t275 : TI := ⟨.struct [(0, 9), (1, 50), (2, 9), (3, 274)], 4, 64, [.string ⟨#[]⟩, .float .f64 0, .string ⟨#[]⟩, .slice none 0 0], [.str, .flt .f64, .str, .slice 276], []⟩
def t276 : TI := ⟨.struct [(0, 9), (1, 50), (2, 9), (3, 274)], 4, 64, [.string ⟨#[]⟩, .float .f64 0, .string ⟨#[]⟩, .slice none 0 0], [.str, .flt .f64, .str, .slice 276], []⟩
def t278 : TI := ⟨.func, 1, 8, [.nilFunc], [.func], []⟩
def t280 : TI := ⟨.func, 1, 8, [.nilFunc], [.func], []⟩
def t281 : TI := ⟨.func, 1, 8, [.nilFunc], [.func], []⟩
def t282 : TI := ⟨.func, 1, 8, [.nilFunc], [.func], []⟩
def t283 : TI := ⟨.func, 1, 8, [.nilFunc], [.func], []⟩
def t284 : TI := ⟨.func, 1, 8, [.nilFunc], [.func], []⟩
def t285 : TI := ⟨.int .i64, 1, 8, [.int .i64 0], [.int .i64], []⟩
def t287 : TI := ⟨.func, 1, 8, [.nilFunc], [.func], []⟩
def t288 : TI := ⟨.func, 1, 8, [.nilFunc], [.func], []⟩
def t289 : TI := ⟨.func, 1, 8, [.nilFunc], [.func], []⟩
def t290 : TI := ⟨.func, 1, 8, [.nilFunc], [.func], []⟩
def t291 : TI := ⟨.func, 1, 8, [.nilFunc], [.func], []⟩
def t292 : TI := ⟨.func, 1, 8, [.nilFunc], [.func], []⟩
def t293 : TI := ⟨.func, 1, 8, [.nilFunc], [.func], []⟩
def t294 : TI := ⟨.func, 1, 8, [.nilFunc], [.func], []⟩
def t295 : TI := ⟨.ptr 233, 1, 8, [.pointer none], [.ptr 233], []⟩
def t296 : TI := ⟨.func, 1, 8, [.nilFunc], [.func], []⟩
def t297 : TI := ⟨.func, 1, 8, [.nilFunc], [.func], []⟩
def t298 : TI := ⟨.func, 1, 8, [.nilFunc], [.func], []⟩
def t299 : TI := ⟨.func, 1, 8, [.nilFunc], [.func], []⟩
def t300 : TI := ⟨.func, 1, 8, [.nilFunc], [.func], []⟩
def t302 : TI := ⟨.func, 1, 8, [.nilFunc], [.func], []⟩
def t303 : TI := ⟨.func, 1, 8, [.nilFunc], [.func], []⟩
def t304 : TI := ⟨.func, 1, 8, [.nilFunc], [.func], []⟩
def t305 : TI := ⟨.func, 1, 8, [.nilFunc], [.func], []⟩
def t306 : TI := ⟨.int .u32, 1, 4, [.int .u32 0], [.int .u32], []⟩
def t308 : TI := ⟨.func, 1, 8, [.nilFunc], [.func], []⟩
def t310 : TI := ⟨.func, 1, 8, [.nilFunc], [.func], []⟩
def t312 : TI := ⟨.func, 1, 8, [.nilFunc], [.func], []⟩
def t313 : TI := ⟨.func, 1, 8, [.nilFunc], [.func], []⟩
def t314 : TI := ⟨.func, 1, 8, [.nilFunc], [.func], []⟩
def t315 : TI := ⟨.struct [(0, 3), (1, 23), (2, 3), (3, 3)], 4, 48, [.int .i64 0, .slice none 0 0, .int .i64 0, .int .i64 0], [.int .i64, .slice 9, .int .i64, .int .i64], []⟩
def t316 : TI := ⟨.struct [(0, 3), (1, 23), (2, 3), (3, 3)], 4, 48, [.int .i64 0, .slice none 0 0, .int .i64 0, .int .i64 0], [.int .i64, .slice 9, .int .i64, .int .i64], []⟩
def t318 : TI := ⟨.func, 1, 8, [.nilFunc], [.func], []⟩
def t319 : TI := ⟨.func, 1, 8, [.nilFunc], [.func], []⟩
def t320 : TI := ⟨.func, 1, 8, [.nilFunc], [.func], []⟩
def t322 : TI := ⟨.func, 1, 8, [.nilFunc], [.func], []⟩
def t323 : TI := ⟨.func, 1, 8, [.nilFunc], [.func], []⟩
def t324 : TI := ⟨.func, 1, 8, [.nilFunc], [.func], []⟩
def t325 : TI := ⟨.func, 1, 8, [.nilFunc], [.func], []⟩
def t326 : TI := ⟨.map 9 285, 1, 8, [.map none], [.map 9 285], []⟩
def t327 : TI := ⟨.struct [(0, 326)], 1, 8, [.map none], [.map 9 285], []⟩
def t328 : TI := ⟨.struct [(0, 326)], 1, 8, [.map none], [.map 9 285], []⟩
def t329 : TI := ⟨.func, 1, 8, [.nilFunc], [.func], []⟩
def t330 : TI := ⟨.func, 1, 8, [.nilFunc], [.func], []⟩
def t332 : TI := ⟨.func, 1, 8, [.nilFunc], [.func], []⟩
def t333 : TI := ⟨.func, 1, 8, [.nilFunc], [.func], []⟩
def t334 : TI := ⟨.func, 1, 8, [.nilFunc], [.func], []⟩
def t335 : TI := ⟨.func, 1, 8, [.nilFunc], [.func], []⟩
def t336 : TI := ⟨.func, 1, 8, [.nilFunc], [.func], []⟩
def t337 : TI := ⟨.func, 1, 8, [.nilFunc], [.func], []⟩
def t338 : TI := ⟨.func, 1, 8, [.nilFunc], [.func], []⟩
def t339 : TI := ⟨.func, 1, 8, [.nilFunc], [.func], []⟩
def t340 : TI := ⟨.func, 1, 8, [.nilFunc], [.func], []⟩
def t341 : TI := ⟨.func, 1, 8, [.nilFunc], [.func], []⟩
def t342 : TI := ⟨.struct [(0, 23), (1, 3)], 2, 32, [.slice none 0 0, .int .i64 0], [.slice 9, .int .i64], []⟩
def t343 : TI := ⟨.struct [(0, 23), (1, 3)], 2, 32, [.slice none 0 0, .int .i64 0], [.slice 9, .int .i64], []⟩
def t344 : TI := ⟨.func, 1, 8, [.nilFunc], [.func], []⟩
def t345 : TI := ⟨.func, 1, 8, [.nilFunc], [.func], []⟩
def t347 : TI := ⟨.func, 1, 8, [.nilFunc], [.func], []⟩
def t348 : TI := ⟨.func, 1, 8, [.nilFunc], [.func], []⟩
def t349 : TI := ⟨.func, 1, 8, [.nilFunc], [.func], []⟩
def t350 : TI := ⟨.slice 21, 1, 24, [.slice none 0 0], [.slice 21], []⟩
def t351 : TI := ⟨.func, 1, 8, [.nilFunc], [.func], []⟩
def t352 : TI := ⟨.func, 1, 8, [.nilFunc], [.func], []⟩
def t353 : TI := ⟨.func, 1, 8, [.nilFunc], [.func], []⟩
def t354 : TI := ⟨.func, 1, 8, [.nilFunc], [.func], []⟩
def t355 : TI := ⟨.int .i64, 1, 8, [.int .i64 0], [.int .i64], []⟩
def t357 : TI := ⟨.func, 1, 8, [.nilFunc], [.func], []⟩
def t358 : TI := ⟨.func, 1, 8, [.nilFunc], [.func], []⟩
def t359 : TI := ⟨.func, 1, 8, [.nilFunc], [.func], []⟩
def t360 : TI := ⟨.func, 1, 8, [.nilFunc], [.func], []⟩
def t361 : TI := ⟨.func, 1, 8, [.nilFunc], [.func], []⟩
def t362 : TI := ⟨.func, 1, 8, [.nilFunc], [.func], []⟩
def t363 : TI := ⟨.func, 1, 8, [.nilFunc], [.func], []⟩
def t364 : TI := ⟨.arr 12 3, 12, 96, [.int .i64 0, .int .i64 0, .int .i64 0, .int .i64 0, .int .i64 0, .int .i64 0, .int .i64 0, .int .i64 0, .int .i64 0, .int .i64 0, .int .i64 0, .int .i64 0], [.int .i64, .int .i64, .int .i64, .int .i64, .int .i64, .int .i64, .int .i64, .int .i64, .int .i64, .int .i64, .int .i64, .int .i64], []⟩
def t366 : TI := ⟨.func, 1, 8, [.nilFunc], [.func], []⟩
def t367 : TI := ⟨.func, 1, 8, [.nilFunc], [.func], []⟩
def t368 : TI := ⟨.func, 1, 8, [.nilFunc], [.func], []⟩
def t369 : TI := ⟨.func, 1, 8, [.nilFunc], [.func], []⟩
def t370 : TI := ⟨.ptr 372, 1, 8, [.pointer none], [.ptr 372], []⟩
def t371 : TI := ⟨.struct [(0, 9), (1, 3), (2, 3), (3, 9)], 4, 48, [.string ⟨#[]⟩, .int .i64 0, .int .i64 0, .string ⟨#[]⟩], [.str, .int .i64, .int .i64, .str], [.str, .int .i64, .int .i64, .str]⟩
def t372 : TI := ⟨.struct [(0, 9), (1, 3), (2, 3), (3, 9)], 4, 48, [.string ⟨#[]⟩, .int .i64 0, .int .i64 0, .string ⟨#[]⟩], [.str, .int .i64, .int .i64, .str], [.str, .int .i64, .int .i64, .str]⟩
def t373 : TI := ⟨.func, 1, 8, [.nilFunc], [.func], []⟩
def t376 : TI := ⟨.slice 208, 1, 24, [.slice none 0 0], [.slice 208], []⟩
def t377 : TI := ⟨.func, 1, 8, [.nilFunc], [.func], []⟩
def t379 : TI := ⟨.func, 1, 8, [.nilFunc], [.func], []⟩
def t380 : TI := ⟨.func, 1, 8, [.nilFunc], [.func], []⟩
def t381 : TI := ⟨.func, 1, 8, [.nilFunc], [.func], []⟩
def t382 : TI := ⟨.func, 1, 8, [.nilFunc], [.func], []⟩
def t383 : TI := ⟨.func, 1, 8, [.nilFunc], [.func], []⟩
def t384 : TI := ⟨.func, 1, 8, [.nilFunc], [.func], []⟩
def t385 : TI := ⟨.func, 1, 8, [.nilFunc], [.func], []⟩
def t386 : TI := ⟨.func, 1, 8, [.nilFunc], [.func], []⟩
def t387 : TI := ⟨.func, 1, 8, [.nilFunc], [.func], []⟩
def t388 : TI := ⟨.func, 1, 8, [.nilFunc], [.func], []⟩
def t390 : TI := ⟨.func, 1, 8, [.nilFunc], [.func], []⟩
def t391 : TI := ⟨.func, 1, 8, [.nilFunc], [.func], []⟩
def t392 : TI := ⟨.func, 1, 8, [.nilFunc], [.func], []⟩
def t394 : TI := ⟨.func, 1, 8, [.nilFunc], [.func], []⟩
def t395 : TI := ⟨.func, 1, 8, [.nilFunc], [.func], []⟩
def t396 : TI := ⟨.func, 1, 8, [.nilFunc], [.func], []⟩
def t397 : TI := ⟨.func, 1, 8, [.nilFunc], [.func], []⟩
def t398 : TI := ⟨.func, 1, 8, [.nilFunc], [.func], []⟩
def t399 : TI := ⟨.func, 1, 8, [.nilFunc], [.func], []⟩
def t400 : TI := ⟨.func, 1, 8, [.nilFunc], [.func], []⟩
def t401 : TI := ⟨.slice 403, 1, 24, [.slice none 0 0], [.slice 403], []⟩
def t402 : TI := ⟨.struct [(0, 248), (3, 3)], 4, 48, [.int .i64 0, .int .i64 0, .slice none 0 0, .int .i64 0], [.int .i64, .int .i64, .slice 3, .int .i64], []⟩
def t403 : TI := ⟨.struct [(0, 248), (3, 3)], 4, 48, [.int .i64 0, .int .i64 0, .slice none 0 0, .int .i64 0], [.int .i64, .int .i64, .slice 3, .int .i64], []⟩
def t404 : TI := ⟨.func, 1, 8, [.nilFunc], [.func], []⟩
def t405 : TI := ⟨.func, 1, 8, [.nilFunc], [.func], []⟩
def t407 : TI := ⟨.func, 1, 8, [.nilFunc], [.func], []⟩
def t408 : TI := ⟨.func, 1, 8, [.nilFunc], [.func], []⟩
def t410 : TI := ⟨.func, 1, 8, [.nilFunc], [.func], []⟩
def t411 : TI := ⟨.int .u64, 1, 8, [.int .u64 0], [.int .u64], []⟩
def t412 : TI := ⟨.func, 1, 8, [.nilFunc], [.func], []⟩
def t413 : TI := ⟨.func, 1, 8, [.nilFunc], [.func], []⟩
def t414 : TI := ⟨.func, 1, 8, [.nilFunc], [.func], []⟩
def t415 : TI := ⟨.ptr 3, 1, 8, [.pointer none], [.ptr 3], []⟩
def t416 : TI := ⟨.func, 1, 8, [.nilFunc], [.func], []⟩
def t417 : TI := ⟨.func, 1, 8, [.nilFunc], [.func], []⟩
def t418 : TI := ⟨.func, 1, 8, [.nilFunc], [.func], []⟩
def t419 : TI := ⟨.func, 1, 8, [.nilFunc], [.func], []⟩
def t420 : TI := ⟨.func, 1, 8, [.nilFunc], [.func], []⟩
def t421 : TI := ⟨.func, 1, 8, [.nilFunc], [.func], []⟩
def t423 : TI := ⟨.func, 1, 8, [.nilFunc], [.func], []⟩
def t424 : TI := ⟨.func, 1, 8, [.nilFunc], [.func], []⟩
def t425 : TI := ⟨.func, 1, 8, [.nilFunc], [.func], []⟩
def t426 : TI := ⟨.func, 1, 8, [.nilFunc], [.func], []⟩
def t427 : TI := ⟨.func, 1, 8, [.nilFunc], [.func], []⟩
def t428 : TI := ⟨.func, 1, 8, [.nilFunc], [.func], []⟩
def t429 : TI := ⟨.func, 1, 8, [.nilFunc], [.func], []⟩
def t430 : TI := ⟨.func, 1, 8, [.nilFunc], [.func], []⟩
def t431 : TI := ⟨.func, 1, 8, [.nilFunc], [.func], []⟩
def t432 : TI := ⟨.func, 1, 8, [.nilFunc], [.func], []⟩
def t433 : TI := ⟨.func, 1, 8, [.nilFunc], [.func], []⟩
def t434 : TI := ⟨.func, 1, 8, [.nilFunc], [.func], []⟩
def t435 : TI := ⟨.struct [(0, 3), (1, 5), (2, 5), (3, 21)], 4, 16, [.int .i64 0, .int .u8 0, .int .u8 0, .int .i32 0], [.int .i64, .int .u8, .int .u8, .int .i32], [.int .i64, .int .u8, .int .u8, .int .i32]⟩
def t436 : TI := ⟨.struct [(0, 3), (1, 5), (2, 5), (3, 21)], 4, 16, [.int .i64 0, .int .u8 0, .int .u8 0, .int .i32 0], [.int .i64, .int .u8, .int .u8, .int .i32], [.int .i64, .int .u8, .int .u8, .int .i32]⟩
def t437 : TI := ⟨.func, 1, 8, [.nilFunc], [.func], []⟩
def t438 : TI := ⟨.ptr 411, 1, 8, [.pointer none], [.ptr 411], []⟩
def t439 : TI := ⟨.func, 1, 8, [.nilFunc], [.func], []⟩
def t440 : TI := ⟨.func, 1, 8, [.nilFunc], [.func], []⟩
def t441 : TI := ⟨.func, 1, 8, [.nilFunc], [.func], []⟩
def t442 : TI := ⟨.func, 1, 8, [.nilFunc], [.func], []⟩
def t443 : TI := ⟨.func, 1, 8, [.nilFunc], [.func], []⟩
def t444 : TI := ⟨.func, 1, 8, [.nilFunc], [.func], []⟩
def t445 : TI := ⟨.struct [(0, 4), (1, 4), (2, 4), (3, 4), (4, 4)], 5, 5, [.bool false, .bool false, .bool false, .bool false, .bool false], [.bool, .bool, .bool, .bool, .bool], [.bool, .bool, .bool, .bool, .bool]⟩
def t446 : TI := ⟨.struct [(0, 4), (1, 4), (2, 4), (3, 4), (4, 4)], 5, 5, [.bool false, .bool false, .bool false, .bool false, .bool false], [.bool, .bool, .bool, .bool, .bool], [.bool, .bool, .bool, .bool, .bool]⟩
def t447 : TI := ⟨.func, 1, 8, [.nilFunc], [.func], []⟩
def t448 : TI := ⟨.func, 1, 8, [.nilFunc], [.func], []⟩
def t449 : TI := ⟨.struct [(0, 3), (1, 3), (2, 3)], 3, 24, [.int .i64 0, .int .i64 0, .int .i64 0], [.int .i64, .int .i64, .int .i64], [.int .i64, .int .i64, .int .i64]⟩
def t450 : TI := ⟨.struct [(0, 3), (1, 3), (2, 3)], 3, 24, [.int .i64 0, .int .i64 0, .int .i64 0], [.int .i64, .int .i64, .int .i64], [.int .i64, .int .i64, .int .i64]⟩
def t452 : TI := ⟨.func, 1, 8, [.nilFunc], [.func], []⟩
def t454 : TI := ⟨.func, 1, 8, [.nilFunc], [.func], []⟩
def t455 : TI := ⟨.func, 1, 8, [.nilFunc], [.func], []⟩
def t456 : TI := ⟨.func, 1, 8, [.nilFunc], [.func], []⟩
def t457 : TI := ⟨.func, 1, 8, [.nilFunc], [.func], []⟩
def t458 : TI := ⟨.func, 1, 8, [.nilFunc], [.func], []⟩
def t459 : TI := ⟨.func, 1, 8, [.nilFunc], [.func], []⟩
def t460 : TI := ⟨.func, 1, 8, [.nilFunc], [.func], []⟩
def t461 : TI := ⟨.func, 1, 8, [.nilFunc], [.func], []⟩
def t462 : TI := ⟨.func, 1, 8, [.nilFunc], [.func], []⟩
def t463 : TI := ⟨.func, 1, 8, [.nilFunc], [.func], []⟩
def t464 : TI := ⟨.func, 1, 8, [.nilFunc], [.func], []⟩
def t465 : TI := ⟨.func, 1, 8, [.nilFunc], [.func], []⟩
def t466 : TI := ⟨.func, 1, 8, [.nilFunc], [.func], []⟩
def t467 : TI := ⟨.func, 1, 8, [.nilFunc], [.func], []⟩
def t468 : TI := ⟨.func, 1, 8, [.nilFunc], [.func], []⟩
def t469 : TI := ⟨.func, 1, 8, [.nilFunc], [.func], []⟩
def t470 : TI := ⟨.func, 1, 8, [.nilFunc], [.func], []⟩
def t471 : TI := ⟨.func, 1, 8, [.nilFunc], [.func], []⟩
def t472 : TI := ⟨.func, 1, 8, [.nilFunc], [.func], []⟩
def t473 : TI := ⟨.func, 1, 8, [.nilFunc], [.func], []⟩
def t474 : TI := ⟨.func, 1, 8, [.nilFunc], [.func], []⟩
def t475 : TI := ⟨.func, 1, 8, [.nilFunc], [.func], []⟩
def t476 : TI := ⟨.func, 1, 8, [.nilFunc], [.func], []⟩
def t477 : TI := ⟨.func, 1, 8, [.nilFunc], [.func], []⟩
def t478 : TI := ⟨.func, 1, 8, [.nilFunc], [.func], []⟩
def t479 : TI := ⟨.struct [(0, 17), (1, 17), (2, 17), (3, 9)], 4, 40, [.pointer none, .pointer none, .pointer none, .string ⟨#[]⟩], [.ptr 490, .ptr 490, .ptr 490, .str], []⟩
def t480 : TI := ⟨.struct [(0, 17), (1, 17), (2, 17), (3, 9)], 4, 40, [.pointer none, .pointer none, .pointer none, .string ⟨#[]⟩], [.ptr 490, .ptr 490, .ptr 490, .str], []⟩
def t484 : TI := ⟨.int .u8, 1, 1, [.int .u8 0], [.int .u8], []⟩
def t485 : TI := ⟨.int .u8, 1, 1, [.int .u8 0], [.int .u8], []⟩
def t486 : TI := ⟨.func, 1, 8, [.nilFunc], [.func], []⟩
def t487 : TI := ⟨.int .i32, 1, 4, [.int .i32 0], [.int .i32], []⟩
def t488 : TI := ⟨.int .i32, 1, 4, [.int .i32 0], [.int .i32], []⟩
def t489 : TI := ⟨.struct [(0, 12), (1, 12), (2, 306), (3, 484), (4, 5), (5, 5), (6, 485), (7, 486), (8, 241), (9, 487), (10, 488)], 11, 48, [.int .u64 0, .int .u64 0, .int .u32 0, .int .u8 0, .int .u8 0, .int .u8 0, .int .u8 0, .nilFunc, .pointer none, .int .i32 0, .int .i32 0], [.int .u64, .int .u64, .int .u32, .int .u8, .int .u8, .int .u8, .int .u8, .func, .ptr 5, .int .i32, .int .i32], []⟩
def t490 : TI := ⟨.struct [(0, 12), (1, 12), (2, 306), (3, 484), (4, 5), (5, 5), (6, 485), (7, 486), (8, 241), (9, 487), (10, 488)], 11, 48, [.int .u64 0, .int .u64 0, .int .u32 0, .int .u8 0, .int .u8 0, .int .u8 0, .int .u8 0, .nilFunc, .pointer none, .int .i32 0, .int .i32 0], [.int .u64, .int .u64, .int .u32, .int .u8, .int .u8, .int .u8, .int .u8, .func, .ptr 5, .int .i32, .int .i32], []⟩
def tab : Tab := (.node (.node (.node (.node (.node (.node (.node (.node (.node .nil 1 t1 .nil) 2 t2 (.node .nil 3 t3 .nil)) 4 t4 (.node (.node .nil 5 t5 .nil) 6 t6 .nil)) 7 t7 (.node (.node (.node .nil 8 t8 .nil) 9 t9 (.node .nil 10 t10 .nil)) 11 t11 (.node (.node .nil 12 t12 .nil) 13 t13 .nil))) 14 t14 (.node (.node (.node (.node .nil 15 t15 .nil) 16 t16 (.node .nil 17 t17 .nil)) 18 t18 (.node (.node .nil 19 t19 .nil) 21 t21 .nil)) 22 t22 (.node (.node (.node .nil 23 t23 .nil) 24 t24 (.node .nil 25 t25 .nil)) 26 t26 (.node (.node .nil 27 t27 .nil) 28 t28 .nil)))) 29 t29 (.node (.node (.node (.node (.node .nil 30 t30 .nil) 31 t31 (.node .nil 32 t32 .nil)) 33 t33 (.node (.node .nil 34 t34 .nil) 35 t35 .nil)) 36 t36 (.node (.node (.node .nil 37 t37 .nil) 38 t38 (.node .nil 40 t40 .nil)) 42 t42 (.node (.node .nil 43 t43 .nil) 45 t45 .nil))) 46 t46 (.node (.node (.node (.node .nil 47 t47 .nil) 48 t48 (.node .nil 49 t49 .nil)) 50 t50 (.node (.node .nil 51 t51 .nil) 52 t52 .nil)) 53 t53 (.node (.node (.node .nil 54 t54 .nil) 55 t55 (.node .nil 56 t56 .nil)) 57 t57 (.node (.node .nil 58 t58 .nil) 60 t60 .nil))))) 62 t62 (.node (.node (.node (.node (.node (.node .nil 64 t64 .nil) 65 t65 (.node .nil 66 t66 .nil)) 67 t67 (.node (.node .nil 68 t68 .nil) 69 t69 .nil)) 70 t70 (.node (.node (.node .nil 71 t71 .nil) 72 t72 (.node .nil 73 t73 .nil)) 74 t74 (.node (.node .nil 75 t75 .nil) 77 t77 .nil))) 78 t78 (.node (.node (.node (.node .nil 79 t79 .nil) 80 t80 (.node .nil 81 t81 .nil)) 82 t82 (.node (.node .nil 83 t83 .nil) 85 t85 .nil)) 86 t86 (.node (.node (.node .nil 87 t87 .nil) 88 t88 (.node .nil 90 t90 .nil)) 91 t91 (.node (.node .nil 92 t92 .nil) 93 t93 .nil)))) 94 t94 (.node (.node (.node (.node (.node .nil 95 t95 .nil) 96 t96 (.node .nil 97 t97 .nil)) 98 t98 (.node (.node .nil 99 t99 .nil) 100 t100 .nil)) 102 t102 (.node (.node (.node .nil 103 t103 .nil) 104 t104 (.node .nil 105 t105 .nil)) 106 t106 (.node (.node .nil 107 t107 .nil) 108 t108 .nil))) 109 t109 (.node (.node (.node (.node .nil 110 t110 .nil) 111 t111 (.node .nil 112 t112 .nil)) 114 t114 (.node (.node .nil 115 t115 .nil) 116 t116 .nil)) 117 t117 (.node (.node (.node .nil 118 t118 .nil) 119 t119 .nil) 120 t120 (.node (.node .nil 121 t121 .nil) 123 t123 .nil)))))) 124 t124 (.node (.node (.node (.node (.node (.node (.node .nil 125 t125 .nil) 126 t126 (.node .nil 127 t127 .nil)) 128 t128 (.node (.node .nil 129 t129 .nil) 131 t131 .nil)) 132 t132 (.node (.node (.node .nil 133 t133 .nil) 134 t134 (.node .nil 135 t135 .nil)) 136 t136 (.node (.node .nil 137 t137 .nil) 138 t138 .nil))) 139 t139 (.node (.node (.node (.node .nil 140 t140 .nil) 141 t141 (.node .nil 142 t142 .nil)) 143 t143 (.node (.node .nil 144 t144 .nil) 145 t145 .nil)) 146 t146 (.node (.node (.node .nil 147 t147 .nil) 148 t148 (.node .nil 149 t149 .nil)) 150 t150 (.node (.node .nil 151 t151 .nil) 152 t152 .nil)))) 153 t153 (.node (.node (.node (.node (.node .nil 154 t154 .nil) 155 t155 (.node .nil 156 t156 .nil)) 157 t157 (.node (.node .nil 158 t158 .nil) 159 t159 .nil)) 160 t160 (.node (.node (.node .nil 161 t161 .nil) 162 t162 (.node .nil 163 t163 .nil)) 164 t164 (.node (.node .nil 166 t166 .nil) 167 t167 .nil))) 168 t168 (.node (.node (.node (.node .nil 169 t169 .nil) 170 t170 (.node .nil 171 t171 .nil)) 172 t172 (.node (.node .nil 176 t176 .nil) 177 t177 .nil)) 178 t178 (.node (.node (.node .nil 179 t179 .nil) 180 t180 .nil) 181 t181 (.node (.node .nil 182 t182 .nil) 183 t183 .nil))))) 184 t184 (.node (.node (.node (.node (.node (.node .nil 185 t185 .nil) 186 t186 (.node .nil 187 t187 .nil)) 188 t188 (.node (.node .nil 189 t189 .nil) 190 t190 .nil)) 191 t191 (.node (.node (.node .nil 192 t192 .nil) 193 t193 (.node .nil 194 t194 .nil)) 195 t195 (.node (.node .nil 196 t196 .nil) 197 t197 .nil))) 198 t198 (.node (.node (.node (.node .nil 199 t199 .nil) 201 t201 (.node .nil 202 t202 .nil)) 203 t203 (.node (.node .nil 204 t204 .nil) 205 t205 .nil)) 206 t206 (.node (.node (.node .nil 207 t207 .nil) 208 t208 (.node .nil 209 t209 .nil)) 210 t210 (.node (.node .nil 211 t211 .nil) 212 t212 .nil)))) 213 t213 (.node (.node (.node (.node (.node .nil 214 t214 .nil) 215 t215 (.node .nil 216 t216 .nil)) 217 t217 (.node (.node .nil 218 t218 .nil) 220 t220 .nil)) 222 t222 (.node (.node (.node .nil 223 t223 .nil) 224 t224 (.node .nil 225 t225 .nil)) 226 t226 (.node (.node .nil 227 t227 .nil) 228 t228 .nil))) 229 t229 (.node (.node (.node (.node .nil 230 t230 .nil) 231 t231 (.node .nil 232 t232 .nil)) 233 t233 (.node (.node .nil 234 t234 .nil) 235 t235 .nil)) 236 t236 (.node (.node (.node .nil 237 t237 .nil) 238 t238 .nil) 239 t239 (.node (.node .nil 240 t240 .nil) 241 t241 .nil))))))) 242 t242 (.node (.node (.node (.node (.node (.node (.node (.node .nil 243 t243 .nil) 244 t244 (.node .nil 245 t245 .nil)) 246 t246 (.node (.node .nil 247 t247 .nil) 248 t248 .nil)) 250 t250 (.node (.node (.node .nil 251 t251 .nil) 252 t252 (.node .nil 253 t253 .nil)) 254 t254 (.node (.node .nil 256 t256 .nil) 257 t257 .nil))) 258 t258 (.node (.node (.node (.node .nil 259 t259 .nil) 260 t260 (.node .nil 261 t261 .nil)) 262 t262 (.node (.node .nil 263 t263 .nil) 264 t264 .nil)) 265 t265 (.node (.node (.node .nil 266 t266 .nil) 268 t268 (.node .nil 269 t269 .nil)) 270 t270 (.node (.node .nil 271 t271 .nil) 272 t272 .nil)))) 273 t273 (.node (.node (.node (.node (.node .nil 274 t274 .nil) 275 t275 (.node .nil 276 t276 .nil)) 278 t278 (.node (.node .nil 280 t280 .nil) 281 t281 .nil)) 282 t282 (.node (.node (.node .nil 283 t283 .nil) 284 t284 (.node .nil 285 t285 .nil)) 287 t287 (.node (.node .nil 288 t288 .nil) 289 t289 .nil))) 290 t290 (.node (.node (.node (.node .nil 291 t291 .nil) 292 t292 (.node .nil 293 t293 .nil)) 294 t294 (.node (.node .nil 295 t295 .nil) 296 t296 .nil)) 297 t297 (.node (.node (.node .nil 298 t298 .nil) 299 t299 .nil) 300 t300 (.node (.node .nil 302 t302 .nil) 303 t303 .nil))))) 304 t304 (.node (.node (.node (.node (.node (.node .nil 305 t305 .nil) 306 t306 (.node .nil 308 t308 .nil)) 310 t310 (.node (.node .nil 312 t312 .nil) 313 t313 .nil)) 314 t314 (.node (.node (.node .nil 315 t315 .nil) 316 t316 (.node .nil 318 t318 .nil)) 319 t319 (.node (.node .nil 320 t320 .nil) 322 t322 .nil))) 323 t323 (.node (.node (.node (.node .nil 324 t324 .nil) 325 t325 (.node .nil 326 t326 .nil)) 327 t327 (.node (.node .nil 328 t328 .nil) 329 t329 .nil)) 330 t330 (.node (.node (.node .nil 332 t332 .nil) 333 t333 (.node .nil 334 t334 .nil)) 335 t335 (.node (.node .nil 336 t336 .nil) 337 t337 .nil)))) 338 t338 (.node (.node (.node (.node (.node .nil 339 t339 .nil) 340 t340 (.node .nil 341 t341 .nil)) 342 t342 (.node (.node .nil 343 t343 .nil) 344 t344 .nil)) 345 t345 (.node (.node (.node .nil 347 t347 .nil) 348 t348 (.node .nil 349 t349 .nil)) 350 t350 (.node (.node .nil 351 t351 .nil) 352 t352 .nil))) 353 t353 (.node (.node (.node (.node .nil 354 t354 .nil) 355 t355 (.node .nil 357 t357 .nil)) 358 t358 (.node (.node .nil 359 t359 .nil) 360 t360 .nil)) 361 t361 (.node (.node (.node .nil 362 t362 .nil) 363 t363 .nil) 364 t364 (.node (.node .nil 366 t366 .nil) 367 t367 .nil)))))) 368 t368 (.node (.node (.node (.node (.node (.node (.node .nil 369 t369 .nil) 370 t370 (.node .nil 371 t371 .nil)) 372 t372 (.node (.node .nil 373 t373 .nil) 376 t376 .nil)) 377 t377 (.node (.node (.node .nil 379 t379 .nil) 380 t380 (.node .nil 381 t381 .nil)) 382 t382 (.node (.node .nil 383 t383 .nil) 384 t384 .nil))) 385 t385 (.node (.node (.node (.node .nil 386 t386 .nil) 387 t387 (.node .nil 388 t388 .nil)) 390 t390 (.node (.node .nil 391 t391 .nil) 392 t392 .nil)) 394 t394 (.node (.node (.node .nil 395 t395 .nil) 396 t396 (.node .nil 397 t397 .nil)) 398 t398 (.node (.node .nil 399 t399 .nil) 400 t400 .nil)))) 401 t401 (.node (.node (.node (.node (.node .nil 402 t402 .nil) 403 t403 (.node .nil 404 t404 .nil)) 405 t405 (.node (.node .nil 407 t407 .nil) 408 t408 .nil)) 410 t410 (.node (.node (.node .nil 411 t411 .nil) 412 t412 (.node .nil 413 t413 .nil)) 414 t414 (.node (.node .nil 415 t415 .nil) 416 t416 .nil))) 417 t417 (.node (.node (.node (.node .nil 418 t418 .nil) 419 t419 (.node .nil 420 t420 .nil)) 421 t421 (.node (.node .nil 423 t423 .nil) 424 t424 .nil)) 425 t425 (.node (.node (.node .nil 426 t426 .nil) 427 t427 .nil) 428 t428 (.node (.node .nil 429 t429 .nil) 430 t430 .nil))))) 431 t431 (.node (.node (.node (.node (.node (.node .nil 432 t432 .nil) 433 t433 (.node .nil 434 t434 .nil)) 435 t435 (.node (.node .nil 436 t436 .nil) 437 t437 .nil)) 438 t438 (.node (.node (.node .nil 439 t439 .nil) 440 t440 (.node .nil 441 t441 .nil)) 442 t442 (.node (.node .nil 443 t443 .nil) 444 t444 .nil))) 445 t445 (.node (.node (.node (.node .nil 446 t446 .nil) 447 t447 (.node .nil 448 t448 .nil)) 449 t449 (.node (.node .nil 450 t450 .nil) 452 t452 .nil)) 454 t454 (.node (.node (.node .nil 455 t455 .nil) 456 t456 (.node .nil 457 t457 .nil)) 458 t458 (.node (.node .nil 459 t459 .nil) 460 t460 .nil)))) 461 t461 (.node (.node (.node (.node (.node .nil 462 t462 .nil) 463 t463 (.node .nil 464 t464 .nil)) 465 t465 (.node (.node .nil 466 t466 .nil) 467 t467 .nil)) 468 t468 (.node (.node (.node .nil 469 t469 .nil) 470 t470 (.node .nil 471 t471 .nil)) 472 t472 (.node (.node .nil 473 t473 .nil) 474 t474 .nil))) 475 t475 (.node (.node (.node (.node .nil 476 t476 .nil) 477 t477 (.node .nil 478 t478 .nil)) 479 t479 (.node (.node .nil 480 t480 .nil) 484 t484 .nil)) 485 t485 (.node (.node (.node .nil 486 t486 .nil) 487 t487 .nil) 488 t488 (.node (.node .nil 489 t489 .nil) 490 t490 .nil))))))))
theorem tab_b : tabB Tryz.prog tab = true := by kernel_rfl
theorem tab_ok : TabOk Tryz.prog tab := tabOk_of tab_b
theorem nm0 : (Tryz.f0.name == "runtime.NumGoroutine") = false := by kernel_rfl
theorem nm1 : (Tryz.f1.name == "runtime.NumGoroutine") = false := by kernel_rfl
theorem nm2 : (Tryz.f2.name == "runtime.NumGoroutine") = false := by kernel_rfl
theorem nm3 : (Tryz.f3.name == "runtime.NumGoroutine") = false := by kernel_rfl
theorem nm4 : (Tryz.f4.name == "runtime.NumGoroutine") = false := by kernel_rfl
theorem nm5 : (Tryz.f5.name == "runtime.NumGoroutine") = false := by kernel_rfl
theorem nm6 : (Tryz.f6.name == "runtime.NumGoroutine") = false := by kernel_rfl
theorem nm7 : (Tryz.f7.name == "runtime.NumGoroutine") = false := by kernel_rfl
theorem nm8 : (Tryz.f8.name == "runtime.NumGoroutine") = false := by kernel_rfl
theorem nm9 : (Tryz.f9.name == "runtime.NumGoroutine") = false := by kernel_rfl
theorem nm10 : (Tryz.f10.name == "runtime.NumGoroutine") = false := by kernel_rfl
theorem nm11 : (Tryz.f11.name == "runtime.NumGoroutine") = false := by kernel_rfl
theorem nm12 : (Tryz.f12.name == "runtime.NumGoroutine") = false := by kernel_rfl
theorem nm13 : (Tryz.f13.name == "runtime.NumGoroutine") = false := by kernel_rfl
theorem nm14 : (Tryz.f14.name == "runtime.NumGoroutine") = false := by kernel_rfl
theorem nm15 : (Tryz.f15.name == "runtime.NumGoroutine") = false := by kernel_rfl
theorem nm16 : (Tryz.f16.name == "runtime.NumGoroutine") = false := by kernel_rfl
theorem nm17 : (Tryz.f17.name == "runtime.NumGoroutine") = false := by kernel_rfl
theorem nm18 : (Tryz.f18.name == "runtime.NumGoroutine") = false := by kernel_rfl
theorem nm19 : (Tryz.f19.name == "runtime.NumGoroutine") = false := by kernel_rfl
theorem nm20 : (Tryz.f20.name == "runtime.NumGoroutine") = false := by kernel_rfl
theorem nm21 : (Tryz.f21.name == "runtime.NumGoroutine") = false := by kernel_rfl
theorem nm22 : (Tryz.f22.name == "runtime.NumGoroutine") = false := by kernel_rfl
theorem nm23 : (Tryz.f23.name == "runtime.NumGoroutine") = false := by kernel_rfl
theorem nm24 : (Tryz.f24.name == "runtime.NumGoroutine") = false := by kernel_rfl
theorem nm25 : (Tryz.f25.name == "runtime.NumGoroutine") = false := by kernel_rfl
theorem nm26 : (Tryz.f26.name == "runtime.NumGoroutine") = false := by kernel_rfl
theorem nm27 : (Tryz.f27.name == "runtime.NumGoroutine") = false := by kernel_rfl
theorem nm28 : (Tryz.f28.name == "runtime.NumGoroutine") = false := by kernel_rfl
theorem nm29 : (Tryz.f29.name == "runtime.NumGoroutine") = false := by kernel_rfl
theorem nm30 : (Tryz.f30.name == "runtime.NumGoroutine") = false := by kernel_rfl
theorem nm31 : (Tryz.f31.name == "runtime.NumGoroutine") = false := by kernel_rfl
theorem nm32 : (Tryz.f32.name == "runtime.NumGoroutine") = false := by kernel_rfl
theorem nm33 : (Tryz.f33.name == "runtime.NumGoroutine") = false := by kernel_rfl
theorem nm34 : (Tryz.f34.name == "runtime.NumGoroutine") = false := by kernel_rfl
theorem nm35 : (Tryz.f35.name == "runtime.NumGoroutine") = false := by kernel_rfl
theorem nm36 : (Tryz.f36.name == "runtime.NumGoroutine") = false := by kernel_rfl
theorem nm37 : (Tryz.f37.name == "runtime.NumGoroutine") = false := by kernel_rfl
theorem nm38 : (Tryz.f38.name == "runtime.NumGoroutine") = false := by kernel_rfl
theorem nm39 : (Tryz.f39.name == "runtime.NumGoroutine") = false := by kernel_rfl
theorem nm40 : (Tryz.f40.name == "runtime.NumGoroutine") = false := by kernel_rfl
theorem nm41 : (Tryz.f41.name == "runtime.NumGoroutine") = false := by kernel_rfl
theorem nm42 : (Tryz.f42.name == "runtime.NumGoroutine") = false := by kernel_rfl
theorem nm43 : (Tryz.f43.name == "runtime.NumGoroutine") = false := by kernel_rfl
theorem nm44 : (Tryz.f44.name == "runtime.NumGoroutine") = false := by kernel_rfl
theorem nm45 : (Tryz.f45.name == "runtime.NumGoroutine") = false := by kernel_rfl
theorem nm46 : (Tryz.f46.name == "runtime.NumGoroutine") = false := by kernel_rfl
theorem nm47 : (Tryz.f47.name == "runtime.NumGoroutine") = false := by kernel_rfl
theorem nm48 : (Tryz.f48.name == "runtime.NumGoroutine") = false := by kernel_rfl
theorem nm49 : (Tryz.f49.name == "runtime.NumGoroutine") = false := by kernel_rfl
theorem nm50 : (Tryz.f50.name == "runtime.NumGoroutine") = false := by kernel_rfl
theorem nm51 : (Tryz.f51.name == "runtime.NumGoroutine") = false := by kernel_rfl
theorem nm52 : (Tryz.f52.name == "runtime.NumGoroutine") = false := by kernel_rfl
theorem nm53 : (Tryz.f53.name == "runtime.NumGoroutine") = false := by kernel_rfl
theorem nm54 : (Tryz.f54.name == "runtime.NumGoroutine") = false := by kernel_rfl
theorem nm55 : (Tryz.f55.name == "runtime.NumGoroutine") = false := by kernel_rfl
theorem nm56 : (Tryz.f56.name == "runtime.NumGoroutine") = false := by kernel_rfl
theorem nm57 : (Tryz.f57.name == "runtime.NumGoroutine") = false := by kernel_rfl
theorem nm58 : (Tryz.f58.name == "runtime.NumGoroutine") = false := by kernel_rfl
theorem nm59 : (Tryz.f59.name == "runtime.NumGoroutine") = false := by kernel_rfl
theorem nm60 : (Tryz.f60.name == "runtime.NumGoroutine") = false := by kernel_rfl
theorem nm61 : (Tryz.f61.name == "runtime.NumGoroutine") = false := by kernel_rfl
theorem nm62 : (Tryz.f62.name == "runtime.NumGoroutine") = false := by kernel_rfl
theorem nm63 : (Tryz.f63.name == "runtime.NumGoroutine") = false := by kernel_rfl
theorem nm64 : (Tryz.f64.name == "runtime.NumGoroutine") = false := by kernel_rfl
theorem nm65 : (Tryz.f65.name == "runtime.NumGoroutine") = false := by kernel_rfl
theorem nm66 : (Tryz.f66.name == "runtime.NumGoroutine") = false := by kernel_rfl
theorem nm67 : (Tryz.f67.name == "runtime.NumGoroutine") = false := by kernel_rfl
theorem nm68 : (Tryz.f68.name == "runtime.NumGoroutine") = false := by kernel_rfl
theorem nm69 : (Tryz.f69.name == "runtime.NumGoroutine") = false := by kernel_rfl
theorem nm70 : (Tryz.f70.name == "runtime.NumGoroutine") = false := by kernel_rfl
theorem nm71 : (Tryz.f71.name == "runtime.NumGoroutine") = false := by kernel_rfl
theorem nm72 : (Tryz.f72.name == "runtime.NumGoroutine") = false := by kernel_rfl
theorem nm73 : (Tryz.f73.name == "runtime.NumGoroutine") = false := by kernel_rfl
theorem nm74 : (Tryz.f74.name == "runtime.NumGoroutine") = false := by kernel_rfl
theorem nm75 : (Tryz.f75.name == "runtime.NumGoroutine") = false := by kernel_rfl
theorem nm76 : (Tryz.f76.name == "runtime.NumGoroutine") = false := by kernel_rfl
theorem nm77 : (Tryz.f77.name == "runtime.NumGoroutine") = false := by kernel_rfl
theorem nm78 : (Tryz.f78.name == "runtime.NumGoroutine") = false := by kernel_rfl
theorem nm79 : (Tryz.f79.name == "runtime.NumGoroutine") = false := by kernel_rfl
theorem nm80 : (Tryz.f80.name == "runtime.NumGoroutine") = false := by kernel_rfl
theorem nm81 : (Tryz.f81.name == "runtime.NumGoroutine") = false := by kernel_rfl
theorem nm82 : (Tryz.f82.name == "runtime.NumGoroutine") = false := by kernel_rfl
theorem nm83 : (Tryz.f83.name == "runtime.NumGoroutine") = false := by kernel_rfl
theorem nm84 : (Tryz.f84.name == "runtime.NumGoroutine") = false := by kernel_rfl
theorem nm85 : (Tryz.f85.name == "runtime.NumGoroutine") = false := by kernel_rfl
theorem nm86 : (Tryz.f86.name == "runtime.NumGoroutine") = false := by kernel_rfl
theorem nm87 : (Tryz.f87.name == "runtime.NumGoroutine") = false := by kernel_rfl
theorem nm88 : (Tryz.f88.name == "runtime.NumGoroutine") = false := by kernel_rfl
theorem nm89 : (Tryz.f89.name == "runtime.NumGoroutine") = false := by kernel_rfl
theorem nm90 : (Tryz.f90.name == "runtime.NumGoroutine") = false := by kernel_rfl
theorem nm91 : (Tryz.f91.name == "runtime.NumGoroutine") = false := by kernel_rfl
theorem nm92 : (Tryz.f92.name == "runtime.NumGoroutine") = false := by kernel_rfl
theorem nm93 : (Tryz.f93.name == "runtime.NumGoroutine") = false := by kernel_rfl
theorem nm94 : (Tryz.f94.name == "runtime.NumGoroutine") = false := by kernel_rfl
theorem nm95 : (Tryz.f95.name == "runtime.NumGoroutine") = false := by kernel_rfl
theorem nm96 : (Tryz.f96.name == "runtime.NumGoroutine") = false := by kernel_rfl
theorem nm97 : (Tryz.f97.name == "runtime.NumGoroutine") = false := by kernel_rfl
theorem nm98 : (Tryz.f98.name == "runtime.NumGoroutine") = false := by kernel_rfl
theorem nm99 : (Tryz.f99.name == "runtime.NumGoroutine") = false := by kernel_rfl
theorem nm100 : (Tryz.f100.name == "runtime.NumGoroutine") = false := by kernel_rfl
theorem nm101 : (Tryz.f101.name == "runtime.NumGoroutine") = false := by kernel_rfl
theorem nm102 : (Tryz.f102.name == "runtime.NumGoroutine") = false := by kernel_rfl
theorem nm103 : (Tryz.f103.name == "runtime.NumGoroutine") = false := by kernel_rfl
theorem nm104 : (Tryz.f104.name == "runtime.NumGoroutine") = false := by kernel_rfl
theorem nm105 : (Tryz.f105.name == "runtime.NumGoroutine") = false := by kernel_rfl
theorem nm106 : (Tryz.f106.name == "runtime.NumGoroutine") = false := by kernel_rfl
theorem nm107 : (Tryz.f107.name == "runtime.NumGoroutine") = false := by kernel_rfl
theorem nm108 : (Tryz.f108.name == "runtime.NumGoroutine") = false := by kernel_rfl
theorem nm109 : (Tryz.f109.name == "runtime.NumGoroutine") = false := by kernel_rfl
theorem nm110 : (Tryz.f110.name == "runtime.NumGoroutine") = false := by kernel_rfl
theorem nm111 : (Tryz.f111.name == "runtime.NumGoroutine") = false := by kernel_rfl
theorem nm112 : (Tryz.f112.name == "runtime.NumGoroutine") = false := by kernel_rfl
theorem nm113 : (Tryz.f113.name == "runtime.NumGoroutine") = false := by kernel_rfl
theorem nm114 : (Tryz.f114.name == "runtime.NumGoroutine") = false := by kernel_rfl
theorem nm115 : (Tryz.f115.name == "runtime.NumGoroutine") = false := by kernel_rfl
theorem nm116 : (Tryz.f116.name == "runtime.NumGoroutine") = false := by kernel_rfl
theorem nm117 : (Tryz.f117.name == "runtime.NumGoroutine") = false := by kernel_rfl
theorem nm118 : (Tryz.f118.name == "runtime.NumGoroutine") = false := by kernel_rfl
theorem nm119 : (Tryz.f119.name == "runtime.NumGoroutine") = false := by kernel_rfl
theorem nm120 : (Tryz.f120.name == "runtime.NumGoroutine") = false := by kernel_rfl
theorem nm121 : (Tryz.f121.name == "runtime.NumGoroutine") = false := by kernel_rfl
theorem nm122 : (Tryz.f122.name == "runtime.NumGoroutine") = false := by kernel_rfl
theorem nm123 : (Tryz.f123.name == "runtime.NumGoroutine") = false := by kernel_rfl
theorem nm124 : (Tryz.f124.name == "runtime.NumGoroutine") = false := by kernel_rfl
theorem nm125 : (Tryz.f125.name == "runtime.NumGoroutine") = false := by kernel_rfl
theorem nm126 : (Tryz.f126.name == "runtime.NumGoroutine") = false := by kernel_rfl
theorem nm127 : (Tryz.f127.name == "runtime.NumGoroutine") = false := by kernel_rfl
theorem nm128 : (Tryz.f128.name == "runtime.NumGoroutine") = false := by kernel_rfl
theorem nm129 : (Tryz.f129.name == "runtime.NumGoroutine") = false := by kernel_rfl
theorem nm130 : (Tryz.f130.name == "runtime.NumGoroutine") = false := by kernel_rfl
theorem nm131 : (Tryz.f131.name == "runtime.NumGoroutine") = false := by kernel_rfl
theorem nm132 : (Tryz.f132.name == "runtime.NumGoroutine") = false := by kernel_rfl
theorem nm133 : (Tryz.f133.name == "runtime.NumGoroutine") = false := by kernel_rfl
theorem nm134 : (Tryz.f134.name == "runtime.NumGoroutine") = false := by kernel_rfl
theorem nm135 : (Tryz.f135.name == "runtime.NumGoroutine") = false := by kernel_rfl
theorem nm136 : (Tryz.f136.name == "runtime.NumGoroutine") = false := by kernel_rfl
theorem nm137 : (Tryz.f137.name == "runtime.NumGoroutine") = false := by kernel_rfl
theorem nm138 : (Tryz.f138.name == "runtime.NumGoroutine") = false := by kernel_rfl
theorem nm139 : (Tryz.f139.name == "runtime.NumGoroutine") = false := by kernel_rfl
theorem nm140 : (Tryz.f140.name == "runtime.NumGoroutine") = false := by kernel_rfl
theorem nm141 : (Tryz.f141.name == "runtime.NumGoroutine") = false := by kernel_rfl
theorem nm142 : (Tryz.f142.name == "runtime.NumGoroutine") = false := by kernel_rfl
theorem nm143 : (Tryz.f143.name == "runtime.NumGoroutine") = false := by kernel_rfl
theorem nm144 : (Tryz.f144.name == "runtime.NumGoroutine") = false := by kernel_rfl
theorem nm145 : (Tryz.f145.name == "runtime.NumGoroutine") = false := by kernel_rfl
theorem nm146 : (Tryz.f146.name == "runtime.NumGoroutine") = false := by kernel_rfl
theorem nm147 : (Tryz.f147.name == "runtime.NumGoroutine") = false := by kernel_rfl
theorem nm148 : (Tryz.f148.name == "runtime.NumGoroutine") = false := by kernel_rfl
theorem nm149 : (Tryz.f149.name == "runtime.NumGoroutine") = false := by kernel_rfl
theorem nm150 : (Tryz.f150.name == "runtime.NumGoroutine") = false := by kernel_rfl
theorem nm151 : (Tryz.f151.name == "runtime.NumGoroutine") = false := by kernel_rfl
theorem nm152 : (Tryz.f152.name == "runtime.NumGoroutine") = false := by kernel_rfl
theorem nm153 : (Tryz.f153.name == "runtime.NumGoroutine") = false := by kernel_rfl
theorem nm154 : (Tryz.f154.name == "runtime.NumGoroutine") = false := by kernel_rfl
theorem nm155 : (Tryz.f155.name == "runtime.NumGoroutine") = false := by kernel_rfl
theorem nm156 : (Tryz.f156.name == "runtime.NumGoroutine") = false := by kernel_rfl
theorem nm157 : (Tryz.f157.name == "runtime.NumGoroutine") = false := by kernel_rfl
theorem nm158 : (Tryz.f158.name == "runtime.NumGoroutine") = false := by kernel_rfl
theorem nm159 : (Tryz.f159.name == "runtime.NumGoroutine") = false := by kernel_rfl
theorem nm160 : (Tryz.f160.name == "runtime.NumGoroutine") = false := by kernel_rfl
theorem nm161 : (Tryz.f161.name == "runtime.NumGoroutine") = false := by kernel_rfl
theorem nm162 : (Tryz.f162.name == "runtime.NumGoroutine") = false := by kernel_rfl
theorem nm163 : (Tryz.f163.name == "runtime.NumGoroutine") = false := by kernel_rfl
theorem nm164 : (Tryz.f164.name == "runtime.NumGoroutine") = false := by kernel_rfl
theorem nm165 : (Tryz.f165.name == "runtime.NumGoroutine") = false := by kernel_rfl
theorem nm166 : (Tryz.f166.name == "runtime.NumGoroutine") = false := by kernel_rfl
theorem nm167 : (Tryz.f167.name == "runtime.NumGoroutine") = false := by kernel_rfl
theorem nm168 : (Tryz.f168.name == "runtime.NumGoroutine") = false := by kernel_rfl
theorem nm169 : (Tryz.f169.name == "runtime.NumGoroutine") = false := by kernel_rfl
theorem nm170 : (Tryz.f170.name == "runtime.NumGoroutine") = false := by kernel_rfl
theorem nm171 : (Tryz.f171.name == "runtime.NumGoroutine") = false := by kernel_rfl
theorem nm172 : (Tryz.f172.name == "runtime.NumGoroutine") = false := by kernel_rfl
theorem nm173 : (Tryz.f173.name == "runtime.NumGoroutine") = false := by kernel_rfl
theorem nm174 : (Tryz.f174.name == "runtime.NumGoroutine") = false := by kernel_rfl
theorem nm175 : (Tryz.f175.name == "runtime.NumGoroutine") = false := by kernel_rfl
theorem nm176 : (Tryz.f176.name == "runtime.NumGoroutine") = false := by kernel_rfl
theorem nm177 : (Tryz.f177.name == "runtime.NumGoroutine") = false := by kernel_rfl
theorem nm178 : (Tryz.f178.name == "runtime.NumGoroutine") = false := by kernel_rfl
theorem nm179 : (Tryz.f179.name == "runtime.NumGoroutine") = false := by kernel_rfl
theorem nm180 : (Tryz.f180.name == "runtime.NumGoroutine") = false := by kernel_rfl
theorem nm181 : (Tryz.f181.name == "runtime.NumGoroutine") = false := by kernel_rfl
theorem nm182 : (Tryz.f182.name == "runtime.NumGoroutine") = false := by kernel_rfl
theorem nm183 : (Tryz.f183.name == "runtime.NumGoroutine") = false := by kernel_rfl
theorem nm184 : (Tryz.f184.name == "runtime.NumGoroutine") = false := by kernel_rfl
theorem nm185 : (Tryz.f185.name == "runtime.NumGoroutine") = false := by kernel_rfl
theorem nm186 : (Tryz.f186.name == "runtime.NumGoroutine") = false := by kernel_rfl
theorem nm187 : (Tryz.f187.name == "runtime.NumGoroutine") = false := by kernel_rfl
theorem nm188 : (Tryz.f188.name == "runtime.NumGoroutine") = false := by kernel_rfl
theorem nm189 : (Tryz.f189.name == "runtime.NumGoroutine") = false := by kernel_rfl
theorem nm190 : (Tryz.f190.name == "runtime.NumGoroutine") = false := by kernel_rfl
theorem nm191 : (Tryz.f191.name == "runtime.NumGoroutine") = false := by kernel_rfl
theorem nm192 : (Tryz.f192.name == "runtime.NumGoroutine") = false := by kernel_rfl
theorem nm193 : (Tryz.f193.name == "runtime.NumGoroutine") = false := by kernel_rfl
theorem nm194 : (Tryz.f194.name == "runtime.NumGoroutine") = false := by kernel_rfl
theorem nm195 : (Tryz.f195.name == "runtime.NumGoroutine") = false := by kernel_rfl
theorem nm196 : (Tryz.f196.name == "runtime.NumGoroutine") = false := by kernel_rfl
theorem nm197 : (Tryz.f197.name == "runtime.NumGoroutine") = false := by kernel_rfl
theorem nm198 : (Tryz.f198.name == "runtime.NumGoroutine") = false := by kernel_rfl
theorem nm199 : (Tryz.f199.name == "runtime.NumGoroutine") = false := by kernel_rfl
theorem nm200 : (Tryz.f200.name == "runtime.NumGoroutine") = false := by kernel_rfl
theorem nm201 : (Tryz.f201.name == "runtime.NumGoroutine") = false := by kernel_rfl
theorem nm202 : (Tryz.f202.name == "runtime.NumGoroutine") = false := by kernel_rfl
theorem nm203 : (Tryz.f203.name == "runtime.NumGoroutine") = false := by kernel_rfl
theorem nm204 : (Tryz.f204.name == "runtime.NumGoroutine") = false := by kernel_rfl
theorem nm205 : (Tryz.f205.name == "runtime.NumGoroutine") = false := by kernel_rfl
theorem nm206 : (Tryz.f206.name == "runtime.NumGoroutine") = false := by kernel_rfl
theorem nm207 : (Tryz.f207.name == "runtime.NumGoroutine") = false := by kernel_rfl
theorem nm208 : (Tryz.f208.name == "runtime.NumGoroutine") = false := by kernel_rfl
theorem nm209 : (Tryz.f209.name == "runtime.NumGoroutine") = false := by kernel_rfl
theorem nm210 : (Tryz.f210.name == "runtime.NumGoroutine") = false := by kernel_rfl
theorem nm211 : (Tryz.f211.name == "runtime.NumGoroutine") = false := by kernel_rfl
theorem nm212 : (Tryz.f212.name == "runtime.NumGoroutine") = false := by kernel_rfl
theorem nm213 : (Tryz.f213.name == "runtime.NumGoroutine") = false := by kernel_rfl
theorem nm214 : (Tryz.f214.name == "runtime.NumGoroutine") = false := by kernel_rfl
theorem nm215 : (Tryz.f215.name == "runtime.NumGoroutine") = false := by kernel_rfl
theorem nm216 : (Tryz.f216.name == "runtime.NumGoroutine") = false := by kernel_rfl
theorem nm217 : (Tryz.f217.name == "runtime.NumGoroutine") = false := by kernel_rfl
theorem nm218 : (Tryz.f218.name == "runtime.NumGoroutine") = false := by kernel_rfl
theorem nm219 : (Tryz.f219.name == "runtime.NumGoroutine") = false := by kernel_rfl
theorem nm220 : (Tryz.f220.name == "runtime.NumGoroutine") = false := by kernel_rfl
theorem nm221 : (Tryz.f221.name == "runtime.NumGoroutine") = false := by kernel_rfl
theorem nm222 : (Tryz.f222.name == "runtime.NumGoroutine") = false := by kernel_rfl
theorem nm223 : (Tryz.f223.name == "runtime.NumGoroutine") = false := by kernel_rfl
theorem nm224 : (Tryz.f224.name == "runtime.NumGoroutine") = false := by kernel_rfl
theorem nm225 : (Tryz.f225.name == "runtime.NumGoroutine") = false := by kernel_rfl
theorem nm226 : (Tryz.f226.name == "runtime.NumGoroutine") = false := by kernel_rfl
theorem nm227 : (Tryz.f227.name == "runtime.NumGoroutine") = false := by kernel_rfl
theorem nm228 : (Tryz.f228.name == "runtime.NumGoroutine") = false := by kernel_rfl
theorem nm229 : (Tryz.f229.name == "runtime.NumGoroutine") = false := by kernel_rfl
theorem nm230 : (Tryz.f230.name == "runtime.NumGoroutine") = false := by kernel_rfl
theorem nm231 : (Tryz.f231.name == "runtime.NumGoroutine") = false := by kernel_rfl
theorem nm232 : (Tryz.f232.name == "runtime.NumGoroutine") = false := by kernel_rfl
theorem nm233 : (Tryz.f233.name == "runtime.NumGoroutine") = false := by kernel_rfl
theorem nm234 : (Tryz.f234.name == "runtime.NumGoroutine") = false := by kernel_rfl
theorem nm235 : (Tryz.f235.name == "runtime.NumGoroutine") = false := by kernel_rfl
theorem nm236 : (Tryz.f236.name == "runtime.NumGoroutine") = false := by kernel_rfl
theorem nm237 : (Tryz.f237.name == "runtime.NumGoroutine") = false := by kernel_rfl
theorem nm238 : (Tryz.f238.name == "runtime.NumGoroutine") = false := by kernel_rfl
theorem nm239 : (Tryz.f239.name == "runtime.NumGoroutine") = false := by kernel_rfl
theorem nm240 : (Tryz.f240.name == "runtime.NumGoroutine") = false := by kernel_rfl
theorem nm241 : (Tryz.f241.name == "runtime.NumGoroutine") = false := by kernel_rfl
theorem nm242 : (Tryz.f242.name == "runtime.NumGoroutine") = false := by kernel_rfl
theorem nm243 : (Tryz.f243.name == "runtime.NumGoroutine") = false := by kernel_rfl
theorem nm244 : (Tryz.f244.name == "runtime.NumGoroutine") = false := by kernel_rfl
theorem nm245 : (Tryz.f245.name == "runtime.NumGoroutine") = false := by kernel_rfl
theorem nm246 : (Tryz.f246.name == "runtime.NumGoroutine") = false := by kernel_rfl
theorem nm247 : (Tryz.f247.name == "runtime.NumGoroutine") = false := by kernel_rfl
theorem nm248 : (Tryz.f248.name == "runtime.NumGoroutine") = false := by kernel_rfl
theorem nm249 : (Tryz.f249.name == "runtime.NumGoroutine") = false := by kernel_rfl
theorem nm250 : (Tryz.f250.name == "runtime.NumGoroutine") = false := by kernel_rfl
theorem nm251 : (Tryz.f251.name == "runtime.NumGoroutine") = false := by kernel_rfl
theorem nm252 : (Tryz.f252.name == "runtime.NumGoroutine") = false := by kernel_rfl
theorem nm253 : (Tryz.f253.name == "runtime.NumGoroutine") = false := by kernel_rfl
theorem nm254 : (Tryz.f254.name == "runtime.NumGoroutine") = false := by kernel_rfl
theorem nm255 : (Tryz.f255.name == "runtime.NumGoroutine") = false := by kernel_rfl
theorem nm256 : (Tryz.f256.name == "runtime.NumGoroutine") = false := by kernel_rfl
theorem nm257 : (Tryz.f257.name == "runtime.NumGoroutine") = false := by kernel_rfl
theorem nm258 : (Tryz.f258.name == "runtime.NumGoroutine") = false := by kernel_rfl
theorem nm259 : (Tryz.f259.name == "runtime.NumGoroutine") = false := by kernel_rfl
theorem nm260 : (Tryz.f260.name == "runtime.NumGoroutine") = false := by kernel_rfl
theorem nm261 : (Tryz.f261.name == "runtime.NumGoroutine") = false := by kernel_rfl
theorem nm262 : (Tryz.f262.name == "runtime.NumGoroutine") = false := by kernel_rfl
theorem nm263 : (Tryz.f263.name == "runtime.NumGoroutine") = false := by kernel_rfl
theorem nm264 : (Tryz.f264.name == "runtime.NumGoroutine") = false := by kernel_rfl
theorem nm265 : (Tryz.f265.name == "runtime.NumGoroutine") = false := by kernel_rfl
theorem nm266 : (Tryz.f266.name == "runtime.NumGoroutine") = false := by kernel_rfl
theorem nm267 : (Tryz.f267.name == "runtime.NumGoroutine") = false := by kernel_rfl
theorem nm268 : (Tryz.f268.name == "runtime.NumGoroutine") = false := by kernel_rfl
theorem nm269 : (Tryz.f269.name == "runtime.NumGoroutine") = false := by kernel_rfl
theorem nm270 : (Tryz.f270.name == "runtime.NumGoroutine") = false := by kernel_rfl
theorem nm271 : (Tryz.f271.name == "runtime.NumGoroutine") = false := by kernel_rfl
theorem nm272 : (Tryz.f272.name == "runtime.NumGoroutine") = false := by kernel_rfl
theorem nm273 : (Tryz.f273.name == "runtime.NumGoroutine") = false := by kernel_rfl
theorem nm274 : (Tryz.f274.name == "runtime.NumGoroutine") = false := by kernel_rfl
theorem nm275 : (Tryz.f275.name == "runtime.NumGoroutine") = false := by kernel_rfl
theorem nm276 : (Tryz.f276.name == "runtime.NumGoroutine") = false := by kernel_rfl
theorem nm277 : (Tryz.f277.name == "runtime.NumGoroutine") = false := by kernel_rfl
theorem nm278 : (Tryz.f278.name == "runtime.NumGoroutine") = false := by kernel_rfl
theorem nm279 : (Tryz.f279.name == "runtime.NumGoroutine") = false := by kernel_rfl
theorem nm280 : (Tryz.f280.name == "runtime.NumGoroutine") = false := by kernel_rfl
theorem nm281 : (Tryz.f281.name == "runtime.NumGoroutine") = false := by kernel_rfl
theorem nm282 : (Tryz.f282.name == "runtime.NumGoroutine") = false := by kernel_rfl
theorem nm283 : (Tryz.f283.name == "runtime.NumGoroutine") = false := by kernel_rfl
theorem nm284 : (Tryz.f284.name == "runtime.NumGoroutine") = false := by kernel_rfl
theorem nm285 : (Tryz.f285.name == "runtime.NumGoroutine") = false := by kernel_rfl
theorem nm286 : (Tryz.f286.name == "runtime.NumGoroutine") = false := by kernel_rfl
theorem nm287 : (Tryz.f287.name == "runtime.NumGoroutine") = false := by kernel_rfl
theorem nm288 : (Tryz.f288.name == "runtime.NumGoroutine") = false := by kernel_rfl
theorem nm289 : (Tryz.f289.name == "runtime.NumGoroutine") = false := by kernel_rfl
theorem nm290 : (Tryz.f290.name == "runtime.NumGoroutine") = false := by kernel_rfl
theorem nm291 : (Tryz.f291.name == "runtime.NumGoroutine") = false := by kernel_rfl
theorem nm292 : (Tryz.f292.name == "runtime.NumGoroutine") = false := by kernel_rfl
theorem nm293 : (Tryz.f293.name == "runtime.NumGoroutine") = false := by kernel_rfl
theorem nm294 : (Tryz.f294.name == "runtime.NumGoroutine") = false := by kernel_rfl
theorem nm295 : (Tryz.f295.name == "runtime.NumGoroutine") = false := by kernel_rfl
theorem nm296 : (Tryz.f296.name == "runtime.NumGoroutine") = false := by kernel_rfl
theorem nm297 : (Tryz.f297.name == "runtime.NumGoroutine") = false := by kernel_rfl
theorem nm298 : (Tryz.f298.name == "runtime.NumGoroutine") = false := by kernel_rfl
theorem nm299 : (Tryz.f299.name == "runtime.NumGoroutine") = false := by kernel_rfl
theorem nm300 : (Tryz.f300.name == "runtime.NumGoroutine") = false := by kernel_rfl
theorem nm301 : (Tryz.f301.name == "runtime.NumGoroutine") = false := by kernel_rfl
theorem nm302 : (Tryz.f302.name == "runtime.NumGoroutine") = false := by kernel_rfl
theorem nm303 : (Tryz.f303.name == "runtime.NumGoroutine") = false := by kernel_rfl
theorem nm304 : (Tryz.f304.name == "runtime.NumGoroutine") = false := by kernel_rfl
theorem nm305 : (Tryz.f305.name == "runtime.NumGoroutine") = false := by kernel_rfl
theorem nm306 : (Tryz.f306.name == "runtime.NumGoroutine") = false := by kernel_rfl
theorem nm307 : (Tryz.f307.name == "runtime.NumGoroutine") = false := by kernel_rfl
theorem nm308 : (Tryz.f308.name == "runtime.NumGoroutine") = false := by kernel_rfl
theorem nm309 : (Tryz.f309.name == "runtime.NumGoroutine") = false := by kernel_rfl
theorem nm310 : (Tryz.f310.name == "runtime.NumGoroutine") = false := by kernel_rfl
theorem nm311 : (Tryz.f311.name == "runtime.NumGoroutine") = false := by kernel_rfl
theorem nm312 : (Tryz.f312.name == "runtime.NumGoroutine") = false := by kernel_rfl
theorem nm313 : (Tryz.f313.name == "runtime.NumGoroutine") = false := by kernel_rfl
theorem nm314 : (Tryz.f314.name == "runtime.NumGoroutine") = false := by kernel_rfl
theorem nm315 : (Tryz.f315.name == "runtime.NumGoroutine") = false := by kernel_rfl
theorem nm316 : (Tryz.f316.name == "runtime.NumGoroutine") = false := by kernel_rfl
theorem nm317 : (Tryz.f317.name == "runtime.NumGoroutine") = false := by kernel_rfl
theorem nm318 : (Tryz.f318.name == "runtime.NumGoroutine") = false := by kernel_rfl
theorem nm319 : (Tryz.f319.name == "runtime.NumGoroutine") = false := by kernel_rfl
theorem nm320 : (Tryz.f320.name == "runtime.NumGoroutine") = false := by kernel_rfl
theorem nm321 : (Tryz.f321.name == "runtime.NumGoroutine") = false := by kernel_rfl
theorem nm322 : (Tryz.f322.name == "runtime.NumGoroutine") = false := by kernel_rfl
theorem nm323 : (Tryz.f323.name == "runtime.NumGoroutine") = false := by kernel_rfl
theorem nm324 : (Tryz.f324.name == "runtime.NumGoroutine") = false := by kernel_rfl
theorem nm325 : (Tryz.f325.name == "runtime.NumGoroutine") = false := by kernel_rfl
theorem nm326 : (Tryz.f326.name == "runtime.NumGoroutine") = false := by kernel_rfl
theorem nm327 : (Tryz.f327.name == "runtime.NumGoroutine") = false := by kernel_rfl
theorem nm328 : (Tryz.f328.name == "runtime.NumGoroutine") = false := by kernel_rfl
theorem nm329 : (Tryz.f329.name == "runtime.NumGoroutine") = false := by kernel_rfl
theorem nm330 : (Tryz.f330.name == "runtime.NumGoroutine") = false := by kernel_rfl
theorem nm331 : (Tryz.f331.name == "runtime.NumGoroutine") = false := by kernel_rfl
theorem nm332 : (Tryz.f332.name == "runtime.NumGoroutine") = false := by kernel_rfl
theorem nm333 : (Tryz.f333.name == "runtime.NumGoroutine") = false := by kernel_rfl
theorem nm334 : (Tryz.f334.name == "runtime.NumGoroutine") = false := by kernel_rfl
theorem nm335 : (Tryz.f335.name == "runtime.NumGoroutine") = false := by kernel_rfl
theorem nm336 : (Tryz.f336.name == "runtime.NumGoroutine") = false := by kernel_rfl
theorem nm337 : (Tryz.f337.name == "runtime.NumGoroutine") = false := by kernel_rfl
theorem nm338 : (Tryz.f338.name == "runtime.NumGoroutine") = false := by kernel_rfl
theorem nm339 : (Tryz.f339.name == "runtime.NumGoroutine") = false := by kernel_rfl
theorem nm340 : (Tryz.f340.name == "runtime.NumGoroutine") = false := by kernel_rfl
theorem nm341 : (Tryz.f341.name == "runtime.NumGoroutine") = false := by kernel_rfl
theorem nm342 : (Tryz.f342.name == "runtime.NumGoroutine") = false := by kernel_rfl
theorem nm343 : (Tryz.f343.name == "runtime.NumGoroutine") = false := by kernel_rfl
theorem nm344 : (Tryz.f344.name == "runtime.NumGoroutine") = false := by kernel_rfl
theorem nm345 : (Tryz.f345.name == "runtime.NumGoroutine") = false := by kernel_rfl
theorem nm346 : (Tryz.f346.name == "runtime.NumGoroutine") = false := by kernel_rfl
theorem nm347 : (Tryz.f347.name == "runtime.NumGoroutine") = false := by kernel_rfl
theorem nm348 : (Tryz.f348.name == "runtime.NumGoroutine") = false := by kernel_rfl
theorem nm349 : (Tryz.f349.name == "runtime.NumGoroutine") = false := by kernel_rfl
theorem nm350 : (Tryz.f350.name == "runtime.NumGoroutine") = false := by kernel_rfl
theorem nm351 : (Tryz.f351.name == "runtime.NumGoroutine") = false := by kernel_rfl
theorem nm352 : (Tryz.f352.name == "runtime.NumGoroutine") = false := by kernel_rfl
theorem nm353 : (Tryz.f353.name == "runtime.NumGoroutine") = false := by kernel_rfl
theorem nm354 : (Tryz.f354.name == "runtime.NumGoroutine") = false := by kernel_rfl
theorem nm355 : (Tryz.f355.name == "runtime.NumGoroutine") = false := by kernel_rfl
theorem nm356 : (Tryz.f356.name == "runtime.NumGoroutine") = false := by kernel_rfl
theorem nm357 : (Tryz.f357.name == "runtime.NumGoroutine") = false := by kernel_rfl
theorem nm358 : (Tryz.f358.name == "runtime.NumGoroutine") = false := by kernel_rfl
theorem nm359 : (Tryz.f359.name == "runtime.NumGoroutine") = false := by kernel_rfl
theorem nm360 : (Tryz.f360.name == "runtime.NumGoroutine") = false := by kernel_rfl
theorem nm361 : (Tryz.f361.name == "runtime.NumGoroutine") = false := by kernel_rfl
theorem nm362 : (Tryz.f362.name == "runtime.NumGoroutine") = false := by kernel_rfl
theorem nm363 : (Tryz.f363.name == "runtime.NumGoroutine") = false := by kernel_rfl
theorem nm364 : (Tryz.f364.name == "runtime.NumGoroutine") = false := by kernel_rfl
theorem nm365 : (Tryz.f365.name == "runtime.NumGoroutine") = false := by kernel_rfl
theorem nm366 : (Tryz.f366.name == "runtime.NumGoroutine") = false := by kernel_rfl
theorem nm367 : (Tryz.f367.name == "runtime.NumGoroutine") = false := by kernel_rfl
theorem nm368 : (Tryz.f368.name == "runtime.NumGoroutine") = false := by kernel_rfl
theorem nm369 : (Tryz.f369.name == "runtime.NumGoroutine") = false := by kernel_rfl
theorem nm370 : (Tryz.f370.name == "runtime.NumGoroutine") = false := by kernel_rfl
theorem nm371 : (Tryz.f371.name == "runtime.NumGoroutine") = false := by kernel_rfl
theorem nm372 : (Tryz.f372.name == "runtime.NumGoroutine") = false := by kernel_rfl
theorem nm373 : (Tryz.f373.name == "runtime.NumGoroutine") = false := by kernel_rfl
theorem nm374 : (Tryz.f374.name == "runtime.NumGoroutine") = false := by kernel_rfl
theorem nm375 : (Tryz.f375.name == "runtime.NumGoroutine") = false := by kernel_rfl
theorem nm376 : (Tryz.f376.name == "runtime.NumGoroutine") = false := by kernel_rfl
theorem nm377 : (Tryz.f377.name == "runtime.NumGoroutine") = false := by kernel_rfl
theorem nm378 : (Tryz.f378.name == "runtime.NumGoroutine") = false := by kernel_rfl
theorem nm379 : (Tryz.f379.name == "runtime.NumGoroutine") = false := by kernel_rfl
theorem nm380 : (Tryz.f380.name == "runtime.NumGoroutine") = false := by kernel_rfl
theorem nm381 : (Tryz.f381.name == "runtime.NumGoroutine") = false := by kernel_rfl
theorem nm382 : (Tryz.f382.name == "runtime.NumGoroutine") = false := by kernel_rfl
theorem nm383 : (Tryz.f383.name == "runtime.NumGoroutine") = false := by kernel_rfl
theorem nm384 : (Tryz.f384.name == "runtime.NumGoroutine") = false := by kernel_rfl
theorem nm385 : (Tryz.f385.name == "runtime.NumGoroutine") = false := by kernel_rfl
theorem nm386 : (Tryz.f386.name == "runtime.NumGoroutine") = false := by kernel_rfl
theorem nm387 : (Tryz.f387.name == "runtime.NumGoroutine") = false := by kernel_rfl
theorem nm388 : (Tryz.f388.name == "runtime.NumGoroutine") = false := by kernel_rfl
theorem nm389 : (Tryz.f389.name == "runtime.NumGoroutine") = false := by kernel_rfl
theorem nm390 : (Tryz.f390.name == "runtime.NumGoroutine") = false := by kernel_rfl
theorem nm391 : (Tryz.f391.name == "runtime.NumGoroutine") = false := by kernel_rfl
theorem nm392 : (Tryz.f392.name == "runtime.NumGoroutine") = false := by kernel_rfl
theorem nm393 : (Tryz.f393.name == "runtime.NumGoroutine") = false := by kernel_rfl
theorem nm394 : (Tryz.f394.name == "runtime.NumGoroutine") = false := by kernel_rfl
theorem nm395 : (Tryz.f395.name == "runtime.NumGoroutine") = false := by kernel_rfl
theorem nm396 : (Tryz.f396.name == "runtime.NumGoroutine") = false := by kernel_rfl
theorem nm397 : (Tryz.f397.name == "runtime.NumGoroutine") = false := by kernel_rfl
theorem nm398 : (Tryz.f398.name == "runtime.NumGoroutine") = false := by kernel_rfl
theorem nm399 : (Tryz.f399.name == "runtime.NumGoroutine") = false := by kernel_rfl
theorem nm400 : (Tryz.f400.name == "runtime.NumGoroutine") = false := by kernel_rfl
theorem nm401 : (Tryz.f401.name == "runtime.NumGoroutine") = false := by kernel_rfl
theorem nm402 : (Tryz.f402.name == "runtime.NumGoroutine") = false := by kernel_rfl
theorem nm403 : (Tryz.f403.name == "runtime.NumGoroutine") = false := by kernel_rfl
theorem nm404 : (Tryz.f404.name == "runtime.NumGoroutine") = false := by kernel_rfl
theorem nm405 : (Tryz.f405.name == "runtime.NumGoroutine") = false := by kernel_rfl
theorem nm406 : (Tryz.f406.name == "runtime.NumGoroutine") = false := by kernel_rfl
theorem nm407 : (Tryz.f407.name == "runtime.NumGoroutine") = false := by kernel_rfl
theorem nm408 : (Tryz.f408.name == "runtime.NumGoroutine") = false := by kernel_rfl
theorem nm409 : (Tryz.f409.name == "runtime.NumGoroutine") = false := by kernel_rfl
theorem nm410 : (Tryz.f410.name == "runtime.NumGoroutine") = false := by kernel_rfl
theorem nm411 : (Tryz.f411.name == "runtime.NumGoroutine") = false := by kernel_rfl
theorem nm412 : (Tryz.f412.name == "runtime.NumGoroutine") = false := by kernel_rfl
theorem nm413 : (Tryz.f413.name == "runtime.NumGoroutine") = false := by kernel_rfl
theorem nm414 : (Tryz.f414.name == "runtime.NumGoroutine") = false := by kernel_rfl
theorem nm415 : (Tryz.f415.name == "runtime.NumGoroutine") = false := by kernel_rfl
theorem nm416 : (Tryz.f416.name == "runtime.NumGoroutine") = false := by kernel_rfl
theorem nm417 : (Tryz.f417.name == "runtime.NumGoroutine") = false := by kernel_rfl
theorem nm418 : (Tryz.f418.name == "runtime.NumGoroutine") = false := by kernel_rfl
theorem nm419 : (Tryz.f419.name == "runtime.NumGoroutine") = false := by kernel_rfl
theorem nm420 : (Tryz.f420.name == "runtime.NumGoroutine") = false := by kernel_rfl
theorem nm421 : (Tryz.f421.name == "runtime.NumGoroutine") = false := by kernel_rfl
theorem nm422 : (Tryz.f422.name == "runtime.NumGoroutine") = false := by kernel_rfl
theorem nm423 : (Tryz.f423.name == "runtime.NumGoroutine") = false := by kernel_rfl
theorem nm424 : (Tryz.f424.name == "runtime.NumGoroutine") = false := by kernel_rfl
theorem nm425 : (Tryz.f425.name == "runtime.NumGoroutine") = false := by kernel_rfl
theorem nm426 : (Tryz.f426.name == "runtime.NumGoroutine") = false := by kernel_rfl
theorem nm427 : (Tryz.f427.name == "runtime.NumGoroutine") = false := by kernel_rfl
theorem nm428 : (Tryz.f428.name == "runtime.NumGoroutine") = false := by kernel_rfl
theorem nm429 : (Tryz.f429.name == "runtime.NumGoroutine") = false := by kernel_rfl
theorem nm430 : (Tryz.f430.name == "runtime.NumGoroutine") = false := by kernel_rfl
theorem nm431 : (Tryz.f431.name == "runtime.NumGoroutine") = false := by kernel_rfl
theorem nm432 : (Tryz.f432.name == "runtime.NumGoroutine") = false := by kernel_rfl
theorem nm433 : (Tryz.f433.name == "runtime.NumGoroutine") = false := by kernel_rfl
theorem nm434 : (Tryz.f434.name == "runtime.NumGoroutine") = false := by kernel_rfl
theorem nm435 : (Tryz.f435.name == "runtime.NumGoroutine") = false := by kernel_rfl
theorem nm436 : (Tryz.f436.name == "runtime.NumGoroutine") = false := by kernel_rfl
theorem nm437 : (Tryz.f437.name == "runtime.NumGoroutine") = false := by kernel_rfl
theorem nm438 : (Tryz.f438.name == "runtime.NumGoroutine") = false := by kernel_rfl
theorem nm439 : (Tryz.f439.name == "runtime.NumGoroutine") = false := by kernel_rfl
theorem nm440 : (Tryz.f440.name == "runtime.NumGoroutine") = false := by kernel_rfl
theorem nm441 : (Tryz.f441.name == "runtime.NumGoroutine") = false := by kernel_rfl
theorem nm442 : (Tryz.f442.name == "runtime.NumGoroutine") = false := by kernel_rfl
theorem nm443 : (Tryz.f443.name == "runtime.NumGoroutine") = false := by kernel_rfl
theorem nm444 : (Tryz.f444.name == "runtime.NumGoroutine") = false := by kernel_rfl
theorem nm445 : (Tryz.f445.name == "runtime.NumGoroutine") = false := by kernel_rfl
theorem nm446 : (Tryz.f446.name == "runtime.NumGoroutine") = false := by kernel_rfl
theorem nm447 : (Tryz.f447.name == "runtime.NumGoroutine") = false := by kernel_rfl
theorem nm448 : (Tryz.f448.name == "runtime.NumGoroutine") = false := by kernel_rfl
theorem nm449 : (Tryz.f449.name == "runtime.NumGoroutine") = false := by kernel_rfl
theorem nm450 : (Tryz.f450.name == "runtime.NumGoroutine") = false := by kernel_rfl
theorem nm451 : (Tryz.f451.name == "runtime.NumGoroutine") = false := by kernel_rfl
theorem nm452 : (Tryz.f452.name == "runtime.NumGoroutine") = false := by kernel_rfl
theorem nm453 : (Tryz.f453.name == "runtime.NumGoroutine") = false := by kernel_rfl
noncomputable def ft : Tr Func := (.node (.node (.node (.node (.node (.node (.node (.node (.node .nil 0 Tryz.f0 .nil) 1 Tryz.f1 (.node .nil 2 Tryz.f2 .nil)) 3 Tryz.f3 (.node (.node .nil 4 Tryz.f4 .nil) 5 Tryz.f5 (.node .nil 6 Tryz.f6 .nil))) 7 Tryz.f7 (.node (.node (.node .nil 8 Tryz.f8 .nil) 9 Tryz.f9 (.node .nil 10 Tryz.f10 .nil)) 11 Tryz.f11 (.node (.node .nil 12 Tryz.f12 .nil) 13 Tryz.f13 .nil))) 14 Tryz.f14 (.node (.node (.node (.node .nil 15 Tryz.f15 .nil) 16 Tryz.f16 (.node .nil 17 Tryz.f17 .nil)) 18 Tryz.f18 (.node (.node .nil 19 Tryz.f19 .nil) 20 Tryz.f20 .nil)) 21 Tryz.f21 (.node (.node (.node .nil 22 Tryz.f22 .nil) 23 Tryz.f23 (.node .nil 24 Tryz.f24 .nil)) 25 Tryz.f25 (.node (.node .nil 26 Tryz.f26 .nil) 27 Tryz.f27 .nil)))) 28 Tryz.f28 (.node (.node (.node (.node (.node .nil 29 Tryz.f29 .nil) 30 Tryz.f30 (.node .nil 31 Tryz.f31 .nil)) 32 Tryz.f32 (.node (.node .nil 33 Tryz.f33 .nil) 34 Tryz.f34 .nil)) 35 Tryz.f35 (.node (.node (.node .nil 36 Tryz.f36 .nil) 37 Tryz.f37 (.node .nil 38 Tryz.f38 .nil)) 39 Tryz.f39 (.node (.node .nil 40 Tryz.f40 .nil) 41 Tryz.f41 .nil))) 42 Tryz.f42 (.node (.node (.node (.node .nil 43 Tryz.f43 .nil) 44 Tryz.f44 (.node .nil 45 Tryz.f45 .nil)) 46 Tryz.f46 (.node (.node .nil 47 Tryz.f47 .nil) 48 Tryz.f48 .nil)) 49 Tryz.f49 (.node (.node (.node .nil 50 Tryz.f50 .nil) 51 Tryz.f51 (.node .nil 52 Tryz.f52 .nil)) 53 Tryz.f53 (.node (.node .nil 54 Tryz.f54 .nil) 55 Tryz.f55 .nil))))) 56 Tryz.f56 (.node (.node (.node (.node (.node (.node .nil 57 Tryz.f57 .nil) 58 Tryz.f58 (.node .nil 59 Tryz.f59 .nil)) 60 Tryz.f60 (.node (.node .nil 61 Tryz.f61 .nil) 62 Tryz.f62 (.node .nil 63 Tryz.f63 .nil))) 64 Tryz.f64 (.node (.node (.node .nil 65 Tryz.f65 .nil) 66 Tryz.f66 (.node .nil 67 Tryz.f67 .nil)) 68 Tryz.f68 (.node (.node .nil 69 Tryz.f69 .nil) 70 Tryz.f70 .nil))) 71 Tryz.f71 (.node (.node (.node (.node .nil 72 Tryz.f72 .nil) 73 Tryz.f73 (.node .nil 74 Tryz.f74 .nil)) 75 Tryz.f75 (.node (.node .nil 76 Tryz.f76 .nil) 77 Tryz.f77 .nil)) 78 Tryz.f78 (.node (.node (.node .nil 79 Tryz.f79 .nil) 80 Tryz.f80 (.node .nil 81 Tryz.f81 .nil)) 82 Tryz.f82 (.node (.node .nil 83 Tryz.f83 .nil) 84 Tryz.f84 .nil)))) 85 Tryz.f85 (.node (.node (.node (.node (.node .nil 86 Tryz.f86 .nil) 87 Tryz.f87 (.node .nil 88 Tryz.f88 .nil)) 89 Tryz.f89 (.node (.node .nil 90 Tryz.f90 .nil) 91 Tryz.f91 .nil)) 92 Tryz.f92 (.node (.node (.node .nil 93 Tryz.f93 .nil) 94 Tryz.f94 (.node .nil 95 Tryz.f95 .nil)) 96 Tryz.f96 (.node (.node .nil 97 Tryz.f97 .nil) 98 Tryz.f98 .nil))) 99 Tryz.f99 (.node (.node (.node (.node .nil 100 Tryz.f100 .nil) 101 Tryz.f101 (.node .nil 102 Tryz.f102 .nil)) 103 Tryz.f103 (.node (.node .nil 104 Tryz.f104 .nil) 105 Tryz.f105 .nil)) 106 Tryz.f106 (.node (.node (.node .nil 107 Tryz.f107 .nil) 108 Tryz.f108 (.node .nil 109 Tryz.f109 .nil)) 110 Tryz.f110 (.node (.node .nil 111 Tryz.f111 .nil) 112 Tryz.f112 .nil)))))) 113 Tryz.f113 (.node (.node (.node (.node (.node (.node (.node .nil 114 Tryz.f114 .nil) 115 Tryz.f115 (.node .nil 116 Tryz.f116 .nil)) 117 Tryz.f117 (.node (.node .nil 118 Tryz.f118 .nil) 119 Tryz.f119 (.node .nil 120 Tryz.f120 .nil))) 121 Tryz.f121 (.node (.node (.node .nil 122 Tryz.f122 .nil) 123 Tryz.f123 (.node .nil 124 Tryz.f124 .nil)) 125 Tryz.f125 (.node (.node .nil 126 Tryz.f126 .nil) 127 Tryz.f127 .nil))) 128 Tryz.f128 (.node (.node (.node (.node .nil 129 Tryz.f129 .nil) 130 Tryz.f130 (.node .nil 131 Tryz.f131 .nil)) 132 Tryz.f132 (.node (.node .nil 133 Tryz.f133 .nil) 134 Tryz.f134 .nil)) 135 Tryz.f135 (.node (.node (.node .nil 136 Tryz.f136 .nil) 137 Tryz.f137 (.node .nil 138 Tryz.f138 .nil)) 139 Tryz.f139 (.node (.node .nil 140 Tryz.f140 .nil) 141 Tryz.f141 .nil)))) 142 Tryz.f142 (.node (.node (.node (.node (.node .nil 143 Tryz.f143 .nil) 144 Tryz.f144 (.node .nil 145 Tryz.f145 .nil)) 146 Tryz.f146 (.node (.node .nil 147 Tryz.f147 .nil) 148 Tryz.f148 .nil)) 149 Tryz.f149 (.node (.node (.node .nil 150 Tryz.f150 .nil) 151 Tryz.f151 (.node .nil 152 Tryz.f152 .nil)) 153 Tryz.f153 (.node (.node .nil 154 Tryz.f154 .nil) 155 Tryz.f155 .nil))) 156 Tryz.f156 (.node (.node (.node (.node .nil 157 Tryz.f157 .nil) 158 Tryz.f158 (.node .nil 159 Tryz.f159 .nil)) 160 Tryz.f160 (.node (.node .nil 161 Tryz.f161 .nil) 162 Tryz.f162 .nil)) 163 Tryz.f163 (.node (.node (.node .nil 164 Tryz.f164 .nil) 165 Tryz.f165 (.node .nil 166 Tryz.f166 .nil)) 167 Tryz.f167 (.node (.node .nil 168 Tryz.f168 .nil) 169 Tryz.f169 .nil))))) 170 Tryz.f170 (.node (.node (.node (.node (.node (.node .nil 171 Tryz.f171 .nil) 172 Tryz.f172 (.node .nil 173 Tryz.f173 .nil)) 174 Tryz.f174 (.node (.node .nil 175 Tryz.f175 .nil) 176 Tryz.f176 (.node .nil 177 Tryz.f177 .nil))) 178 Tryz.f178 (.node (.node (.node .nil 179 Tryz.f179 .nil) 180 Tryz.f180 (.node .nil 181 Tryz.f181 .nil)) 182 Tryz.f182 (.node (.node .nil 183 Tryz.f183 .nil) 184 Tryz.f184 .nil))) 185 Tryz.f185 (.node (.node (.node (.node .nil 186 Tryz.f186 .nil) 187 Tryz.f187 (.node .nil 188 Tryz.f188 .nil)) 189 Tryz.f189 (.node (.node .nil 190 Tryz.f190 .nil) 191 Tryz.f191 .nil)) 192 Tryz.f192 (.node (.node (.node .nil 193 Tryz.f193 .nil) 194 Tryz.f194 (.node .nil 195 Tryz.f195 .nil)) 196 Tryz.f196 (.node (.node .nil 197 Tryz.f197 .nil) 198 Tryz.f198 .nil)))) 199 Tryz.f199 (.node (.node (.node (.node (.node .nil 200 Tryz.f200 .nil) 201 Tryz.f201 (.node .nil 202 Tryz.f202 .nil)) 203 Tryz.f203 (.node (.node .nil 204 Tryz.f204 .nil) 205 Tryz.f205 .nil)) 206 Tryz.f206 (.node (.node (.node .nil 207 Tryz.f207 .nil) 208 Tryz.f208 (.node .nil 209 Tryz.f209 .nil)) 210 Tryz.f210 (.node (.node .nil 211 Tryz.f211 .nil) 212 Tryz.f212 .nil))) 213 Tryz.f213 (.node (.node (.node (.node .nil 214 Tryz.f214 .nil) 215 Tryz.f215 (.node .nil 216 Tryz.f216 .nil)) 217 Tryz.f217 (.node (.node .nil 218 Tryz.f218 .nil) 219 Tryz.f219 .nil)) 220 Tryz.f220 (.node (.node (.node .nil 221 Tryz.f221 .nil) 222 Tryz.f222 (.node .nil 223 Tryz.f223 .nil)) 224 Tryz.f224 (.node (.node .nil 225 Tryz.f225 .nil) 226 Tryz.f226 .nil))))))) 227 Tryz.f227 (.node (.node (.node (.node (.node (.node (.node (.node .nil 228 Tryz.f228 .nil) 229 Tryz.f229 (.node .nil 230 Tryz.f230 .nil)) 231 Tryz.f231 (.node (.node .nil 232 Tryz.f232 .nil) 233 Tryz.f233 (.node .nil 234 Tryz.f234 .nil))) 235 Tryz.f235 (.node (.node (.node .nil 236 Tryz.f236 .nil) 237 Tryz.f237 (.node .nil 238 Tryz.f238 .nil)) 239 Tryz.f239 (.node (.node .nil 240 Tryz.f240 .nil) 241 Tryz.f241 .nil))) 242 Tryz.f242 (.node (.node (.node (.node .nil 243 Tryz.f243 .nil) 244 Tryz.f244 (.node .nil 245 Tryz.f245 .nil)) 246 Tryz.f246 (.node (.node .nil 247 Tryz.f247 .nil) 248 Tryz.f248 .nil)) 249 Tryz.f249 (.node (.node (.node .nil 250 Tryz.f250 .nil) 251 Tryz.f251 (.node .nil 252 Tryz.f252 .nil)) 253 Tryz.f253 (.node (.node .nil 254 Tryz.f254 .nil) 255 Tryz.f255 .nil)))) 256 Tryz.f256 (.node (.node (.node (.node (.node .nil 257 Tryz.f257 .nil) 258 Tryz.f258 (.node .nil 259 Tryz.f259 .nil)) 260 Tryz.f260 (.node (.node .nil 261 Tryz.f261 .nil) 262 Tryz.f262 .nil)) 263 Tryz.f263 (.node (.node (.node .nil 264 Tryz.f264 .nil) 265 Tryz.f265 (.node .nil 266 Tryz.f266 .nil)) 267 Tryz.f267 (.node (.node .nil 268 Tryz.f268 .nil) 269 Tryz.f269 .nil))) 270 Tryz.f270 (.node (.node (.node (.node .nil 271 Tryz.f271 .nil) 272 Tryz.f272 (.node .nil 273 Tryz.f273 .nil)) 274 Tryz.f274 (.node (.node .nil 275 Tryz.f275 .nil) 276 Tryz.f276 .nil)) 277 Tryz.f277 (.node (.node (.node .nil 278 Tryz.f278 .nil) 279 Tryz.f279 (.node .nil 280 Tryz.f280 .nil)) 281 Tryz.f281 (.node (.node .nil 282 Tryz.f282 .nil) 283 Tryz.f283 .nil))))) 284 Tryz.f284 (.node (.node (.node (.node (.node (.node .nil 285 Tryz.f285 .nil) 286 Tryz.f286 (.node .nil 287 Tryz.f287 .nil)) 288 Tryz.f288 (.node (.node .nil 289 Tryz.f289 .nil) 290 Tryz.f290 (.node .nil 291 Tryz.f291 .nil))) 292 Tryz.f292 (.node (.node (.node .nil 293 Tryz.f293 .nil) 294 Tryz.f294 (.node .nil 295 Tryz.f295 .nil)) 296 Tryz.f296 (.node (.node .nil 297 Tryz.f297 .nil) 298 Tryz.f298 .nil))) 299 Tryz.f299 (.node (.node (.node (.node .nil 300 Tryz.f300 .nil) 301 Tryz.f301 (.node .nil 302 Tryz.f302 .nil)) 303 Tryz.f303 (.node (.node .nil 304 Tryz.f304 .nil) 305 Tryz.f305 .nil)) 306 Tryz.f306 (.node (.node (.node .nil 307 Tryz.f307 .nil) 308 Tryz.f308 (.node .nil 309 Tryz.f309 .nil)) 310 Tryz.f310 (.node (.node .nil 311 Tryz.f311 .nil) 312 Tryz.f312 .nil)))) 313 Tryz.f313 (.node (.node (.node (.node (.node .nil 314 Tryz.f314 .nil) 315 Tryz.f315 (.node .nil 316 Tryz.f316 .nil)) 317 Tryz.f317 (.node (.node .nil 318 Tryz.f318 .nil) 319 Tryz.f319 .nil)) 320 Tryz.f320 (.node (.node (.node .nil 321 Tryz.f321 .nil) 322 Tryz.f322 (.node .nil 323 Tryz.f323 .nil)) 324 Tryz.f324 (.node (.node .nil 325 Tryz.f325 .nil) 326 Tryz.f326 .nil))) 327 Tryz.f327 (.node (.node (.node (.node .nil 328 Tryz.f328 .nil) 329 Tryz.f329 (.node .nil 330 Tryz.f330 .nil)) 331 Tryz.f331 (.node (.node .nil 332 Tryz.f332 .nil) 333 Tryz.f333 .nil)) 334 Tryz.f334 (.node (.node (.node .nil 335 Tryz.f335 .nil) 336 Tryz.f336 (.node .nil 337 Tryz.f337 .nil)) 338 Tryz.f338 (.node (.node .nil 339 Tryz.f339 .nil) 340 Tryz.f340 .nil)))))) 341 Tryz.f341 (.node (.node (.node (.node (.node (.node (.node .nil 342 Tryz.f342 .nil) 343 Tryz.f343 (.node .nil 344 Tryz.f344 .nil)) 345 Tryz.f345 (.node (.node .nil 346 Tryz.f346 .nil) 347 Tryz.f347 (.node .nil 348 Tryz.f348 .nil))) 349 Tryz.f349 (.node (.node (.node .nil 350 Tryz.f350 .nil) 351 Tryz.f351 (.node .nil 352 Tryz.f352 .nil)) 353 Tryz.f353 (.node (.node .nil 354 Tryz.f354 .nil) 355 Tryz.f355 .nil))) 356 Tryz.f356 (.node (.node (.node (.node .nil 357 Tryz.f357 .nil) 358 Tryz.f358 (.node .nil 359 Tryz.f359 .nil)) 360 Tryz.f360 (.node (.node .nil 361 Tryz.f361 .nil) 362 Tryz.f362 .nil)) 363 Tryz.f363 (.node (.node (.node .nil 364 Tryz.f364 .nil) 365 Tryz.f365 (.node .nil 366 Tryz.f366 .nil)) 367 Tryz.f367 (.node (.node .nil 368 Tryz.f368 .nil) 369 Tryz.f369 .nil)))) 370 Tryz.f370 (.node (.node (.node (.node (.node .nil 371 Tryz.f371 .nil) 372 Tryz.f372 (.node .nil 373 Tryz.f373 .nil)) 374 Tryz.f374 (.node (.node .nil 375 Tryz.f375 .nil) 376 Tryz.f376 .nil)) 377 Tryz.f377 (.node (.node (.node .nil 378 Tryz.f378 .nil) 379 Tryz.f379 (.node .nil 380 Tryz.f380 .nil)) 381 Tryz.f381 (.node (.node .nil 382 Tryz.f382 .nil) 383 Tryz.f383 .nil))) 384 Tryz.f384 (.node (.node (.node (.node .nil 385 Tryz.f385 .nil) 386 Tryz.f386 (.node .nil 387 Tryz.f387 .nil)) 388 Tryz.f388 (.node (.node .nil 389 Tryz.f389 .nil) 390 Tryz.f390 .nil)) 391 Tryz.f391 (.node (.node (.node .nil 392 Tryz.f392 .nil) 393 Tryz.f393 (.node .nil 394 Tryz.f394 .nil)) 395 Tryz.f395 (.node (.node .nil 396 Tryz.f396 .nil) 397 Tryz.f397 .nil))))) 398 Tryz.f398 (.node (.node (.node (.node (.node (.node .nil 399 Tryz.f399 .nil) 400 Tryz.f400 (.node .nil 401 Tryz.f401 .nil)) 402 Tryz.f402 (.node (.node .nil 403 Tryz.f403 .nil) 404 Tryz.f404 .nil)) 405 Tryz.f405 (.node (.node (.node .nil 406 Tryz.f406 .nil) 407 Tryz.f407 (.node .nil 408 Tryz.f408 .nil)) 409 Tryz.f409 (.node (.node .nil 410 Tryz.f410 .nil) 411 Tryz.f411 .nil))) 412 Tryz.f412 (.node (.node (.node (.node .nil 413 Tryz.f413 .nil) 414 Tryz.f414 (.node .nil 415 Tryz.f415 .nil)) 416 Tryz.f416 (.node (.node .nil 417 Tryz.f417 .nil) 418 Tryz.f418 .nil)) 419 Tryz.f419 (.node (.node (.node .nil 420 Tryz.f420 .nil) 421 Tryz.f421 (.node .nil 422 Tryz.f422 .nil)) 423 Tryz.f423 (.node (.node .nil 424 Tryz.f424 .nil) 425 Tryz.f425 .nil)))) 426 Tryz.f426 (.node (.node (.node (.node (.node .nil 427 Tryz.f427 .nil) 428 Tryz.f428 (.node .nil 429 Tryz.f429 .nil)) 430 Tryz.f430 (.node (.node .nil 431 Tryz.f431 .nil) 432 Tryz.f432 .nil)) 433 Tryz.f433 (.node (.node (.node .nil 434 Tryz.f434 .nil) 435 Tryz.f435 (.node .nil 436 Tryz.f436 .nil)) 437 Tryz.f437 (.node (.node .nil 438 Tryz.f438 .nil) 439 Tryz.f439 .nil))) 440 Tryz.f440 (.node (.node (.node (.node .nil 441 Tryz.f441 .nil) 442 Tryz.f442 (.node .nil 443 Tryz.f443 .nil)) 444 Tryz.f444 (.node (.node .nil 445 Tryz.f445 .nil) 446 Tryz.f446 .nil)) 447 Tryz.f447 (.node (.node (.node .nil 448 Tryz.f448 .nil) 449 Tryz.f449 (.node .nil 450 Tryz.f450 .nil)) 451 Tryz.f451 (.node (.node .nil 452 Tryz.f452 .nil) 453 Tryz.f453 .nil))))))))
theorem ft_ok : FTOk Tryz.prog ft := (ft_node (ft_node (ft_node (ft_node (ft_node (ft_node (ft_node (ft_node (ft_node ft_nil ft_nil Tryz.func0 nm0) (ft_node ft_nil ft_nil Tryz.func2 nm2) Tryz.func1 nm1) (ft_node (ft_node ft_nil ft_nil Tryz.func4 nm4) (ft_node ft_nil ft_nil Tryz.func6 nm6) Tryz.func5 nm5) Tryz.func3 nm3) (ft_node (ft_node (ft_node ft_nil ft_nil Tryz.func8 nm8) (ft_node ft_nil ft_nil Tryz.func10 nm10) Tryz.func9 nm9) (ft_node (ft_node ft_nil ft_nil Tryz.func12 nm12) ft_nil Tryz.func13 nm13) Tryz.func11 nm11) Tryz.func7 nm7) (ft_node (ft_node (ft_node (ft_node ft_nil ft_nil Tryz.func15 nm15) (ft_node ft_nil ft_nil Tryz.func17 nm17) Tryz.func16 nm16) (ft_node (ft_node ft_nil ft_nil Tryz.func19 nm19) ft_nil Tryz.func20 nm20) Tryz.func18 nm18) (ft_node (ft_node (ft_node ft_nil ft_nil Tryz.func22 nm22) (ft_node ft_nil ft_nil Tryz.func24 nm24) Tryz.func23 nm23) (ft_node (ft_node ft_nil ft_nil Tryz.func26 nm26) ft_nil Tryz.func27 nm27) Tryz.func25 nm25) Tryz.func21 nm21) Tryz.func14 nm14) (ft_node (ft_node (ft_node (ft_node (ft_node ft_nil ft_nil Tryz.func29 nm29) (ft_node ft_nil ft_nil Tryz.func31 nm31) Tryz.func30 nm30) (ft_node (ft_node ft_nil ft_nil Tryz.func33 nm33) ft_nil Tryz.func34 nm34) Tryz.func32 nm32) (ft_node (ft_node (ft_node ft_nil ft_nil Tryz.func36 nm36) (ft_node ft_nil ft_nil Tryz.func38 nm38) Tryz.func37 nm37) (ft_node (ft_node ft_nil ft_nil Tryz.func40 nm40) ft_nil Tryz.func41 nm41) Tryz.func39 nm39) Tryz.func35 nm35) (ft_node (ft_node (ft_node (ft_node ft_nil ft_nil Tryz.func43 nm43) (ft_node ft_nil ft_nil Tryz.func45 nm45) Tryz.func44 nm44) (ft_node (ft_node ft_nil ft_nil Tryz.func47 nm47) ft_nil Tryz.func48 nm48) Tryz.func46 nm46) (ft_node (ft_node (ft_node ft_nil ft_nil Tryz.func50 nm50) (ft_node ft_nil ft_nil Tryz.func52 nm52) Tryz.func51 nm51) (ft_node (ft_node ft_nil ft_nil Tryz.func54 nm54) ft_nil Tryz.func55 nm55) Tryz.func53 nm53) Tryz.func49 nm49) Tryz.func42 nm42) Tryz.func28 nm28) (ft_node (ft_node (ft_node (ft_node (ft_node (ft_node ft_nil ft_nil Tryz.func57 nm57) (ft_node ft_nil ft_nil Tryz.func59 nm59) Tryz.func58 nm58) (ft_node (ft_node ft_nil ft_nil Tryz.func61 nm61) (ft_node ft_nil ft_nil Tryz.func63 nm63) Tryz.func62 nm62) Tryz.func60 nm60) (ft_node (ft_node (ft_node ft_nil ft_nil Tryz.func65 nm65) (ft_node ft_nil ft_nil Tryz.func67 nm67) Tryz.func66 nm66) (ft_node (ft_node ft_nil ft_nil Tryz.func69 nm69) ft_nil Tryz.func70 nm70) Tryz.func68 nm68) Tryz.func64 nm64) (ft_node (ft_node (ft_node (ft_node ft_nil ft_nil Tryz.func72 nm72) (ft_node ft_nil ft_nil Tryz.func74 nm74) Tryz.func73 nm73) (ft_node (ft_node ft_nil ft_nil Tryz.func76 nm76) ft_nil Tryz.func77 nm77) Tryz.func75 nm75) (ft_node (ft_node (ft_node ft_nil ft_nil Tryz.func79 nm79) (ft_node ft_nil ft_nil Tryz.func81 nm81) Tryz.func80 nm80) (ft_node (ft_node ft_nil ft_nil Tryz.func83 nm83) ft_nil Tryz.func84 nm84) Tryz.func82 nm82) Tryz.func78 nm78) Tryz.func71 nm71) (ft_node (ft_node (ft_node (ft_node (ft_node ft_nil ft_nil Tryz.func86 nm86) (ft_node ft_nil ft_nil Tryz.func88 nm88) Tryz.func87 nm87) (ft_node (ft_node ft_nil ft_nil Tryz.func90 nm90) ft_nil Tryz.func91 nm91) Tryz.func89 nm89) (ft_node (ft_node (ft_node ft_nil ft_nil Tryz.func93 nm93) (ft_node ft_nil ft_nil Tryz.func95 nm95) Tryz.func94 nm94) (ft_node (ft_node ft_nil ft_nil Tryz.func97 nm97) ft_nil Tryz.func98 nm98) Tryz.func96 nm96) Tryz.func92 nm92) (ft_node (ft_node (ft_node (ft_node ft_nil ft_nil Tryz.func100 nm100) (ft_node ft_nil ft_nil Tryz.func102 nm102) Tryz.func101 nm101) (ft_node (ft_node ft_nil ft_nil Tryz.func104 nm104) ft_nil Tryz.func105 nm105) Tryz.func103 nm103) (ft_node (ft_node (ft_node ft_nil ft_nil Tryz.func107 nm107) (ft_node ft_nil ft_nil Tryz.func109 nm109) Tryz.func108 nm108) (ft_node (ft_node ft_nil ft_nil Tryz.func111 nm111) ft_nil Tryz.func112 nm112) Tryz.func110 nm110) Tryz.func106 nm106) Tryz.func99 nm99) Tryz.func85 nm85) Tryz.func56 nm56) (ft_node (ft_node (ft_node (ft_node (ft_node (ft_node (ft_node ft_nil ft_nil Tryz.func114 nm114) (ft_node ft_nil ft_nil Tryz.func116 nm116) Tryz.func115 nm115) (ft_node (ft_node ft_nil ft_nil Tryz.func118 nm118) (ft_node ft_nil ft_nil Tryz.func120 nm120) Tryz.func119 nm119) Tryz.func117 nm117) (ft_node (ft_node (ft_node ft_nil ft_nil Tryz.func122 nm122) (ft_node ft_nil ft_nil Tryz.func124 nm124) Tryz.func123 nm123) (ft_node (ft_node ft_nil ft_nil Tryz.func126 nm126) ft_nil Tryz.func127 nm127) Tryz.func125 nm125) Tryz.func121 nm121) (ft_node (ft_node (ft_node (ft_node ft_nil ft_nil Tryz.func129 nm129) (ft_node ft_nil ft_nil Tryz.func131 nm131) Tryz.func130 nm130) (ft_node (ft_node ft_nil ft_nil Tryz.func133 nm133) ft_nil Tryz.func134 nm134) Tryz.func132 nm132) (ft_node (ft_node (ft_node ft_nil ft_nil Tryz.func136 nm136) (ft_node ft_nil ft_nil Tryz.func138 nm138) Tryz.func137 nm137) (ft_node (ft_node ft_nil ft_nil Tryz.func140 nm140) ft_nil Tryz.func141 nm141) Tryz.func139 nm139) Tryz.func135 nm135) Tryz.func128 nm128) (ft_node (ft_node (ft_node (ft_node (ft_node ft_nil ft_nil Tryz.func143 nm143) (ft_node ft_nil ft_nil Tryz.func145 nm145) Tryz.func144 nm144) (ft_node (ft_node ft_nil ft_nil Tryz.func147 nm147) ft_nil Tryz.func148 nm148) Tryz.func146 nm146) (ft_node (ft_node (ft_node ft_nil ft_nil Tryz.func150 nm150) (ft_node ft_nil ft_nil Tryz.func152 nm152) Tryz.func151 nm151) (ft_node (ft_node ft_nil ft_nil Tryz.func154 nm154) ft_nil Tryz.func155 nm155) Tryz.func153 nm153) Tryz.func149 nm149) (ft_node (ft_node (ft_node (ft_node ft_nil ft_nil Tryz.func157 nm157) (ft_node ft_nil ft_nil Tryz.func159 nm159) Tryz.func158 nm158) (ft_node (ft_node ft_nil ft_nil Tryz.func161 nm161) ft_nil Tryz.func162 nm162) Tryz.func160 nm160) (ft_node (ft_node (ft_node ft_nil ft_nil Tryz.func164 nm164) (ft_node ft_nil ft_nil Tryz.func166 nm166) Tryz.func165 nm165) (ft_node (ft_node ft_nil ft_nil Tryz.func168 nm168) ft_nil Tryz.func169 nm169) Tryz.func167 nm167) Tryz.func163 nm163) Tryz.func156 nm156) Tryz.func142 nm142) (ft_node (ft_node (ft_node (ft_node (ft_node (ft_node ft_nil ft_nil Tryz.func171 nm171) (ft_node ft_nil ft_nil Tryz.func173 nm173) Tryz.func172 nm172) (ft_node (ft_node ft_nil ft_nil Tryz.func175 nm175) (ft_node ft_nil ft_nil Tryz.func177 nm177) Tryz.func176 nm176) Tryz.func174 nm174) (ft_node (ft_node (ft_node ft_nil ft_nil Tryz.func179 nm179) (ft_node ft_nil ft_nil Tryz.func181 nm181) Tryz.func180 nm180) (ft_node (ft_node ft_nil ft_nil Tryz.func183 nm183) ft_nil Tryz.func184 nm184) Tryz.func182 nm182) Tryz.func178 nm178) (ft_node (ft_node (ft_node (ft_node ft_nil ft_nil Tryz.func186 nm186) (ft_node ft_nil ft_nil Tryz.func188 nm188) Tryz.func187 nm187) (ft_node (ft_node ft_nil ft_nil Tryz.func190 nm190) ft_nil Tryz.func191 nm191) Tryz.func189 nm189) (ft_node (ft_node (ft_node ft_nil ft_nil Tryz.func193 nm193) (ft_node ft_nil ft_nil Tryz.func195 nm195) Tryz.func194 nm194) (ft_node (ft_node ft_nil ft_nil Tryz.func197 nm197) ft_nil Tryz.func198 nm198) Tryz.func196 nm196) Tryz.func192 nm192) Tryz.func185 nm185) (ft_node (ft_node (ft_node (ft_node (ft_node ft_nil ft_nil Tryz.func200 nm200) (ft_node ft_nil ft_nil Tryz.func202 nm202) Tryz.func201 nm201) (ft_node (ft_node ft_nil ft_nil Tryz.func204 nm204) ft_nil Tryz.func205 nm205) Tryz.func203 nm203) (ft_node (ft_node (ft_node ft_nil ft_nil Tryz.func207 nm207) (ft_node ft_nil ft_nil Tryz.func209 nm209) Tryz.func208 nm208) (ft_node (ft_node ft_nil ft_nil Tryz.func211 nm211) ft_nil Tryz.func212 nm212) Tryz.func210 nm210) Tryz.func206 nm206) (ft_node (ft_node (ft_node (ft_node ft_nil ft_nil Tryz.func214 nm214) (ft_node ft_nil ft_nil Tryz.func216 nm216) Tryz.func215 nm215) (ft_node (ft_node ft_nil ft_nil Tryz.func218 nm218) ft_nil Tryz.func219 nm219) Tryz.func217 nm217) (ft_node (ft_node (ft_node ft_nil ft_nil Tryz.func221 nm221) (ft_node ft_nil ft_nil Tryz.func223 nm223) Tryz.func222 nm222) (ft_node (ft_node ft_nil ft_nil Tryz.func225 nm225) ft_nil Tryz.func226 nm226) Tryz.func224 nm224) Tryz.func220 nm220) Tryz.func213 nm213) Tryz.func199 nm199) Tryz.func170 nm170) Tryz.func113 nm113) (ft_node (ft_node (ft_node (ft_node (ft_node (ft_node (ft_node (ft_node ft_nil ft_nil Tryz.func228 nm228) (ft_node ft_nil ft_nil Tryz.func230 nm230) Tryz.func229 nm229) (ft_node (ft_node ft_nil ft_nil Tryz.func232 nm232) (ft_node ft_nil ft_nil Tryz.func234 nm234) Tryz.func233 nm233) Tryz.func231 nm231) (ft_node (ft_node (ft_node ft_nil ft_nil Tryz.func236 nm236) (ft_node ft_nil ft_nil Tryz.func238 nm238) Tryz.func237 nm237) (ft_node (ft_node ft_nil ft_nil Tryz.func240 nm240) ft_nil Tryz.func241 nm241) Tryz.func239 nm239) Tryz.func235 nm235) (ft_node (ft_node (ft_node (ft_node ft_nil ft_nil Tryz.func243 nm243) (ft_node ft_nil ft_nil Tryz.func245 nm245) Tryz.func244 nm244) (ft_node (ft_node ft_nil ft_nil Tryz.func247 nm247) ft_nil Tryz.func248 nm248) Tryz.func246 nm246) (ft_node (ft_node (ft_node ft_nil ft_nil Tryz.func250 nm250) (ft_node ft_nil ft_nil Tryz.func252 nm252) Tryz.func251 nm251) (ft_node (ft_node ft_nil ft_nil Tryz.func254 nm254) ft_nil Tryz.func255 nm255) Tryz.func253 nm253) Tryz.func249 nm249) Tryz.func242 nm242) (ft_node (ft_node (ft_node (ft_node (ft_node ft_nil ft_nil Tryz.func257 nm257) (ft_node ft_nil ft_nil Tryz.func259 nm259) Tryz.func258 nm258) (ft_node (ft_node ft_nil ft_nil Tryz.func261 nm261) ft_nil Tryz.func262 nm262) Tryz.func260 nm260) (ft_node (ft_node (ft_node ft_nil ft_nil Tryz.func264 nm264) (ft_node ft_nil ft_nil Tryz.func266 nm266) Tryz.func265 nm265) (ft_node (ft_node ft_nil ft_nil Tryz.func268 nm268) ft_nil Tryz.func269 nm269) Tryz.func267 nm267) Tryz.func263 nm263) (ft_node (ft_node (ft_node (ft_node ft_nil ft_nil Tryz.func271 nm271) (ft_node ft_nil ft_nil Tryz.func273 nm273) Tryz.func272 nm272) (ft_node (ft_node ft_nil ft_nil Tryz.func275 nm275) ft_nil Tryz.func276 nm276) Tryz.func274 nm274) (ft_node (ft_node (ft_node ft_nil ft_nil Tryz.func278 nm278) (ft_node ft_nil ft_nil Tryz.func280 nm280) Tryz.func279 nm279) (ft_node (ft_node ft_nil ft_nil Tryz.func282 nm282) ft_nil Tryz.func283 nm283) Tryz.func281 nm281) Tryz.func277 nm277) Tryz.func270 nm270) Tryz.func256 nm256) (ft_node (ft_node (ft_node (ft_node (ft_node (ft_node ft_nil ft_nil Tryz.func285 nm285) (ft_node ft_nil ft_nil Tryz.func287 nm287) Tryz.func286 nm286) (ft_node (ft_node ft_nil ft_nil Tryz.func289 nm289) (ft_node ft_nil ft_nil Tryz.func291 nm291) Tryz.func290 nm290) Tryz.func288 nm288) (ft_node (ft_node (ft_node ft_nil ft_nil Tryz.func293 nm293) (ft_node ft_nil ft_nil Tryz.func295 nm295) Tryz.func294 nm294) (ft_node (ft_node ft_nil ft_nil Tryz.func297 nm297) ft_nil Tryz.func298 nm298) Tryz.func296 nm296) Tryz.func292 nm292) (ft_node (ft_node (ft_node (ft_node ft_nil ft_nil Tryz.func300 nm300) (ft_node ft_nil ft_nil Tryz.func302 nm302) Tryz.func301 nm301) (ft_node (ft_node ft_nil ft_nil Tryz.func304 nm304) ft_nil Tryz.func305 nm305) Tryz.func303 nm303) (ft_node (ft_node (ft_node ft_nil ft_nil Tryz.func307 nm307) (ft_node ft_nil ft_nil Tryz.func309 nm309) Tryz.func308 nm308) (ft_node (ft_node ft_nil ft_nil Tryz.func311 nm311) ft_nil Tryz.func312 nm312) Tryz.func310 nm310) Tryz.func306 nm306) Tryz.func299 nm299) (ft_node (ft_node (ft_node (ft_node (ft_node ft_nil ft_nil Tryz.func314 nm314) (ft_node ft_nil ft_nil Tryz.func316 nm316) Tryz.func315 nm315) (ft_node (ft_node ft_nil ft_nil Tryz.func318 nm318) ft_nil Tryz.func319 nm319) Tryz.func317 nm317) (ft_node (ft_node (ft_node ft_nil ft_nil Tryz.func321 nm321) (ft_node ft_nil ft_nil Tryz.func323 nm323) Tryz.func322 nm322) (ft_node (ft_node ft_nil ft_nil Tryz.func325 nm325) ft_nil Tryz.func326 nm326) Tryz.func324 nm324) Tryz.func320 nm320) (ft_node (ft_node (ft_node (ft_node ft_nil ft_nil Tryz.func328 nm328) (ft_node ft_nil ft_nil Tryz.func330 nm330) Tryz.func329 nm329) (ft_node (ft_node ft_nil ft_nil Tryz.func332 nm332) ft_nil Tryz.func333 nm333) Tryz.func331 nm331) (ft_node (ft_node (ft_node ft_nil ft_nil Tryz.func335 nm335) (ft_node ft_nil ft_nil Tryz.func337 nm337) Tryz.func336 nm336) (ft_node (ft_node ft_nil ft_nil Tryz.func339 nm339) ft_nil Tryz.func340 nm340) Tryz.func338 nm338) Tryz.func334 nm334) Tryz.func327 nm327) Tryz.func313 nm313) Tryz.func284 nm284) (ft_node (ft_node (ft_node (ft_node (ft_node (ft_node (ft_node ft_nil ft_nil Tryz.func342 nm342) (ft_node ft_nil ft_nil Tryz.func344 nm344) Tryz.func343 nm343) (ft_node (ft_node ft_nil ft_nil Tryz.func346 nm346) (ft_node ft_nil ft_nil Tryz.func348 nm348) Tryz.func347 nm347) Tryz.func345 nm345) (ft_node (ft_node (ft_node ft_nil ft_nil Tryz.func350 nm350) (ft_node ft_nil ft_nil Tryz.func352 nm352) Tryz.func351 nm351) (ft_node (ft_node ft_nil ft_nil Tryz.func354 nm354) ft_nil Tryz.func355 nm355) Tryz.func353 nm353) Tryz.func349 nm349) (ft_node (ft_node (ft_node (ft_node ft_nil ft_nil Tryz.func357 nm357) (ft_node ft_nil ft_nil Tryz.func359 nm359) Tryz.func358 nm358) (ft_node (ft_node ft_nil ft_nil Tryz.func361 nm361) ft_nil Tryz.func362 nm362) Tryz.func360 nm360) (ft_node (ft_node (ft_node ft_nil ft_nil Tryz.func364 nm364) (ft_node ft_nil ft_nil Tryz.func366 nm366) Tryz.func365 nm365) (ft_node (ft_node ft_nil ft_nil Tryz.func368 nm368) ft_nil Tryz.func369 nm369) Tryz.func367 nm367) Tryz.func363 nm363) Tryz.func356 nm356) (ft_node (ft_node (ft_node (ft_node (ft_node ft_nil ft_nil Tryz.func371 nm371) (ft_node ft_nil ft_nil Tryz.func373 nm373) Tryz.func372 nm372) (ft_node (ft_node ft_nil ft_nil Tryz.func375 nm375) ft_nil Tryz.func376 nm376) Tryz.func374 nm374) (ft_node (ft_node (ft_node ft_nil ft_nil Tryz.func378 nm378) (ft_node ft_nil ft_nil Tryz.func380 nm380) Tryz.func379 nm379) (ft_node (ft_node ft_nil ft_nil Tryz.func382 nm382) ft_nil Tryz.func383 nm383) Tryz.func381 nm381) Tryz.func377 nm377) (ft_node (ft_node (ft_node (ft_node ft_nil ft_nil Tryz.func385 nm385) (ft_node ft_nil ft_nil Tryz.func387 nm387) Tryz.func386 nm386) (ft_node (ft_node ft_nil ft_nil Tryz.func389 nm389) ft_nil Tryz.func390 nm390) Tryz.func388 nm388) (ft_node (ft_node (ft_node ft_nil ft_nil Tryz.func392 nm392) (ft_node ft_nil ft_nil Tryz.func394 nm394) Tryz.func393 nm393) (ft_node (ft_node ft_nil ft_nil Tryz.func396 nm396) ft_nil Tryz.func397 nm397) Tryz.func395 nm395) Tryz.func391 nm391) Tryz.func384 nm384) Tryz.func370 nm370) (ft_node (ft_node (ft_node (ft_node (ft_node (ft_node ft_nil ft_nil Tryz.func399 nm399) (ft_node ft_nil ft_nil Tryz.func401 nm401) Tryz.func400 nm400) (ft_node (ft_node ft_nil ft_nil Tryz.func403 nm403) ft_nil Tryz.func404 nm404) Tryz.func402 nm402) (ft_node (ft_node (ft_node ft_nil ft_nil Tryz.func406 nm406) (ft_node ft_nil ft_nil Tryz.func408 nm408) Tryz.func407 nm407) (ft_node (ft_node ft_nil ft_nil Tryz.func410 nm410) ft_nil Tryz.func411 nm411) Tryz.func409 nm409) Tryz.func405 nm405) (ft_node (ft_node (ft_node (ft_node ft_nil ft_nil Tryz.func413 nm413) (ft_node ft_nil ft_nil Tryz.func415 nm415) Tryz.func414 nm414) (ft_node (ft_node ft_nil ft_nil Tryz.func417 nm417) ft_nil Tryz.func418 nm418) Tryz.func416 nm416) (ft_node (ft_node (ft_node ft_nil ft_nil Tryz.func420 nm420) (ft_node ft_nil ft_nil Tryz.func422 nm422) Tryz.func421 nm421) (ft_node (ft_node ft_nil ft_nil Tryz.func424 nm424) ft_nil Tryz.func425 nm425) Tryz.func423 nm423) Tryz.func419 nm419) Tryz.func412 nm412) (ft_node (ft_node (ft_node (ft_node (ft_node ft_nil ft_nil Tryz.func427 nm427) (ft_node ft_nil ft_nil Tryz.func429 nm429) Tryz.func428 nm428) (ft_node (ft_node ft_nil ft_nil Tryz.func431 nm431) ft_nil Tryz.func432 nm432) Tryz.func430 nm430) (ft_node (ft_node (ft_node ft_nil ft_nil Tryz.func434 nm434) (ft_node ft_nil ft_nil Tryz.func436 nm436) Tryz.func435 nm435) (ft_node (ft_node ft_nil ft_nil Tryz.func438 nm438) ft_nil Tryz.func439 nm439) Tryz.func437 nm437) Tryz.func433 nm433) (ft_node (ft_node (ft_node (ft_node ft_nil ft_nil Tryz.func441 nm441) (ft_node ft_nil ft_nil Tryz.func443 nm443) Tryz.func442 nm442) (ft_node (ft_node ft_nil ft_nil Tryz.func445 nm445) ft_nil Tryz.func446 nm446) Tryz.func444 nm444) (ft_node (ft_node (ft_node ft_nil ft_nil Tryz.func448 nm448) (ft_node ft_nil ft_nil Tryz.func450 nm450) Tryz.func449 nm449) (ft_node (ft_node ft_nil ft_nil Tryz.func452 nm452) ft_nil Tryz.func453 nm453) Tryz.func451 nm451) Tryz.func447 nm447) Tryz.func440 nm440) Tryz.func426 nm426) Tryz.func398 nm398) Tryz.func341 nm341) Tryz.func227 nm227)
theorem mix_ok : Tryz.prog.follows .mixedOrders = true := by kernel_rfl
noncomputable def envC (Δ : List Eng.CS) (wr : Bool) (cuts : List (Nat × Nat)) : Env := { T := tab, Γ := [], Δ := Δ, FT := ft, inv := fun _ _ _ => none, wr := fun _ => wr, cut := R.inL cuts }
theorem envC_ok {Δ : List Eng.CS} {wr : Bool} {cuts : List (Nat × Nat)} (h' : CSsOk Tryz.prog Δ) : EnvOk Tryz.prog (envC Δ wr cuts) := ⟨mix_ok, tab_ok, specs_nil, h', ft_ok⟩
end Go.Proofs.YtnlglgafokjhnaaGreat
