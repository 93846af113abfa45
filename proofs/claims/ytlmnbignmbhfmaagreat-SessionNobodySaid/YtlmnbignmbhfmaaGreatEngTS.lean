/-
  Texts that the law leans on. Nothing here is trusted.
-/
import Derived.Test.YtlmnbignmbhfmaaGreatEngRd
import Derived.Test.YtlmnbignmbhfmaaGreatProg
set_option linter.unusedVariables false
set_option linter.unusedSimpArgs false
namespace Go.Proofs.YtlmnbignmbhfmaaGreat
open Go Go.Eng
def t1 : TI := ⟨.func, 1, 8, [.nilFunc], [.func], []⟩
def t2 : TI := ⟨.int .i64, 1, 8, [.int .i64 0], [.int .i64], []⟩
def t3 : TI := ⟨.int .i64, 1, 8, [.int .i64 0], [.int .i64], []⟩
def t4 : TI := ⟨.bool, 1, 1, [.bool false], [.bool], []⟩
def t5 : TI := ⟨.int .u8, 1, 1, [.int .u8 0], [.int .u8], []⟩
def t6 : TI := ⟨.int .u8, 1, 1, [.int .u8 0], [.int .u8], []⟩
def t7 : TI := ⟨.struct [(0, 2), (1, 3), (2, 4), (3, 6)], 4, 24, [.int .i64 0, .int .i64 0, .bool false, .int .u8 0], [.int .i64, .int .i64, .bool, .int .u8], []⟩
def t8 : TI := ⟨.struct [(0, 2), (1, 3), (2, 4), (3, 6)], 4, 24, [.int .i64 0, .int .i64 0, .bool false, .int .u8 0], [.int .i64, .int .i64, .bool, .int .u8], []⟩
def t9 : TI := ⟨.str, 1, 16, [.string ⟨#[]⟩], [.str], []⟩
def t10 : TI := ⟨.str, 1, 16, [.string ⟨#[]⟩], [.str], []⟩
def t11 : TI := ⟨.str, 1, 16, [.string ⟨#[]⟩], [.str], []⟩
def t12 : TI := ⟨.int .u64, 1, 8, [.int .u64 0], [.int .u64], []⟩
def t13 : TI := ⟨.struct [(0, 9), (1, 12)], 2, 24, [.string ⟨#[]⟩, .int .u64 0], [.str, .int .u64], []⟩
def t14 : TI := ⟨.struct [(0, 9), (1, 12)], 2, 24, [.string ⟨#[]⟩, .int .u64 0], [.str, .int .u64], []⟩
def t15 : TI := ⟨.ptr 614, 1, 8, [.pointer none], [.ptr 614], []⟩
def t16 : TI := ⟨.ptr 617, 1, 8, [.pointer none], [.ptr 617], []⟩
def t17 : TI := ⟨.ptr 624, 1, 8, [.pointer none], [.ptr 624], []⟩
def t18 : TI := ⟨.struct [(0, 17)], 1, 8, [.pointer none], [.ptr 624], []⟩
def t19 : TI := ⟨.struct [(0, 17)], 1, 8, [.pointer none], [.ptr 624], []⟩
def t21 : TI := ⟨.int .i32, 1, 4, [.int .i32 0], [.int .i32], []⟩
def t22 : TI := ⟨.slice 79, 1, 24, [.slice none 0 0], [.slice 79], []⟩
def t23 : TI := ⟨.slice 9, 1, 24, [.slice none 0 0], [.slice 9], []⟩
def t24 : TI := ⟨.struct [(0, 9), (1, 22), (2, 23), (3, 3)], 4, 72, [.string ⟨#[]⟩, .slice none 0 0, .slice none 0 0, .int .i64 0], [.str, .slice 79, .slice 9, .int .i64], []⟩
def t25 : TI := ⟨.struct [(0, 9), (1, 22), (2, 23), (3, 3)], 4, 72, [.string ⟨#[]⟩, .slice none 0 0, .slice none 0 0, .int .i64 0], [.str, .slice 79, .slice 9, .int .i64], []⟩
def t26 : TI := ⟨.func, 1, 8, [.nilFunc], [.func], []⟩
def t27 : TI := ⟨.ptr 34, 1, 8, [.pointer none], [.ptr 34], []⟩
def t28 : TI := ⟨.slice 179, 1, 24, [.slice none 0 0], [.slice 179], []⟩
def t29 : TI := ⟨.int .i64, 1, 8, [.int .i64 0], [.int .i64], []⟩
def t30 : TI := ⟨.int .i64, 1, 8, [.int .i64 0], [.int .i64], []⟩
def t31 : TI := ⟨.struct [(0, 3), (1, 3), (2, 30)], 3, 24, [.int .i64 0, .int .i64 0, .int .i64 0], [.int .i64, .int .i64, .int .i64], [.int .i64, .int .i64, .int .i64]⟩
def t32 : TI := ⟨.struct [(0, 3), (1, 3), (2, 30)], 3, 24, [.int .i64 0, .int .i64 0, .int .i64 0], [.int .i64, .int .i64, .int .i64], [.int .i64, .int .i64, .int .i64]⟩
def t33 : TI := ⟨.struct [(0, 25), (4, 28), (5, 3), (6, 29), (7, 32)], 10, 136, [.string ⟨#[]⟩, .slice none 0 0, .slice none 0 0, .int .i64 0, .slice none 0 0, .int .i64 0, .int .i64 0, .int .i64 0, .int .i64 0, .int .i64 0], [.str, .slice 79, .slice 9, .int .i64, .slice 179, .int .i64, .int .i64, .int .i64, .int .i64, .int .i64], []⟩
def t34 : TI := ⟨.struct [(0, 25), (4, 28), (5, 3), (6, 29), (7, 32)], 10, 136, [.string ⟨#[]⟩, .slice none 0 0, .slice none 0 0, .int .i64 0, .slice none 0 0, .int .i64 0, .int .i64 0, .int .i64 0, .int .i64 0, .int .i64 0], [.str, .slice 79, .slice 9, .int .i64, .slice 179, .int .i64, .int .i64, .int .i64, .int .i64, .int .i64], []⟩
def t35 : TI := ⟨.slice 27, 1, 24, [.slice none 0 0], [.slice 27], []⟩
def t36 : TI := ⟨.slice 130, 1, 24, [.slice none 0 0], [.slice 130], []⟩
def t37 : TI := ⟨.struct [(0, 36), (1, 3), (2, 3), (3, 4)], 4, 48, [.slice none 0 0, .int .i64 0, .int .i64 0, .bool false], [.slice 130, .int .i64, .int .i64, .bool], []⟩
def t38 : TI := ⟨.struct [(0, 36), (1, 3), (2, 3), (3, 4)], 4, 48, [.slice none 0 0, .int .i64 0, .int .i64 0, .bool false], [.slice 130, .int .i64, .int .i64, .bool], []⟩
def t40 : TI := ⟨.func, 1, 8, [.nilFunc], [.func], []⟩
def t42 : TI := ⟨.func, 1, 8, [.nilFunc], [.func], []⟩
def t43 : TI := ⟨.slice 119, 1, 24, [.slice none 0 0], [.slice 119], []⟩
def t45 : TI := ⟨.func, 1, 8, [.nilFunc], [.func], []⟩
def t46 : TI := ⟨.func, 1, 8, [.nilFunc], [.func], []⟩
def t47 : TI := ⟨.func, 1, 8, [.nilFunc], [.func], []⟩
def t48 : TI := ⟨.func, 1, 8, [.nilFunc], [.func], []⟩
def t49 : TI := ⟨.int .i64, 1, 8, [.int .i64 0], [.int .i64], []⟩
def t50 : TI := ⟨.slice 5, 1, 24, [.slice none 0 0], [.slice 5], []⟩
def t51 : TI := ⟨.struct [(0, 49), (1, 50), (2, 3), (3, 3)], 4, 48, [.int .i64 0, .slice none 0 0, .int .i64 0, .int .i64 0], [.int .i64, .slice 5, .int .i64, .int .i64], []⟩
def t52 : TI := ⟨.struct [(0, 49), (1, 50), (2, 3), (3, 3)], 4, 48, [.int .i64 0, .slice none 0 0, .int .i64 0, .int .i64 0], [.int .i64, .slice 5, .int .i64, .int .i64], []⟩
def t53 : TI := ⟨.ptr 57, 1, 8, [.pointer none], [.ptr 57], []⟩
def t54 : TI := ⟨.ptr 204, 1, 8, [.pointer none], [.ptr 204], []⟩
def t55 : TI := ⟨.ptr 197, 1, 8, [.pointer none], [.ptr 197], []⟩
def t56 : TI := ⟨.struct [(0, 27), (1, 25), (5, 54), (6, 55), (7, 3), (8, 4), (9, 50)], 10, 136, [.pointer none, .string ⟨#[]⟩, .slice none 0 0, .slice none 0 0, .int .i64 0, .pointer none, .pointer none, .int .i64 0, .bool false, .slice none 0 0], [.ptr 34, .str, .slice 79, .slice 9, .int .i64, .ptr 204, .ptr 197, .int .i64, .bool, .slice 5], []⟩
def t57 : TI := ⟨.struct [(0, 27), (1, 25), (5, 54), (6, 55), (7, 3), (8, 4), (9, 50)], 10, 136, [.pointer none, .string ⟨#[]⟩, .slice none 0 0, .slice none 0 0, .int .i64 0, .pointer none, .pointer none, .int .i64 0, .bool false, .slice none 0 0], [.ptr 34, .str, .slice 79, .slice 9, .int .i64, .ptr 204, .ptr 197, .int .i64, .bool, .slice 5], []⟩
def t58 : TI := ⟨.slice 53, 1, 24, [.slice none 0 0], [.slice 53], []⟩
def t60 : TI := ⟨.func, 1, 8, [.nilFunc], [.func], []⟩
def t61 : TI := ⟨.func, 1, 8, [.nilFunc], [.func], []⟩
def t62 : TI := ⟨.func, 1, 8, [.nilFunc], [.func], []⟩
def t63 : TI := ⟨.slice 77, 1, 24, [.slice none 0 0], [.slice 77], []⟩
def t65 : TI := ⟨.func, 1, 8, [.nilFunc], [.func], []⟩
def t67 : TI := ⟨.func, 1, 8, [.nilFunc], [.func], []⟩
def t68 : TI := ⟨.func, 1, 8, [.nilFunc], [.func], []⟩
def t69 : TI := ⟨.func, 1, 8, [.nilFunc], [.func], []⟩
def t70 : TI := ⟨.func, 1, 8, [.nilFunc], [.func], []⟩
def t71 : TI := ⟨.func, 1, 8, [.nilFunc], [.func], []⟩
def t72 : TI := ⟨.func, 1, 8, [.nilFunc], [.func], []⟩
def t73 : TI := ⟨.int .i64, 1, 8, [.int .i64 0], [.int .i64], []⟩
def t74 : TI := ⟨.flt .f64, 1, 8, [.float .f64 0], [.flt .f64], []⟩
def t75 : TI := ⟨.slice 3, 1, 24, [.slice none 0 0], [.slice 3], []⟩
def t76 : TI := ⟨.struct [(0, 9), (1, 3), (2, 4), (3, 75), (4, 74)], 5, 64, [.string ⟨#[]⟩, .int .i64 0, .bool false, .slice none 0 0, .float .f64 0], [.str, .int .i64, .bool, .slice 3, .flt .f64], []⟩
def t77 : TI := ⟨.struct [(0, 9), (1, 3), (2, 4), (3, 75), (4, 74)], 5, 64, [.string ⟨#[]⟩, .int .i64 0, .bool false, .slice none 0 0, .float .f64 0], [.str, .int .i64, .bool, .slice 3, .flt .f64], []⟩
def t78 : TI := ⟨.struct [(0, 73), (1, 9), (2, 9), (3, 23), (4, 3), (5, 3), (6, 74), (7, 74), (8, 74), (9, 77), (14, 9), (15, 9)], 16, 200, [.int .i64 0, .string ⟨#[]⟩, .string ⟨#[]⟩, .slice none 0 0, .int .i64 0, .int .i64 0, .float .f64 0, .float .f64 0, .float .f64 0, .string ⟨#[]⟩, .int .i64 0, .bool false, .slice none 0 0, .float .f64 0, .string ⟨#[]⟩, .string ⟨#[]⟩], [.int .i64, .str, .str, .slice 9, .int .i64, .int .i64, .flt .f64, .flt .f64, .flt .f64, .str, .int .i64, .bool, .slice 3, .flt .f64, .str, .str], []⟩
def t79 : TI := ⟨.struct [(0, 73), (1, 9), (2, 9), (3, 23), (4, 3), (5, 3), (6, 74), (7, 74), (8, 74), (9, 77), (14, 9), (15, 9)], 16, 200, [.int .i64 0, .string ⟨#[]⟩, .string ⟨#[]⟩, .slice none 0 0, .int .i64 0, .int .i64 0, .float .f64 0, .float .f64 0, .float .f64 0, .string ⟨#[]⟩, .int .i64 0, .bool false, .slice none 0 0, .float .f64 0, .string ⟨#[]⟩, .string ⟨#[]⟩], [.int .i64, .str, .str, .slice 9, .int .i64, .int .i64, .flt .f64, .flt .f64, .flt .f64, .str, .int .i64, .bool, .slice 3, .flt .f64, .str, .str], []⟩
def t80 : TI := ⟨.func, 1, 8, [.nilFunc], [.func], []⟩
def t81 : TI := ⟨.func, 1, 8, [.nilFunc], [.func], []⟩
def t82 : TI := ⟨.ptr 160, 1, 8, [.pointer none], [.ptr 160], []⟩
def t84 : TI := ⟨.func, 1, 8, [.nilFunc], [.func], []⟩
def t86 : TI := ⟨.func, 1, 8, [.nilFunc], [.func], []⟩
def t88 : TI := ⟨.func, 1, 8, [.nilFunc], [.func], []⟩
def t89 : TI := ⟨.func, 1, 8, [.nilFunc], [.func], []⟩
def t90 : TI := ⟨.struct [(0, 4), (1, 4), (2, 4), (3, 3), (4, 3)], 5, 24, [.bool false, .bool false, .bool false, .int .i64 0, .int .i64 0], [.bool, .bool, .bool, .int .i64, .int .i64], [.bool, .bool, .bool, .int .i64, .int .i64]⟩
def t91 : TI := ⟨.struct [(0, 4), (1, 4), (2, 4), (3, 3), (4, 3)], 5, 24, [.bool false, .bool false, .bool false, .int .i64 0, .int .i64 0], [.bool, .bool, .bool, .int .i64, .int .i64], [.bool, .bool, .bool, .int .i64, .int .i64]⟩
def t92 : TI := ⟨.slice 97, 1, 24, [.slice none 0 0], [.slice 97], []⟩
def t93 : TI := ⟨.func, 1, 8, [.nilFunc], [.func], []⟩
def t94 : TI := ⟨.func, 1, 8, [.nilFunc], [.func], []⟩
def t95 : TI := ⟨.slice 102, 1, 24, [.slice none 0 0], [.slice 102], []⟩
def t96 : TI := ⟨.struct [(0, 3), (1, 4), (2, 95), (3, 3)], 4, 48, [.int .i64 0, .bool false, .slice none 0 0, .int .i64 0], [.int .i64, .bool, .slice 102, .int .i64], []⟩
def t97 : TI := ⟨.struct [(0, 3), (1, 4), (2, 95), (3, 3)], 4, 48, [.int .i64 0, .bool false, .slice none 0 0, .int .i64 0], [.int .i64, .bool, .slice 102, .int .i64], []⟩
def t98 : TI := ⟨.func, 1, 8, [.nilFunc], [.func], []⟩
def t99 : TI := ⟨.func, 1, 8, [.nilFunc], [.func], []⟩
def t100 : TI := ⟨.func, 1, 8, [.nilFunc], [.func], []⟩
def t101 : TI := ⟨.struct [(0, 9), (1, 91)], 6, 40, [.string ⟨#[]⟩, .bool false, .bool false, .bool false, .int .i64 0, .int .i64 0], [.str, .bool, .bool, .bool, .int .i64, .int .i64], [.str, .bool, .bool, .bool, .int .i64, .int .i64]⟩
def t102 : TI := ⟨.struct [(0, 9), (1, 91)], 6, 40, [.string ⟨#[]⟩, .bool false, .bool false, .bool false, .int .i64 0, .int .i64 0], [.str, .bool, .bool, .bool, .int .i64, .int .i64], [.str, .bool, .bool, .bool, .int .i64, .int .i64]⟩
def t103 : TI := ⟨.func, 1, 8, [.nilFunc], [.func], []⟩
def t104 : TI := ⟨.slice 4, 1, 24, [.slice none 0 0], [.slice 4], []⟩
def t105 : TI := ⟨.struct [(0, 73), (1, 9), (2, 9), (3, 3), (4, 4), (5, 23), (6, 3), (7, 104)], 8, 112, [.int .i64 0, .string ⟨#[]⟩, .string ⟨#[]⟩, .int .i64 0, .bool false, .slice none 0 0, .int .i64 0, .slice none 0 0], [.int .i64, .str, .str, .int .i64, .bool, .slice 9, .int .i64, .slice 4], []⟩
def t106 : TI := ⟨.struct [(0, 73), (1, 9), (2, 9), (3, 3), (4, 4), (5, 23), (6, 3), (7, 104)], 8, 112, [.int .i64 0, .string ⟨#[]⟩, .string ⟨#[]⟩, .int .i64 0, .bool false, .slice none 0 0, .int .i64 0, .slice none 0 0], [.int .i64, .str, .str, .int .i64, .bool, .slice 9, .int .i64, .slice 4], []⟩
def t108 : TI := ⟨.func, 1, 8, [.nilFunc], [.func], []⟩
def t109 : TI := ⟨.func, 1, 8, [.nilFunc], [.func], []⟩
def t111 : TI := ⟨.func, 1, 8, [.nilFunc], [.func], []⟩
def t112 : TI := ⟨.func, 1, 8, [.nilFunc], [.func], []⟩
def t113 : TI := ⟨.func, 1, 8, [.nilFunc], [.func], []⟩
def t114 : TI := ⟨.func, 1, 8, [.nilFunc], [.func], []⟩
def t115 : TI := ⟨.func, 1, 8, [.nilFunc], [.func], []⟩
def t116 : TI := ⟨.func, 1, 8, [.nilFunc], [.func], []⟩
def t117 : TI := ⟨.func, 1, 8, [.nilFunc], [.func], []⟩
def t118 : TI := ⟨.struct [(0, 3), (1, 9)], 2, 24, [.int .i64 0, .string ⟨#[]⟩], [.int .i64, .str], [.int .i64, .str]⟩
def t119 : TI := ⟨.struct [(0, 3), (1, 9)], 2, 24, [.int .i64 0, .string ⟨#[]⟩], [.int .i64, .str], [.int .i64, .str]⟩
def t120 : TI := ⟨.func, 1, 8, [.nilFunc], [.func], []⟩
def t121 : TI := ⟨.func, 1, 8, [.nilFunc], [.func], []⟩
def t123 : TI := ⟨.func, 1, 8, [.nilFunc], [.func], []⟩
def t124 : TI := ⟨.func, 1, 8, [.nilFunc], [.func], []⟩
def t125 : TI := ⟨.func, 1, 8, [.nilFunc], [.func], []⟩
def t126 : TI := ⟨.int .i64, 1, 8, [.int .i64 0], [.int .i64], []⟩
def t127 : TI := ⟨.struct [(0, 126), (1, 9), (2, 3), (3, 4), (4, 4), (5, 4)], 6, 40, [.int .i64 0, .string ⟨#[]⟩, .int .i64 0, .bool false, .bool false, .bool false], [.int .i64, .str, .int .i64, .bool, .bool, .bool], [.int .i64, .str, .int .i64, .bool, .bool, .bool]⟩
def t128 : TI := ⟨.struct [(0, 126), (1, 9), (2, 3), (3, 4), (4, 4), (5, 4)], 6, 40, [.int .i64 0, .string ⟨#[]⟩, .int .i64 0, .bool false, .bool false, .bool false], [.int .i64, .str, .int .i64, .bool, .bool, .bool], [.int .i64, .str, .int .i64, .bool, .bool, .bool]⟩
def t129 : TI := ⟨.func, 1, 8, [.nilFunc], [.func], []⟩
def t130 : TI := ⟨.slice 193, 1, 24, [.slice none 0 0], [.slice 193], []⟩
def t131 : TI := ⟨.func, 1, 8, [.nilFunc], [.func], []⟩
def t132 : TI := ⟨.func, 1, 8, [.nilFunc], [.func], []⟩
def t133 : TI := ⟨.func, 1, 8, [.nilFunc], [.func], []⟩
def t134 : TI := ⟨.slice 128, 1, 24, [.slice none 0 0], [.slice 128], []⟩
def t135 : TI := ⟨.func, 1, 8, [.nilFunc], [.func], []⟩
def t136 : TI := ⟨.func, 1, 8, [.nilFunc], [.func], []⟩
def t137 : TI := ⟨.func, 1, 8, [.nilFunc], [.func], []⟩
def t138 : TI := ⟨.func, 1, 8, [.nilFunc], [.func], []⟩
def t139 : TI := ⟨.func, 1, 8, [.nilFunc], [.func], []⟩
def t140 : TI := ⟨.func, 1, 8, [.nilFunc], [.func], []⟩
def t141 : TI := ⟨.func, 1, 8, [.nilFunc], [.func], []⟩
def t143 : TI := ⟨.func, 1, 8, [.nilFunc], [.func], []⟩
def t144 : TI := ⟨.slice 295, 1, 24, [.slice none 0 0], [.slice 295], []⟩
def t145 : TI := ⟨.struct [(0, 3), (1, 3), (2, 144)], 3, 40, [.int .i64 0, .int .i64 0, .slice none 0 0], [.int .i64, .int .i64, .slice 295], []⟩
def t146 : TI := ⟨.struct [(0, 3), (1, 3), (2, 144)], 3, 40, [.int .i64 0, .int .i64 0, .slice none 0 0], [.int .i64, .int .i64, .slice 295], []⟩
def t147 : TI := ⟨.struct [(0, 146), (3, 3), (4, 3), (5, 91), (10, 4), (11, 4), (12, 4), (13, 3), (14, 3), (15, 50), (16, 4), (17, 3), (18, 3)], 19, 152, [.int .i64 0, .int .i64 0, .slice none 0 0, .int .i64 0, .int .i64 0, .bool false, .bool false, .bool false, .int .i64 0, .int .i64 0, .bool false, .bool false, .bool false, .int .i64 0, .int .i64 0, .slice none 0 0, .bool false, .int .i64 0, .int .i64 0], [.int .i64, .int .i64, .slice 295, .int .i64, .int .i64, .bool, .bool, .bool, .int .i64, .int .i64, .bool, .bool, .bool, .int .i64, .int .i64, .slice 5, .bool, .int .i64, .int .i64], []⟩
def t148 : TI := ⟨.struct [(0, 146), (3, 3), (4, 3), (5, 91), (10, 4), (11, 4), (12, 4), (13, 3), (14, 3), (15, 50), (16, 4), (17, 3), (18, 3)], 19, 152, [.int .i64 0, .int .i64 0, .slice none 0 0, .int .i64 0, .int .i64 0, .bool false, .bool false, .bool false, .int .i64 0, .int .i64 0, .bool false, .bool false, .bool false, .int .i64 0, .int .i64 0, .slice none 0 0, .bool false, .int .i64 0, .int .i64 0], [.int .i64, .int .i64, .slice 295, .int .i64, .int .i64, .bool, .bool, .bool, .int .i64, .int .i64, .bool, .bool, .bool, .int .i64, .int .i64, .slice 5, .bool, .int .i64, .int .i64], []⟩
def t149 : TI := ⟨.func, 1, 8, [.nilFunc], [.func], []⟩
def t150 : TI := ⟨.func, 1, 8, [.nilFunc], [.func], []⟩
def t151 : TI := ⟨.func, 1, 8, [.nilFunc], [.func], []⟩
def t152 : TI := ⟨.func, 1, 8, [.nilFunc], [.func], []⟩
def t153 : TI := ⟨.func, 1, 8, [.nilFunc], [.func], []⟩
def t154 : TI := ⟨.ptr 222, 1, 8, [.pointer none], [.ptr 222], []⟩
def t156 : TI := ⟨.func, 1, 8, [.nilFunc], [.func], []⟩
def t157 : TI := ⟨.struct [(0, 154), (1, 3), (2, 3), (3, 4)], 4, 32, [.pointer none, .int .i64 0, .int .i64 0, .bool false], [.ptr 222, .int .i64, .int .i64, .bool], []⟩
def t158 : TI := ⟨.struct [(0, 154), (1, 3), (2, 3), (3, 4)], 4, 32, [.pointer none, .int .i64 0, .int .i64 0, .bool false], [.ptr 222, .int .i64, .int .i64, .bool], []⟩
def t159 : TI := ⟨.struct [(0, 158)], 4, 32, [.pointer none, .int .i64 0, .int .i64 0, .bool false], [.ptr 222, .int .i64, .int .i64, .bool], []⟩
def t160 : TI := ⟨.struct [(0, 158)], 4, 32, [.pointer none, .int .i64 0, .int .i64 0, .bool false], [.ptr 222, .int .i64, .int .i64, .bool], []⟩
def t161 : TI := ⟨.struct [(0, 3), (1, 3), (2, 3), (3, 3)], 4, 32, [.int .i64 0, .int .i64 0, .int .i64 0, .int .i64 0], [.int .i64, .int .i64, .int .i64, .int .i64], [.int .i64, .int .i64, .int .i64, .int .i64]⟩
def t162 : TI := ⟨.struct [(0, 3), (1, 3), (2, 3), (3, 3)], 4, 32, [.int .i64 0, .int .i64 0, .int .i64 0, .int .i64 0], [.int .i64, .int .i64, .int .i64, .int .i64], [.int .i64, .int .i64, .int .i64, .int .i64]⟩
def t163 : TI := ⟨.slice 162, 1, 24, [.slice none 0 0], [.slice 162], []⟩
def t165 : TI := ⟨.func, 1, 8, [.nilFunc], [.func], []⟩
def t166 : TI := ⟨.func, 1, 8, [.nilFunc], [.func], []⟩
def t167 : TI := ⟨.func, 1, 8, [.nilFunc], [.func], []⟩
def t168 : TI := ⟨.func, 1, 8, [.nilFunc], [.func], []⟩
def t169 : TI := ⟨.func, 1, 8, [.nilFunc], [.func], []⟩
def t170 : TI := ⟨.func, 1, 8, [.nilFunc], [.func], []⟩
def t172 : TI := ⟨.func, 1, 8, [.nilFunc], [.func], []⟩
def t173 : TI := ⟨.func, 1, 8, [.nilFunc], [.func], []⟩
def t174 : TI := ⟨.func, 1, 8, [.nilFunc], [.func], []⟩
def t175 : TI := ⟨.func, 1, 8, [.nilFunc], [.func], []⟩
def t176 : TI := ⟨.ptr 246, 1, 8, [.pointer none], [.ptr 246], []⟩
def t177 : TI := ⟨.ptr 249, 1, 8, [.pointer none], [.ptr 249], []⟩
def t178 : TI := ⟨.struct [(0, 176), (1, 177)], 2, 16, [.pointer none, .pointer none], [.ptr 246, .ptr 249], []⟩
def t179 : TI := ⟨.struct [(0, 176), (1, 177)], 2, 16, [.pointer none, .pointer none], [.ptr 246, .ptr 249], []⟩
def t180 : TI := ⟨.func, 1, 8, [.nilFunc], [.func], []⟩
def t181 : TI := ⟨.func, 1, 8, [.nilFunc], [.func], []⟩
def t182 : TI := ⟨.func, 1, 8, [.nilFunc], [.func], []⟩
def t183 : TI := ⟨.func, 1, 8, [.nilFunc], [.func], []⟩
def t184 : TI := ⟨.arr 24 5, 24, 24, [.int .u8 0, .int .u8 0, .int .u8 0, .int .u8 0, .int .u8 0, .int .u8 0, .int .u8 0, .int .u8 0, .int .u8 0, .int .u8 0, .int .u8 0, .int .u8 0, .int .u8 0, .int .u8 0, .int .u8 0, .int .u8 0, .int .u8 0, .int .u8 0, .int .u8 0, .int .u8 0, .int .u8 0, .int .u8 0, .int .u8 0, .int .u8 0], [.int .u8, .int .u8, .int .u8, .int .u8, .int .u8, .int .u8, .int .u8, .int .u8, .int .u8, .int .u8, .int .u8, .int .u8, .int .u8, .int .u8, .int .u8, .int .u8, .int .u8, .int .u8, .int .u8, .int .u8, .int .u8, .int .u8, .int .u8, .int .u8], []⟩
def t185 : TI := ⟨.int .u64, 1, 8, [.int .u64 0], [.int .u64], []⟩
def t186 : TI := ⟨.func, 1, 8, [.nilFunc], [.func], []⟩
def t187 : TI := ⟨.func, 1, 8, [.nilFunc], [.func], []⟩
def t188 : TI := ⟨.func, 1, 8, [.nilFunc], [.func], []⟩
def t189 : TI := ⟨.func, 1, 8, [.nilFunc], [.func], []⟩
def t190 : TI := ⟨.func, 1, 8, [.nilFunc], [.func], []⟩
def t191 : TI := ⟨.func, 1, 8, [.nilFunc], [.func], []⟩
def t192 : TI := ⟨.struct [(0, 9), (1, 3), (2, 91)], 7, 48, [.string ⟨#[]⟩, .int .i64 0, .bool false, .bool false, .bool false, .int .i64 0, .int .i64 0], [.str, .int .i64, .bool, .bool, .bool, .int .i64, .int .i64], [.str, .int .i64, .bool, .bool, .bool, .int .i64, .int .i64]⟩
def t193 : TI := ⟨.struct [(0, 9), (1, 3), (2, 91)], 7, 48, [.string ⟨#[]⟩, .int .i64 0, .bool false, .bool false, .bool false, .int .i64 0, .int .i64 0], [.str, .int .i64, .bool, .bool, .bool, .int .i64, .int .i64], [.str, .int .i64, .bool, .bool, .bool, .int .i64, .int .i64]⟩
def t194 : TI := ⟨.struct [(0, 38)], 4, 48, [.slice none 0 0, .int .i64 0, .int .i64 0, .bool false], [.slice 130, .int .i64, .int .i64, .bool], []⟩
def t195 : TI := ⟨.struct [(0, 38)], 4, 48, [.slice none 0 0, .int .i64 0, .int .i64 0, .bool false], [.slice 130, .int .i64, .int .i64, .bool], []⟩
def t196 : TI := ⟨.struct [(0, 195), (4, 3), (5, 3), (6, 3), (7, 3)], 8, 80, [.slice none 0 0, .int .i64 0, .int .i64 0, .bool false, .int .i64 0, .int .i64 0, .int .i64 0, .int .i64 0], [.slice 130, .int .i64, .int .i64, .bool, .int .i64, .int .i64, .int .i64, .int .i64], []⟩
def t197 : TI := ⟨.struct [(0, 195), (4, 3), (5, 3), (6, 3), (7, 3)], 8, 80, [.slice none 0 0, .int .i64 0, .int .i64 0, .bool false, .int .i64 0, .int .i64 0, .int .i64 0, .int .i64 0], [.slice 130, .int .i64, .int .i64, .bool, .int .i64, .int .i64, .int .i64, .int .i64], []⟩
def t198 : TI := ⟨.func, 1, 8, [.nilFunc], [.func], []⟩
def t199 : TI := ⟨.func, 1, 8, [.nilFunc], [.func], []⟩
def t200 : TI := ⟨.func, 1, 8, [.nilFunc], [.func], []⟩
def t201 : TI := ⟨.struct [(0, 50), (1, 4), (2, 50), (3, 3)], 4, 64, [.slice none 0 0, .bool false, .slice none 0 0, .int .i64 0], [.slice 5, .bool, .slice 5, .int .i64], []⟩
def t202 : TI := ⟨.struct [(0, 50), (1, 4), (2, 50), (3, 3)], 4, 64, [.slice none 0 0, .bool false, .slice none 0 0, .int .i64 0], [.slice 5, .bool, .slice 5, .int .i64], []⟩
def t203 : TI := ⟨.struct [(0, 202), (4, 4)], 5, 72, [.slice none 0 0, .bool false, .slice none 0 0, .int .i64 0, .bool false], [.slice 5, .bool, .slice 5, .int .i64, .bool], []⟩
def t204 : TI := ⟨.struct [(0, 202), (4, 4)], 5, 72, [.slice none 0 0, .bool false, .slice none 0 0, .int .i64 0, .bool false], [.slice 5, .bool, .slice 5, .int .i64, .bool], []⟩
def t205 : TI := ⟨.func, 1, 8, [.nilFunc], [.func], []⟩
def t206 : TI := ⟨.func, 1, 8, [.nilFunc], [.func], []⟩
def t207 : TI := ⟨.func, 1, 8, [.nilFunc], [.func], []⟩
def t208 : TI := ⟨.func, 1, 8, [.nilFunc], [.func], []⟩
def t209 : TI := ⟨.func, 1, 8, [.nilFunc], [.func], []⟩
def t210 : TI := ⟨.func, 1, 8, [.nilFunc], [.func], []⟩
def t212 : TI := ⟨.func, 1, 8, [.nilFunc], [.func], []⟩
def t213 : TI := ⟨.func, 1, 8, [.nilFunc], [.func], []⟩
def t214 : TI := ⟨.func, 1, 8, [.nilFunc], [.func], []⟩
def t216 : TI := ⟨.func, 1, 8, [.nilFunc], [.func], []⟩
def t217 : TI := ⟨.func, 1, 8, [.nilFunc], [.func], []⟩
def t218 : TI := ⟨.func, 1, 8, [.nilFunc], [.func], []⟩
def t219 : TI := ⟨.func, 1, 8, [.nilFunc], [.func], []⟩
def t220 : TI := ⟨.func, 1, 8, [.nilFunc], [.func], []⟩
def t221 : TI := ⟨.struct [(0, 3), (1, 3), (2, 130)], 3, 40, [.int .i64 0, .int .i64 0, .slice none 0 0], [.int .i64, .int .i64, .slice 193], []⟩
def t222 : TI := ⟨.struct [(0, 3), (1, 3), (2, 130)], 3, 40, [.int .i64 0, .int .i64 0, .slice none 0 0], [.int .i64, .int .i64, .slice 193], []⟩
def t223 : TI := ⟨.func, 1, 8, [.nilFunc], [.func], []⟩
def t225 : TI := ⟨.func, 1, 8, [.nilFunc], [.func], []⟩
def t226 : TI := ⟨.func, 1, 8, [.nilFunc], [.func], []⟩
def t227 : TI := ⟨.func, 1, 8, [.nilFunc], [.func], []⟩
def t228 : TI := ⟨.func, 1, 8, [.nilFunc], [.func], []⟩
def t229 : TI := ⟨.ptr 231, 1, 8, [.pointer none], [.ptr 231], []⟩
def t230 : TI := ⟨.struct [(0, 229), (1, 50)], 2, 32, [.pointer none, .slice none 0 0], [.ptr 231, .slice 5], []⟩
def t231 : TI := ⟨.struct [(0, 229), (1, 50)], 2, 32, [.pointer none, .slice none 0 0], [.ptr 231, .slice 5], []⟩
def t235 : TI := ⟨.func, 1, 8, [.nilFunc], [.func], []⟩
def t236 : TI := ⟨.func, 1, 8, [.nilFunc], [.func], []⟩
def t237 : TI := ⟨.func, 1, 8, [.nilFunc], [.func], []⟩
def t238 : TI := ⟨.func, 1, 8, [.nilFunc], [.func], []⟩
def t239 : TI := ⟨.func, 1, 8, [.nilFunc], [.func], []⟩
def t240 : TI := ⟨.func, 1, 8, [.nilFunc], [.func], []⟩
def t241 : TI := ⟨.func, 1, 8, [.nilFunc], [.func], []⟩
def t242 : TI := ⟨.func, 1, 8, [.nilFunc], [.func], []⟩
def t243 : TI := ⟨.ptr 334, 1, 8, [.pointer none], [.ptr 334], []⟩
def t244 : TI := ⟨.ptr 419, 1, 8, [.pointer none], [.ptr 419], []⟩
def t245 : TI := ⟨.struct [(0, 243), (1, 79), (17, 244), (18, 9), (19, 3), (20, 3)], 21, 248, [.pointer none, .int .i64 0, .string ⟨#[]⟩, .string ⟨#[]⟩, .slice none 0 0, .int .i64 0, .int .i64 0, .float .f64 0, .float .f64 0, .float .f64 0, .string ⟨#[]⟩, .int .i64 0, .bool false, .slice none 0 0, .float .f64 0, .string ⟨#[]⟩, .string ⟨#[]⟩, .pointer none, .string ⟨#[]⟩, .int .i64 0, .int .i64 0], [.ptr 334, .int .i64, .str, .str, .slice 9, .int .i64, .int .i64, .flt .f64, .flt .f64, .flt .f64, .str, .int .i64, .bool, .slice 3, .flt .f64, .str, .str, .ptr 419, .str, .int .i64, .int .i64], []⟩
def t246 : TI := ⟨.struct [(0, 243), (1, 79), (17, 244), (18, 9), (19, 3), (20, 3)], 21, 248, [.pointer none, .int .i64 0, .string ⟨#[]⟩, .string ⟨#[]⟩, .slice none 0 0, .int .i64 0, .int .i64 0, .float .f64 0, .float .f64 0, .float .f64 0, .string ⟨#[]⟩, .int .i64 0, .bool false, .slice none 0 0, .float .f64 0, .string ⟨#[]⟩, .string ⟨#[]⟩, .pointer none, .string ⟨#[]⟩, .int .i64 0, .int .i64 0], [.ptr 334, .int .i64, .str, .str, .slice 9, .int .i64, .int .i64, .flt .f64, .flt .f64, .flt .f64, .str, .int .i64, .bool, .slice 3, .flt .f64, .str, .str, .ptr 419, .str, .int .i64, .int .i64], []⟩
def t247 : TI := ⟨.func, 1, 8, [.nilFunc], [.func], []⟩
def t248 : TI := ⟨.struct [(0, 243), (1, 79), (17, 244), (18, 4), (19, 3), (20, 104), (21, 75), (22, 3)], 23, 288, [.pointer none, .int .i64 0, .string ⟨#[]⟩, .string ⟨#[]⟩, .slice none 0 0, .int .i64 0, .int .i64 0, .float .f64 0, .float .f64 0, .float .f64 0, .string ⟨#[]⟩, .int .i64 0, .bool false, .slice none 0 0, .float .f64 0, .string ⟨#[]⟩, .string ⟨#[]⟩, .pointer none, .bool false, .int .i64 0, .slice none 0 0, .slice none 0 0, .int .i64 0], [.ptr 334, .int .i64, .str, .str, .slice 9, .int .i64, .int .i64, .flt .f64, .flt .f64, .flt .f64, .str, .int .i64, .bool, .slice 3, .flt .f64, .str, .str, .ptr 419, .bool, .int .i64, .slice 4, .slice 3, .int .i64], []⟩
def t249 : TI := ⟨.struct [(0, 243), (1, 79), (17, 244), (18, 4), (19, 3), (20, 104), (21, 75), (22, 3)], 23, 288, [.pointer none, .int .i64 0, .string ⟨#[]⟩, .string ⟨#[]⟩, .slice none 0 0, .int .i64 0, .int .i64 0, .float .f64 0, .float .f64 0, .float .f64 0, .string ⟨#[]⟩, .int .i64 0, .bool false, .slice none 0 0, .float .f64 0, .string ⟨#[]⟩, .string ⟨#[]⟩, .pointer none, .bool false, .int .i64 0, .slice none 0 0, .slice none 0 0, .int .i64 0], [.ptr 334, .int .i64, .str, .str, .slice 9, .int .i64, .int .i64, .flt .f64, .flt .f64, .flt .f64, .str, .int .i64, .bool, .slice 3, .flt .f64, .str, .str, .ptr 419, .bool, .int .i64, .slice 4, .slice 3, .int .i64], []⟩
def t250 : TI := ⟨.func, 1, 8, [.nilFunc], [.func], []⟩
def t251 : TI := ⟨.func, 1, 8, [.nilFunc], [.func], []⟩
def t252 : TI := ⟨.func, 1, 8, [.nilFunc], [.func], []⟩
def t253 : TI := ⟨.struct [(0, 3), (1, 4), (2, 4)], 3, 16, [.int .i64 0, .bool false, .bool false], [.int .i64, .bool, .bool], [.int .i64, .bool, .bool]⟩
def t254 : TI := ⟨.struct [(0, 3), (1, 4), (2, 4)], 3, 16, [.int .i64 0, .bool false, .bool false], [.int .i64, .bool, .bool], [.int .i64, .bool, .bool]⟩
def t255 : TI := ⟨.func, 1, 8, [.nilFunc], [.func], []⟩
def t256 : TI := ⟨.slice 269, 1, 24, [.slice none 0 0], [.slice 269], []⟩
def t258 : TI := ⟨.func, 1, 8, [.nilFunc], [.func], []⟩
def t259 : TI := ⟨.func, 1, 8, [.nilFunc], [.func], []⟩
def t260 : TI := ⟨.func, 1, 8, [.nilFunc], [.func], []⟩
def t261 : TI := ⟨.func, 1, 8, [.nilFunc], [.func], []⟩
def t262 : TI := ⟨.func, 1, 8, [.nilFunc], [.func], []⟩
def t263 : TI := ⟨.func, 1, 8, [.nilFunc], [.func], []⟩
def t264 : TI := ⟨.func, 1, 8, [.nilFunc], [.func], []⟩
def t265 : TI := ⟨.int .i64, 1, 8, [.int .i64 0], [.int .i64], []⟩
def t266 : TI := ⟨.struct [(0, 265), (1, 74), (2, 9), (3, 4)], 4, 40, [.int .i64 0, .float .f64 0, .string ⟨#[]⟩, .bool false], [.int .i64, .flt .f64, .str, .bool], []⟩
def t267 : TI := ⟨.struct [(0, 265), (1, 74), (2, 9), (3, 4)], 4, 40, [.int .i64 0, .float .f64 0, .string ⟨#[]⟩, .bool false], [.int .i64, .flt .f64, .str, .bool], []⟩
def t268 : TI := ⟨.struct [(0, 9), (1, 267)], 5, 56, [.string ⟨#[]⟩, .int .i64 0, .float .f64 0, .string ⟨#[]⟩, .bool false], [.str, .int .i64, .flt .f64, .str, .bool], []⟩
def t269 : TI := ⟨.struct [(0, 9), (1, 267)], 5, 56, [.string ⟨#[]⟩, .int .i64 0, .float .f64 0, .string ⟨#[]⟩, .bool false], [.str, .int .i64, .flt .f64, .str, .bool], []⟩
def t270 : TI := ⟨.func, 1, 8, [.nilFunc], [.func], []⟩
def t271 : TI := ⟨.func, 1, 8, [.nilFunc], [.func], []⟩
def t272 : TI := ⟨.func, 1, 8, [.nilFunc], [.func], []⟩
def t273 : TI := ⟨.func, 1, 8, [.nilFunc], [.func], []⟩
def t275 : TI := ⟨.func, 1, 8, [.nilFunc], [.func], []⟩
def t277 : TI := ⟨.func, 1, 8, [.nilFunc], [.func], []⟩
def t278 : TI := ⟨.func, 1, 8, [.nilFunc], [.func], []⟩
def t279 : TI := ⟨.func, 1, 8, [.nilFunc], [.func], []⟩
def t280 : TI := ⟨.func, 1, 8, [.nilFunc], [.func], []⟩
def t281 : TI := ⟨.func, 1, 8, [.nilFunc], [.func], []⟩
def t282 : TI := ⟨.func, 1, 8, [.nilFunc], [.func], []⟩
def t283 : TI := ⟨.func, 1, 8, [.nilFunc], [.func], []⟩
def t284 : TI := ⟨.func, 1, 8, [.nilFunc], [.func], []⟩
def t285 : TI := ⟨.func, 1, 8, [.nilFunc], [.func], []⟩
def t286 : TI := ⟨.func, 1, 8, [.nilFunc], [.func], []⟩
def t287 : TI := ⟨.func, 1, 8, [.nilFunc], [.func], []⟩
def t288 : TI := ⟨.func, 1, 8, [.nilFunc], [.func], []⟩
def t290 : TI := ⟨.func, 1, 8, [.nilFunc], [.func], []⟩
def t291 : TI := ⟨.func, 1, 8, [.nilFunc], [.func], []⟩
def t293 : TI := ⟨.func, 1, 8, [.nilFunc], [.func], []⟩
def t294 : TI := ⟨.struct [(0, 130)], 1, 24, [.slice none 0 0], [.slice 193], []⟩
def t295 : TI := ⟨.struct [(0, 130)], 1, 24, [.slice none 0 0], [.slice 193], []⟩
def t296 : TI := ⟨.func, 1, 8, [.nilFunc], [.func], []⟩
def t297 : TI := ⟨.func, 1, 8, [.nilFunc], [.func], []⟩
def t298 : TI := ⟨.func, 1, 8, [.nilFunc], [.func], []⟩
def t299 : TI := ⟨.func, 1, 8, [.nilFunc], [.func], []⟩
def t300 : TI := ⟨.func, 1, 8, [.nilFunc], [.func], []⟩
def t301 : TI := ⟨.func, 1, 8, [.nilFunc], [.func], []⟩
def t302 : TI := ⟨.func, 1, 8, [.nilFunc], [.func], []⟩
def t303 : TI := ⟨.func, 1, 8, [.nilFunc], [.func], []⟩
def t304 : TI := ⟨.struct [(0, 23), (1, 50), (2, 4)], 3, 56, [.slice none 0 0, .slice none 0 0, .bool false], [.slice 9, .slice 5, .bool], []⟩
def t305 : TI := ⟨.struct [(0, 23), (1, 50), (2, 4)], 3, 56, [.slice none 0 0, .slice none 0 0, .bool false], [.slice 9, .slice 5, .bool], []⟩
def t306 : TI := ⟨.func, 1, 8, [.nilFunc], [.func], []⟩
def t307 : TI := ⟨.func, 1, 8, [.nilFunc], [.func], []⟩
def t308 : TI := ⟨.func, 1, 8, [.nilFunc], [.func], []⟩
def t309 : TI := ⟨.func, 1, 8, [.nilFunc], [.func], []⟩
def t310 : TI := ⟨.func, 1, 8, [.nilFunc], [.func], []⟩
def t311 : TI := ⟨.func, 1, 8, [.nilFunc], [.func], []⟩
def t312 : TI := ⟨.func, 1, 8, [.nilFunc], [.func], []⟩
def t313 : TI := ⟨.ptr 5, 1, 8, [.pointer none], [.ptr 5], []⟩
def t314 : TI := ⟨.func, 1, 8, [.nilFunc], [.func], []⟩
def t315 : TI := ⟨.func, 1, 8, [.nilFunc], [.func], []⟩
def t316 : TI := ⟨.func, 1, 8, [.nilFunc], [.func], []⟩
def t317 : TI := ⟨.func, 1, 8, [.nilFunc], [.func], []⟩
def t318 : TI := ⟨.func, 1, 8, [.nilFunc], [.func], []⟩
def t319 : TI := ⟨.struct [(0, 3), (1, 3), (2, 75)], 3, 40, [.int .i64 0, .int .i64 0, .slice none 0 0], [.int .i64, .int .i64, .slice 3], []⟩
def t320 : TI := ⟨.struct [(0, 3), (1, 3), (2, 75)], 3, 40, [.int .i64 0, .int .i64 0, .slice none 0 0], [.int .i64, .int .i64, .slice 3], []⟩
def t322 : TI := ⟨.func, 1, 8, [.nilFunc], [.func], []⟩
def t323 : TI := ⟨.slice 23, 1, 24, [.slice none 0 0], [.slice 23], []⟩
def t324 : TI := ⟨.func, 1, 8, [.nilFunc], [.func], []⟩
def t325 : TI := ⟨.func, 1, 8, [.nilFunc], [.func], []⟩
def t326 : TI := ⟨.int .u64, 1, 8, [.int .u64 0], [.int .u64], []⟩
def t328 : TI := ⟨.func, 1, 8, [.nilFunc], [.func], []⟩
def t329 : TI := ⟨.func, 1, 8, [.nilFunc], [.func], []⟩
def t330 : TI := ⟨.func, 1, 8, [.nilFunc], [.func], []⟩
def t331 : TI := ⟨.ptr 407, 1, 8, [.pointer none], [.ptr 407], []⟩
def t332 : TI := ⟨.slice 462, 1, 24, [.slice none 0 0], [.slice 462], []⟩
def t333 : TI := ⟨.struct [(0, 331), (1, 323), (2, 332), (3, 4), (4, 4), (5, 3), (6, 3)], 7, 80, [.pointer none, .slice none 0 0, .slice none 0 0, .bool false, .bool false, .int .i64 0, .int .i64 0], [.ptr 407, .slice 23, .slice 462, .bool, .bool, .int .i64, .int .i64], []⟩
def t334 : TI := ⟨.struct [(0, 331), (1, 323), (2, 332), (3, 4), (4, 4), (5, 3), (6, 3)], 7, 80, [.pointer none, .slice none 0 0, .slice none 0 0, .bool false, .bool false, .int .i64 0, .int .i64 0], [.ptr 407, .slice 23, .slice 462, .bool, .bool, .int .i64, .int .i64], []⟩
def t335 : TI := ⟨.func, 1, 8, [.nilFunc], [.func], []⟩
def t336 : TI := ⟨.slice 254, 1, 24, [.slice none 0 0], [.slice 254], []⟩
def t337 : TI := ⟨.func, 1, 8, [.nilFunc], [.func], []⟩
def t338 : TI := ⟨.func, 1, 8, [.nilFunc], [.func], []⟩
def t340 : TI := ⟨.func, 1, 8, [.nilFunc], [.func], []⟩
def t341 : TI := ⟨.func, 1, 8, [.nilFunc], [.func], []⟩
def t342 : TI := ⟨.func, 1, 8, [.nilFunc], [.func], []⟩
def t343 : TI := ⟨.func, 1, 8, [.nilFunc], [.func], []⟩
def t344 : TI := ⟨.func, 1, 8, [.nilFunc], [.func], []⟩
def t345 : TI := ⟨.func, 1, 8, [.nilFunc], [.func], []⟩
def t346 : TI := ⟨.slice 348, 1, 24, [.slice none 0 0], [.slice 348], []⟩
def t347 : TI := ⟨.struct [(0, 9), (1, 74), (2, 9), (3, 346)], 4, 64, [.string ⟨#[]⟩, .float .f64 0, .string ⟨#[]⟩, .slice none 0 0], [.str, .flt .f64, .str, .slice 348], []⟩
def t348 : TI := ⟨.struct [(0, 9), (1, 74), (2, 9), (3, 346)], 4, 64, [.string ⟨#[]⟩, .float .f64 0, .string ⟨#[]⟩, .slice none 0 0], [.str, .flt .f64, .str, .slice 348], []⟩
def t350 : TI := ⟨.func, 1, 8, [.nilFunc], [.func], []⟩
def t352 : TI := ⟨.func, 1, 8, [.nilFunc], [.func], []⟩
def t353 : TI := ⟨.func, 1, 8, [.nilFunc], [.func], []⟩
def t354 : TI := ⟨.func, 1, 8, [.nilFunc], [.func], []⟩
def t355 : TI := ⟨.func, 1, 8, [.nilFunc], [.func], []⟩
def t356 : TI := ⟨.func, 1, 8, [.nilFunc], [.func], []⟩
def t357 : TI := ⟨.int .i64, 1, 8, [.int .i64 0], [.int .i64], []⟩
def t359 : TI := ⟨.func, 1, 8, [.nilFunc], [.func], []⟩
def t360 : TI := ⟨.func, 1, 8, [.nilFunc], [.func], []⟩
def t361 : TI := ⟨.func, 1, 8, [.nilFunc], [.func], []⟩
def t362 : TI := ⟨.func, 1, 8, [.nilFunc], [.func], []⟩
def t363 : TI := ⟨.func, 1, 8, [.nilFunc], [.func], []⟩
def t364 : TI := ⟨.func, 1, 8, [.nilFunc], [.func], []⟩
def t365 : TI := ⟨.func, 1, 8, [.nilFunc], [.func], []⟩
def t366 : TI := ⟨.func, 1, 8, [.nilFunc], [.func], []⟩
def t367 : TI := ⟨.func, 1, 8, [.nilFunc], [.func], []⟩
def t368 : TI := ⟨.ptr 202, 1, 8, [.pointer none], [.ptr 202], []⟩
def t369 : TI := ⟨.struct [(0, 3), (1, 128), (7, 4), (8, 4)], 9, 56, [.int .i64 0, .int .i64 0, .string ⟨#[]⟩, .int .i64 0, .bool false, .bool false, .bool false, .bool false, .bool false], [.int .i64, .int .i64, .str, .int .i64, .bool, .bool, .bool, .bool, .bool], [.int .i64, .int .i64, .str, .int .i64, .bool, .bool, .bool, .bool, .bool]⟩
def t370 : TI := ⟨.struct [(0, 3), (1, 128), (7, 4), (8, 4)], 9, 56, [.int .i64 0, .int .i64 0, .string ⟨#[]⟩, .int .i64 0, .bool false, .bool false, .bool false, .bool false, .bool false], [.int .i64, .int .i64, .str, .int .i64, .bool, .bool, .bool, .bool, .bool], [.int .i64, .int .i64, .str, .int .i64, .bool, .bool, .bool, .bool, .bool]⟩
def t371 : TI := ⟨.func, 1, 8, [.nilFunc], [.func], []⟩
def t373 : TI := ⟨.func, 1, 8, [.nilFunc], [.func], []⟩
def t374 : TI := ⟨.func, 1, 8, [.nilFunc], [.func], []⟩
def t376 : TI := ⟨.func, 1, 8, [.nilFunc], [.func], []⟩
def t377 : TI := ⟨.func, 1, 8, [.nilFunc], [.func], []⟩
def t378 : TI := ⟨.func, 1, 8, [.nilFunc], [.func], []⟩
def t379 : TI := ⟨.func, 1, 8, [.nilFunc], [.func], []⟩
def t380 : TI := ⟨.func, 1, 8, [.nilFunc], [.func], []⟩
def t382 : TI := ⟨.func, 1, 8, [.nilFunc], [.func], []⟩
def t383 : TI := ⟨.func, 1, 8, [.nilFunc], [.func], []⟩
def t384 : TI := ⟨.func, 1, 8, [.nilFunc], [.func], []⟩
def t385 : TI := ⟨.func, 1, 8, [.nilFunc], [.func], []⟩
def t386 : TI := ⟨.func, 1, 8, [.nilFunc], [.func], []⟩
def t387 : TI := ⟨.func, 1, 8, [.nilFunc], [.func], []⟩
def t388 : TI := ⟨.ptr 305, 1, 8, [.pointer none], [.ptr 305], []⟩
def t389 : TI := ⟨.func, 1, 8, [.nilFunc], [.func], []⟩
def t390 : TI := ⟨.func, 1, 8, [.nilFunc], [.func], []⟩
def t391 : TI := ⟨.func, 1, 8, [.nilFunc], [.func], []⟩
def t392 : TI := ⟨.func, 1, 8, [.nilFunc], [.func], []⟩
def t394 : TI := ⟨.func, 1, 8, [.nilFunc], [.func], []⟩
def t395 : TI := ⟨.func, 1, 8, [.nilFunc], [.func], []⟩
def t396 : TI := ⟨.func, 1, 8, [.nilFunc], [.func], []⟩
def t397 : TI := ⟨.func, 1, 8, [.nilFunc], [.func], []⟩
def t398 : TI := ⟨.int .u32, 1, 4, [.int .u32 0], [.int .u32], []⟩
def t400 : TI := ⟨.func, 1, 8, [.nilFunc], [.func], []⟩
def t402 : TI := ⟨.func, 1, 8, [.nilFunc], [.func], []⟩
def t403 : TI := ⟨.func, 1, 8, [.nilFunc], [.func], []⟩
def t404 : TI := ⟨.func, 1, 8, [.nilFunc], [.func], []⟩
def t405 : TI := ⟨.func, 1, 8, [.nilFunc], [.func], []⟩
def t406 : TI := ⟨.struct [(0, 3), (1, 23), (2, 3), (3, 3)], 4, 48, [.int .i64 0, .slice none 0 0, .int .i64 0, .int .i64 0], [.int .i64, .slice 9, .int .i64, .int .i64], []⟩
def t407 : TI := ⟨.struct [(0, 3), (1, 23), (2, 3), (3, 3)], 4, 48, [.int .i64 0, .slice none 0 0, .int .i64 0, .int .i64 0], [.int .i64, .slice 9, .int .i64, .int .i64], []⟩
def t409 : TI := ⟨.func, 1, 8, [.nilFunc], [.func], []⟩
def t410 : TI := ⟨.func, 1, 8, [.nilFunc], [.func], []⟩
def t411 : TI := ⟨.func, 1, 8, [.nilFunc], [.func], []⟩
def t413 : TI := ⟨.func, 1, 8, [.nilFunc], [.func], []⟩
def t414 : TI := ⟨.func, 1, 8, [.nilFunc], [.func], []⟩
def t415 : TI := ⟨.func, 1, 8, [.nilFunc], [.func], []⟩
def t416 : TI := ⟨.func, 1, 8, [.nilFunc], [.func], []⟩
def t417 : TI := ⟨.map 9 357, 1, 8, [.map none], [.map 9 357], []⟩
def t418 : TI := ⟨.struct [(0, 417)], 1, 8, [.map none], [.map 9 357], []⟩
def t419 : TI := ⟨.struct [(0, 417)], 1, 8, [.map none], [.map 9 357], []⟩
def t420 : TI := ⟨.func, 1, 8, [.nilFunc], [.func], []⟩
def t421 : TI := ⟨.func, 1, 8, [.nilFunc], [.func], []⟩
def t423 : TI := ⟨.func, 1, 8, [.nilFunc], [.func], []⟩
def t424 : TI := ⟨.func, 1, 8, [.nilFunc], [.func], []⟩
def t425 : TI := ⟨.func, 1, 8, [.nilFunc], [.func], []⟩
def t426 : TI := ⟨.func, 1, 8, [.nilFunc], [.func], []⟩
def t427 : TI := ⟨.func, 1, 8, [.nilFunc], [.func], []⟩
def t428 : TI := ⟨.func, 1, 8, [.nilFunc], [.func], []⟩
def t429 : TI := ⟨.func, 1, 8, [.nilFunc], [.func], []⟩
def t430 : TI := ⟨.func, 1, 8, [.nilFunc], [.func], []⟩
def t431 : TI := ⟨.func, 1, 8, [.nilFunc], [.func], []⟩
def t432 : TI := ⟨.slice 439, 1, 24, [.slice none 0 0], [.slice 439], []⟩
def t434 : TI := ⟨.func, 1, 8, [.nilFunc], [.func], []⟩
def t435 : TI := ⟨.ptr 437, 1, 8, [.pointer none], [.ptr 437], []⟩
def t436 : TI := ⟨.struct [(0, 231), (2, 3), (3, 3), (4, 4), (5, 91)], 10, 80, [.pointer none, .slice none 0 0, .int .i64 0, .int .i64 0, .bool false, .bool false, .bool false, .bool false, .int .i64 0, .int .i64 0], [.ptr 231, .slice 5, .int .i64, .int .i64, .bool, .bool, .bool, .bool, .int .i64, .int .i64], []⟩
def t437 : TI := ⟨.struct [(0, 231), (2, 3), (3, 3), (4, 4), (5, 91)], 10, 80, [.pointer none, .slice none 0 0, .int .i64 0, .int .i64 0, .bool false, .bool false, .bool false, .bool false, .int .i64 0, .int .i64 0], [.ptr 231, .slice 5, .int .i64, .int .i64, .bool, .bool, .bool, .bool, .int .i64, .int .i64], []⟩
def t438 : TI := ⟨.struct [(0, 3), (1, 3), (2, 3)], 3, 24, [.int .i64 0, .int .i64 0, .int .i64 0], [.int .i64, .int .i64, .int .i64], [.int .i64, .int .i64, .int .i64]⟩
def t439 : TI := ⟨.struct [(0, 3), (1, 3), (2, 3)], 3, 24, [.int .i64 0, .int .i64 0, .int .i64 0], [.int .i64, .int .i64, .int .i64], [.int .i64, .int .i64, .int .i64]⟩
def t440 : TI := ⟨.func, 1, 8, [.nilFunc], [.func], []⟩
def t441 : TI := ⟨.func, 1, 8, [.nilFunc], [.func], []⟩
def t442 : TI := ⟨.func, 1, 8, [.nilFunc], [.func], []⟩
def t443 : TI := ⟨.func, 1, 8, [.nilFunc], [.func], []⟩
def t444 : TI := ⟨.func, 1, 8, [.nilFunc], [.func], []⟩
def t445 : TI := ⟨.func, 1, 8, [.nilFunc], [.func], []⟩
def t447 : TI := ⟨.func, 1, 8, [.nilFunc], [.func], []⟩
def t449 : TI := ⟨.func, 1, 8, [.nilFunc], [.func], []⟩
def t450 : TI := ⟨.func, 1, 8, [.nilFunc], [.func], []⟩
def t452 : TI := ⟨.func, 1, 8, [.nilFunc], [.func], []⟩
def t453 : TI := ⟨.slice 21, 1, 24, [.slice none 0 0], [.slice 21], []⟩
def t454 : TI := ⟨.func, 1, 8, [.nilFunc], [.func], []⟩
def t455 : TI := ⟨.func, 1, 8, [.nilFunc], [.func], []⟩
def t456 : TI := ⟨.func, 1, 8, [.nilFunc], [.func], []⟩
def t457 : TI := ⟨.func, 1, 8, [.nilFunc], [.func], []⟩
def t458 : TI := ⟨.func, 1, 8, [.nilFunc], [.func], []⟩
def t459 : TI := ⟨.func, 1, 8, [.nilFunc], [.func], []⟩
def t460 : TI := ⟨.func, 1, 8, [.nilFunc], [.func], []⟩
def t461 : TI := ⟨.struct [(0, 23), (1, 3)], 2, 32, [.slice none 0 0, .int .i64 0], [.slice 9, .int .i64], []⟩
def t462 : TI := ⟨.struct [(0, 23), (1, 3)], 2, 32, [.slice none 0 0, .int .i64 0], [.slice 9, .int .i64], []⟩
def t463 : TI := ⟨.func, 1, 8, [.nilFunc], [.func], []⟩
def t464 : TI := ⟨.func, 1, 8, [.nilFunc], [.func], []⟩
def t466 : TI := ⟨.func, 1, 8, [.nilFunc], [.func], []⟩
def t467 : TI := ⟨.func, 1, 8, [.nilFunc], [.func], []⟩
def t468 : TI := ⟨.func, 1, 8, [.nilFunc], [.func], []⟩
def t469 : TI := ⟨.func, 1, 8, [.nilFunc], [.func], []⟩
def t470 : TI := ⟨.func, 1, 8, [.nilFunc], [.func], []⟩
def t471 : TI := ⟨.func, 1, 8, [.nilFunc], [.func], []⟩
def t472 : TI := ⟨.func, 1, 8, [.nilFunc], [.func], []⟩
def t473 : TI := ⟨.int .i64, 1, 8, [.int .i64 0], [.int .i64], []⟩
def t475 : TI := ⟨.func, 1, 8, [.nilFunc], [.func], []⟩
def t476 : TI := ⟨.func, 1, 8, [.nilFunc], [.func], []⟩
def t477 : TI := ⟨.func, 1, 8, [.nilFunc], [.func], []⟩
def t478 : TI := ⟨.func, 1, 8, [.nilFunc], [.func], []⟩
def t479 : TI := ⟨.func, 1, 8, [.nilFunc], [.func], []⟩
def t480 : TI := ⟨.func, 1, 8, [.nilFunc], [.func], []⟩
def t481 : TI := ⟨.func, 1, 8, [.nilFunc], [.func], []⟩
def t482 : TI := ⟨.arr 12 3, 12, 96, [.int .i64 0, .int .i64 0, .int .i64 0, .int .i64 0, .int .i64 0, .int .i64 0, .int .i64 0, .int .i64 0, .int .i64 0, .int .i64 0, .int .i64 0, .int .i64 0], [.int .i64, .int .i64, .int .i64, .int .i64, .int .i64, .int .i64, .int .i64, .int .i64, .int .i64, .int .i64, .int .i64, .int .i64], []⟩
def t484 : TI := ⟨.func, 1, 8, [.nilFunc], [.func], []⟩
def t485 : TI := ⟨.func, 1, 8, [.nilFunc], [.func], []⟩
def t486 : TI := ⟨.func, 1, 8, [.nilFunc], [.func], []⟩
def t487 : TI := ⟨.ptr 489, 1, 8, [.pointer none], [.ptr 489], []⟩
def t488 : TI := ⟨.struct [(0, 9), (1, 3), (2, 3), (3, 9)], 4, 48, [.string ⟨#[]⟩, .int .i64 0, .int .i64 0, .string ⟨#[]⟩], [.str, .int .i64, .int .i64, .str], [.str, .int .i64, .int .i64, .str]⟩
def t489 : TI := ⟨.struct [(0, 9), (1, 3), (2, 3), (3, 9)], 4, 48, [.string ⟨#[]⟩, .int .i64 0, .int .i64 0, .string ⟨#[]⟩], [.str, .int .i64, .int .i64, .str], [.str, .int .i64, .int .i64, .str]⟩
def t490 : TI := ⟨.func, 1, 8, [.nilFunc], [.func], []⟩
def t493 : TI := ⟨.slice 265, 1, 24, [.slice none 0 0], [.slice 265], []⟩
def t494 : TI := ⟨.func, 1, 8, [.nilFunc], [.func], []⟩
def t496 : TI := ⟨.func, 1, 8, [.nilFunc], [.func], []⟩
def t497 : TI := ⟨.func, 1, 8, [.nilFunc], [.func], []⟩
def t498 : TI := ⟨.func, 1, 8, [.nilFunc], [.func], []⟩
def t499 : TI := ⟨.func, 1, 8, [.nilFunc], [.func], []⟩
def t500 : TI := ⟨.func, 1, 8, [.nilFunc], [.func], []⟩
def t501 : TI := ⟨.func, 1, 8, [.nilFunc], [.func], []⟩
def t502 : TI := ⟨.func, 1, 8, [.nilFunc], [.func], []⟩
def t503 : TI := ⟨.func, 1, 8, [.nilFunc], [.func], []⟩
def t504 : TI := ⟨.func, 1, 8, [.nilFunc], [.func], []⟩
def t505 : TI := ⟨.func, 1, 8, [.nilFunc], [.func], []⟩
def t507 : TI := ⟨.func, 1, 8, [.nilFunc], [.func], []⟩
def t508 : TI := ⟨.func, 1, 8, [.nilFunc], [.func], []⟩
def t509 : TI := ⟨.func, 1, 8, [.nilFunc], [.func], []⟩
def t511 : TI := ⟨.func, 1, 8, [.nilFunc], [.func], []⟩
def t512 : TI := ⟨.func, 1, 8, [.nilFunc], [.func], []⟩
def t513 : TI := ⟨.func, 1, 8, [.nilFunc], [.func], []⟩
def t514 : TI := ⟨.func, 1, 8, [.nilFunc], [.func], []⟩
def t515 : TI := ⟨.func, 1, 8, [.nilFunc], [.func], []⟩
def t516 : TI := ⟨.func, 1, 8, [.nilFunc], [.func], []⟩
def t517 : TI := ⟨.func, 1, 8, [.nilFunc], [.func], []⟩
def t518 : TI := ⟨.slice 520, 1, 24, [.slice none 0 0], [.slice 520], []⟩
def t519 : TI := ⟨.struct [(0, 320), (3, 3)], 4, 48, [.int .i64 0, .int .i64 0, .slice none 0 0, .int .i64 0], [.int .i64, .int .i64, .slice 3, .int .i64], []⟩
def t520 : TI := ⟨.struct [(0, 320), (3, 3)], 4, 48, [.int .i64 0, .int .i64 0, .slice none 0 0, .int .i64 0], [.int .i64, .int .i64, .slice 3, .int .i64], []⟩
def t521 : TI := ⟨.func, 1, 8, [.nilFunc], [.func], []⟩
def t522 : TI := ⟨.func, 1, 8, [.nilFunc], [.func], []⟩
def t523 : TI := ⟨.func, 1, 8, [.nilFunc], [.func], []⟩
def t524 : TI := ⟨.func, 1, 8, [.nilFunc], [.func], []⟩
def t525 : TI := ⟨.func, 1, 8, [.nilFunc], [.func], []⟩
def t526 : TI := ⟨.func, 1, 8, [.nilFunc], [.func], []⟩
def t527 : TI := ⟨.func, 1, 8, [.nilFunc], [.func], []⟩
def t529 : TI := ⟨.func, 1, 8, [.nilFunc], [.func], []⟩
def t530 : TI := ⟨.func, 1, 8, [.nilFunc], [.func], []⟩
def t531 : TI := ⟨.func, 1, 8, [.nilFunc], [.func], []⟩
def t532 : TI := ⟨.func, 1, 8, [.nilFunc], [.func], []⟩
def t533 : TI := ⟨.func, 1, 8, [.nilFunc], [.func], []⟩
def t534 : TI := ⟨.func, 1, 8, [.nilFunc], [.func], []⟩
def t535 : TI := ⟨.slice 572, 1, 24, [.slice none 0 0], [.slice 572], []⟩
def t536 : TI := ⟨.func, 1, 8, [.nilFunc], [.func], []⟩
def t537 : TI := ⟨.func, 1, 8, [.nilFunc], [.func], []⟩
def t538 : TI := ⟨.func, 1, 8, [.nilFunc], [.func], []⟩
def t539 : TI := ⟨.func, 1, 8, [.nilFunc], [.func], []⟩
def t540 : TI := ⟨.int .u64, 1, 8, [.int .u64 0], [.int .u64], []⟩
def t541 : TI := ⟨.func, 1, 8, [.nilFunc], [.func], []⟩
def t542 : TI := ⟨.func, 1, 8, [.nilFunc], [.func], []⟩
def t543 : TI := ⟨.func, 1, 8, [.nilFunc], [.func], []⟩
def t544 : TI := ⟨.ptr 3, 1, 8, [.pointer none], [.ptr 3], []⟩
def t545 : TI := ⟨.func, 1, 8, [.nilFunc], [.func], []⟩
def t546 : TI := ⟨.func, 1, 8, [.nilFunc], [.func], []⟩
def t547 : TI := ⟨.func, 1, 8, [.nilFunc], [.func], []⟩
def t548 : TI := ⟨.func, 1, 8, [.nilFunc], [.func], []⟩
def t549 : TI := ⟨.func, 1, 8, [.nilFunc], [.func], []⟩
def t550 : TI := ⟨.func, 1, 8, [.nilFunc], [.func], []⟩
def t551 : TI := ⟨.func, 1, 8, [.nilFunc], [.func], []⟩
def t552 : TI := ⟨.func, 1, 8, [.nilFunc], [.func], []⟩
def t553 : TI := ⟨.func, 1, 8, [.nilFunc], [.func], []⟩
def t554 : TI := ⟨.func, 1, 8, [.nilFunc], [.func], []⟩
def t555 : TI := ⟨.func, 1, 8, [.nilFunc], [.func], []⟩
def t556 : TI := ⟨.func, 1, 8, [.nilFunc], [.func], []⟩
def t557 : TI := ⟨.func, 1, 8, [.nilFunc], [.func], []⟩
def t558 : TI := ⟨.func, 1, 8, [.nilFunc], [.func], []⟩
def t559 : TI := ⟨.arr 20 5, 20, 20, [.int .u8 0, .int .u8 0, .int .u8 0, .int .u8 0, .int .u8 0, .int .u8 0, .int .u8 0, .int .u8 0, .int .u8 0, .int .u8 0, .int .u8 0, .int .u8 0, .int .u8 0, .int .u8 0, .int .u8 0, .int .u8 0, .int .u8 0, .int .u8 0, .int .u8 0, .int .u8 0], [.int .u8, .int .u8, .int .u8, .int .u8, .int .u8, .int .u8, .int .u8, .int .u8, .int .u8, .int .u8, .int .u8, .int .u8, .int .u8, .int .u8, .int .u8, .int .u8, .int .u8, .int .u8, .int .u8, .int .u8], []⟩
def t560 : TI := ⟨.func, 1, 8, [.nilFunc], [.func], []⟩
def t561 : TI := ⟨.struct [(0, 3), (1, 5), (2, 5), (3, 21)], 4, 16, [.int .i64 0, .int .u8 0, .int .u8 0, .int .i32 0], [.int .i64, .int .u8, .int .u8, .int .i32], [.int .i64, .int .u8, .int .u8, .int .i32]⟩
def t562 : TI := ⟨.struct [(0, 3), (1, 5), (2, 5), (3, 21)], 4, 16, [.int .i64 0, .int .u8 0, .int .u8 0, .int .i32 0], [.int .i64, .int .u8, .int .u8, .int .i32], [.int .i64, .int .u8, .int .u8, .int .i32]⟩
def t563 : TI := ⟨.func, 1, 8, [.nilFunc], [.func], []⟩
def t564 : TI := ⟨.func, 1, 8, [.nilFunc], [.func], []⟩
def t565 : TI := ⟨.arr 2 3, 2, 16, [.int .i64 0, .int .i64 0], [.int .i64, .int .i64], []⟩
def t567 : TI := ⟨.func, 1, 8, [.nilFunc], [.func], []⟩
def t568 : TI := ⟨.func, 1, 8, [.nilFunc], [.func], []⟩
def t569 : TI := ⟨.func, 1, 8, [.nilFunc], [.func], []⟩
def t570 : TI := ⟨.func, 1, 8, [.nilFunc], [.func], []⟩
def t571 : TI := ⟨.struct [(0, 21), (1, 21)], 2, 8, [.int .i32 0, .int .i32 0], [.int .i32, .int .i32], [.int .i32, .int .i32]⟩
def t572 : TI := ⟨.struct [(0, 21), (1, 21)], 2, 8, [.int .i32 0, .int .i32 0], [.int .i32, .int .i32], [.int .i32, .int .i32]⟩
def t573 : TI := ⟨.ptr 540, 1, 8, [.pointer none], [.ptr 540], []⟩
def t574 : TI := ⟨.func, 1, 8, [.nilFunc], [.func], []⟩
def t575 : TI := ⟨.func, 1, 8, [.nilFunc], [.func], []⟩
def t576 : TI := ⟨.func, 1, 8, [.nilFunc], [.func], []⟩
def t577 : TI := ⟨.func, 1, 8, [.nilFunc], [.func], []⟩
def t578 : TI := ⟨.func, 1, 8, [.nilFunc], [.func], []⟩
def t579 : TI := ⟨.func, 1, 8, [.nilFunc], [.func], []⟩
def t580 : TI := ⟨.struct [(0, 4), (1, 4), (2, 4), (3, 4), (4, 4)], 5, 5, [.bool false, .bool false, .bool false, .bool false, .bool false], [.bool, .bool, .bool, .bool, .bool], [.bool, .bool, .bool, .bool, .bool]⟩
def t581 : TI := ⟨.struct [(0, 4), (1, 4), (2, 4), (3, 4), (4, 4)], 5, 5, [.bool false, .bool false, .bool false, .bool false, .bool false], [.bool, .bool, .bool, .bool, .bool], [.bool, .bool, .bool, .bool, .bool]⟩
def t582 : TI := ⟨.func, 1, 8, [.nilFunc], [.func], []⟩
def t583 : TI := ⟨.func, 1, 8, [.nilFunc], [.func], []⟩
def t584 : TI := ⟨.struct [(0, 3), (1, 3), (2, 3)], 3, 24, [.int .i64 0, .int .i64 0, .int .i64 0], [.int .i64, .int .i64, .int .i64], [.int .i64, .int .i64, .int .i64]⟩
def t585 : TI := ⟨.struct [(0, 3), (1, 3), (2, 3)], 3, 24, [.int .i64 0, .int .i64 0, .int .i64 0], [.int .i64, .int .i64, .int .i64], [.int .i64, .int .i64, .int .i64]⟩
def t587 : TI := ⟨.func, 1, 8, [.nilFunc], [.func], []⟩
def t588 : TI := ⟨.func, 1, 8, [.nilFunc], [.func], []⟩
def t589 : TI := ⟨.func, 1, 8, [.nilFunc], [.func], []⟩
def t590 : TI := ⟨.func, 1, 8, [.nilFunc], [.func], []⟩
def t591 : TI := ⟨.func, 1, 8, [.nilFunc], [.func], []⟩
def t592 : TI := ⟨.func, 1, 8, [.nilFunc], [.func], []⟩
def t593 : TI := ⟨.func, 1, 8, [.nilFunc], [.func], []⟩
def t594 : TI := ⟨.func, 1, 8, [.nilFunc], [.func], []⟩
def t595 : TI := ⟨.func, 1, 8, [.nilFunc], [.func], []⟩
def t596 : TI := ⟨.func, 1, 8, [.nilFunc], [.func], []⟩
def t597 : TI := ⟨.func, 1, 8, [.nilFunc], [.func], []⟩
def t598 : TI := ⟨.func, 1, 8, [.nilFunc], [.func], []⟩
def t599 : TI := ⟨.func, 1, 8, [.nilFunc], [.func], []⟩
def t600 : TI := ⟨.func, 1, 8, [.nilFunc], [.func], []⟩
def t601 : TI := ⟨.func, 1, 8, [.nilFunc], [.func], []⟩
def t602 : TI := ⟨.func, 1, 8, [.nilFunc], [.func], []⟩
def t603 : TI := ⟨.func, 1, 8, [.nilFunc], [.func], []⟩
def t604 : TI := ⟨.func, 1, 8, [.nilFunc], [.func], []⟩
def t605 : TI := ⟨.func, 1, 8, [.nilFunc], [.func], []⟩
def t606 : TI := ⟨.func, 1, 8, [.nilFunc], [.func], []⟩
def t607 : TI := ⟨.func, 1, 8, [.nilFunc], [.func], []⟩
def t608 : TI := ⟨.func, 1, 8, [.nilFunc], [.func], []⟩
def t609 : TI := ⟨.func, 1, 8, [.nilFunc], [.func], []⟩
def t610 : TI := ⟨.func, 1, 8, [.nilFunc], [.func], []⟩
def t611 : TI := ⟨.func, 1, 8, [.nilFunc], [.func], []⟩
def t612 : TI := ⟨.func, 1, 8, [.nilFunc], [.func], []⟩
def t613 : TI := ⟨.struct [(0, 17), (1, 17), (2, 17), (3, 9)], 4, 40, [.pointer none, .pointer none, .pointer none, .string ⟨#[]⟩], [.ptr 624, .ptr 624, .ptr 624, .str], []⟩
def t614 : TI := ⟨.struct [(0, 17), (1, 17), (2, 17), (3, 9)], 4, 40, [.pointer none, .pointer none, .pointer none, .string ⟨#[]⟩], [.ptr 624, .ptr 624, .ptr 624, .str], []⟩
def t618 : TI := ⟨.int .u8, 1, 1, [.int .u8 0], [.int .u8], []⟩
def t619 : TI := ⟨.int .u8, 1, 1, [.int .u8 0], [.int .u8], []⟩
def t620 : TI := ⟨.func, 1, 8, [.nilFunc], [.func], []⟩
def t621 : TI := ⟨.int .i32, 1, 4, [.int .i32 0], [.int .i32], []⟩
def t622 : TI := ⟨.int .i32, 1, 4, [.int .i32 0], [.int .i32], []⟩
def t623 : TI := ⟨.struct [(0, 12), (1, 12), (2, 398), (3, 618), (4, 5), (5, 5), (6, 619), (7, 620), (8, 313), (9, 621), (10, 622)], 11, 48, [.int .u64 0, .int .u64 0, .int .u32 0, .int .u8 0, .int .u8 0, .int .u8 0, .int .u8 0, .nilFunc, .pointer none, .int .i32 0, .int .i32 0], [.int .u64, .int .u64, .int .u32, .int .u8, .int .u8, .int .u8, .int .u8, .func, .ptr 5, .int .i32, .int .i32], []⟩
def t624 : TI := ⟨.struct [(0, 12), (1, 12), (2, 398), (3, 618), (4, 5), (5, 5), (6, 619), (7, 620), (8, 313), (9, 621), (10, 622)], 11, 48, [.int .u64 0, .int .u64 0, .int .u32 0, .int .u8 0, .int .u8 0, .int .u8 0, .int .u8 0, .nilFunc, .pointer none, .int .i32 0, .int .i32 0], [.int .u64, .int .u64, .int .u32, .int .u8, .int .u8, .int .u8, .int .u8, .func, .ptr 5, .int .i32, .int .i32], []⟩
def tab : Tab := (.node (.node (.node (.node (.node (.node (.node (.node (.node (.node .nil 1 t1 .nil) 2 t2 .nil) 3 t3 (.node .nil 4 t4 .nil)) 5 t5 (.node (.node .nil 6 t6 .nil) 7 t7 (.node .nil 8 t8 .nil))) 9 t9 (.node (.node (.node (.node .nil 10 t10 .nil) 11 t11 .nil) 12 t12 (.node .nil 13 t13 .nil)) 14 t14 (.node (.node .nil 15 t15 .nil) 16 t16 (.node .nil 17 t17 .nil)))) 18 t18 (.node (.node (.node (.node (.node .nil 19 t19 .nil) 21 t21 .nil) 22 t22 (.node .nil 23 t23 .nil)) 24 t24 (.node (.node .nil 25 t25 .nil) 26 t26 (.node .nil 27 t27 .nil))) 28 t28 (.node (.node (.node (.node .nil 29 t29 .nil) 30 t30 .nil) 31 t31 (.node .nil 32 t32 .nil)) 33 t33 (.node (.node .nil 34 t34 .nil) 35 t35 (.node .nil 36 t36 .nil))))) 37 t37 (.node (.node (.node (.node (.node (.node .nil 38 t38 .nil) 40 t40 .nil) 42 t42 (.node .nil 43 t43 .nil)) 45 t45 (.node (.node .nil 46 t46 .nil) 47 t47 (.node .nil 48 t48 .nil))) 49 t49 (.node (.node (.node (.node .nil 50 t50 .nil) 51 t51 .nil) 52 t52 (.node .nil 53 t53 .nil)) 54 t54 (.node (.node .nil 55 t55 .nil) 56 t56 (.node .nil 57 t57 .nil)))) 58 t58 (.node (.node (.node (.node (.node .nil 60 t60 .nil) 61 t61 .nil) 62 t62 (.node .nil 63 t63 .nil)) 65 t65 (.node (.node .nil 67 t67 .nil) 68 t68 (.node .nil 69 t69 .nil))) 70 t70 (.node (.node (.node .nil 71 t71 .nil) 72 t72 (.node .nil 73 t73 .nil)) 74 t74 (.node (.node .nil 75 t75 .nil) 76 t76 (.node .nil 77 t77 .nil)))))) 78 t78 (.node (.node (.node (.node (.node (.node (.node .nil 79 t79 .nil) 80 t80 .nil) 81 t81 (.node .nil 82 t82 .nil)) 84 t84 (.node (.node .nil 86 t86 .nil) 88 t88 (.node .nil 89 t89 .nil))) 90 t90 (.node (.node (.node (.node .nil 91 t91 .nil) 92 t92 .nil) 93 t93 (.node .nil 94 t94 .nil)) 95 t95 (.node (.node .nil 96 t96 .nil) 97 t97 (.node .nil 98 t98 .nil)))) 99 t99 (.node (.node (.node (.node (.node .nil 100 t100 .nil) 101 t101 .nil) 102 t102 (.node .nil 103 t103 .nil)) 104 t104 (.node (.node .nil 105 t105 .nil) 106 t106 (.node .nil 108 t108 .nil))) 109 t109 (.node (.node (.node .nil 111 t111 .nil) 112 t112 (.node .nil 113 t113 .nil)) 114 t114 (.node (.node .nil 115 t115 .nil) 116 t116 (.node .nil 117 t117 .nil))))) 118 t118 (.node (.node (.node (.node (.node (.node .nil 119 t119 .nil) 120 t120 .nil) 121 t121 (.node .nil 123 t123 .nil)) 124 t124 (.node (.node .nil 125 t125 .nil) 126 t126 (.node .nil 127 t127 .nil))) 128 t128 (.node (.node (.node (.node .nil 129 t129 .nil) 130 t130 .nil) 131 t131 (.node .nil 132 t132 .nil)) 133 t133 (.node (.node .nil 134 t134 .nil) 135 t135 (.node .nil 136 t136 .nil)))) 137 t137 (.node (.node (.node (.node (.node .nil 138 t138 .nil) 139 t139 .nil) 140 t140 (.node .nil 141 t141 .nil)) 143 t143 (.node (.node .nil 144 t144 .nil) 145 t145 (.node .nil 146 t146 .nil))) 147 t147 (.node (.node (.node .nil 148 t148 .nil) 149 t149 (.node .nil 150 t150 .nil)) 151 t151 (.node (.node .nil 152 t152 .nil) 153 t153 (.node .nil 154 t154 .nil))))))) 156 t156 (.node (.node (.node (.node (.node (.node (.node (.node .nil 157 t157 .nil) 158 t158 .nil) 159 t159 (.node .nil 160 t160 .nil)) 161 t161 (.node (.node .nil 162 t162 .nil) 163 t163 (.node .nil 165 t165 .nil))) 166 t166 (.node (.node (.node (.node .nil 167 t167 .nil) 168 t168 .nil) 169 t169 (.node .nil 170 t170 .nil)) 172 t172 (.node (.node .nil 173 t173 .nil) 174 t174 (.node .nil 175 t175 .nil)))) 176 t176 (.node (.node (.node (.node (.node .nil 177 t177 .nil) 178 t178 .nil) 179 t179 (.node .nil 180 t180 .nil)) 181 t181 (.node (.node .nil 182 t182 .nil) 183 t183 (.node .nil 184 t184 .nil))) 185 t185 (.node (.node (.node (.node .nil 186 t186 .nil) 187 t187 .nil) 188 t188 (.node .nil 189 t189 .nil)) 190 t190 (.node (.node .nil 191 t191 .nil) 192 t192 (.node .nil 193 t193 .nil))))) 194 t194 (.node (.node (.node (.node (.node (.node .nil 195 t195 .nil) 196 t196 .nil) 197 t197 (.node .nil 198 t198 .nil)) 199 t199 (.node (.node .nil 200 t200 .nil) 201 t201 (.node .nil 202 t202 .nil))) 203 t203 (.node (.node (.node (.node .nil 204 t204 .nil) 205 t205 .nil) 206 t206 (.node .nil 207 t207 .nil)) 208 t208 (.node (.node .nil 209 t209 .nil) 210 t210 (.node .nil 212 t212 .nil)))) 213 t213 (.node (.node (.node (.node (.node .nil 214 t214 .nil) 216 t216 .nil) 217 t217 (.node .nil 218 t218 .nil)) 219 t219 (.node (.node .nil 220 t220 .nil) 221 t221 (.node .nil 222 t222 .nil))) 223 t223 (.node (.node (.node .nil 225 t225 .nil) 226 t226 (.node .nil 227 t227 .nil)) 228 t228 (.node (.node .nil 229 t229 .nil) 230 t230 (.node .nil 231 t231 .nil)))))) 235 t235 (.node (.node (.node (.node (.node (.node (.node .nil 236 t236 .nil) 237 t237 .nil) 238 t238 (.node .nil 239 t239 .nil)) 240 t240 (.node (.node .nil 241 t241 .nil) 242 t242 (.node .nil 243 t243 .nil))) 244 t244 (.node (.node (.node (.node .nil 245 t245 .nil) 246 t246 .nil) 247 t247 (.node .nil 248 t248 .nil)) 249 t249 (.node (.node .nil 250 t250 .nil) 251 t251 (.node .nil 252 t252 .nil)))) 253 t253 (.node (.node (.node (.node (.node .nil 254 t254 .nil) 255 t255 .nil) 256 t256 (.node .nil 258 t258 .nil)) 259 t259 (.node (.node .nil 260 t260 .nil) 261 t261 (.node .nil 262 t262 .nil))) 263 t263 (.node (.node (.node .nil 264 t264 .nil) 265 t265 (.node .nil 266 t266 .nil)) 267 t267 (.node (.node .nil 268 t268 .nil) 269 t269 (.node .nil 270 t270 .nil))))) 271 t271 (.node (.node (.node (.node (.node (.node .nil 272 t272 .nil) 273 t273 .nil) 275 t275 (.node .nil 277 t277 .nil)) 278 t278 (.node (.node .nil 279 t279 .nil) 280 t280 (.node .nil 281 t281 .nil))) 282 t282 (.node (.node (.node (.node .nil 283 t283 .nil) 284 t284 .nil) 285 t285 (.node .nil 286 t286 .nil)) 287 t287 (.node (.node .nil 288 t288 .nil) 290 t290 (.node .nil 291 t291 .nil)))) 293 t293 (.node (.node (.node (.node (.node .nil 294 t294 .nil) 295 t295 .nil) 296 t296 (.node .nil 297 t297 .nil)) 298 t298 (.node (.node .nil 299 t299 .nil) 300 t300 (.node .nil 301 t301 .nil))) 302 t302 (.node (.node (.node .nil 303 t303 .nil) 304 t304 (.node .nil 305 t305 .nil)) 306 t306 (.node (.node .nil 307 t307 .nil) 308 t308 (.node .nil 309 t309 .nil)))))))) 310 t310 (.node (.node (.node (.node (.node (.node (.node (.node (.node .nil 311 t311 .nil) 312 t312 .nil) 313 t313 (.node .nil 314 t314 .nil)) 315 t315 (.node (.node .nil 316 t316 .nil) 317 t317 (.node .nil 318 t318 .nil))) 319 t319 (.node (.node (.node (.node .nil 320 t320 .nil) 322 t322 .nil) 323 t323 (.node .nil 324 t324 .nil)) 325 t325 (.node (.node .nil 326 t326 .nil) 328 t328 (.node .nil 329 t329 .nil)))) 330 t330 (.node (.node (.node (.node (.node .nil 331 t331 .nil) 332 t332 .nil) 333 t333 (.node .nil 334 t334 .nil)) 335 t335 (.node (.node .nil 336 t336 .nil) 337 t337 (.node .nil 338 t338 .nil))) 340 t340 (.node (.node (.node (.node .nil 341 t341 .nil) 342 t342 .nil) 343 t343 (.node .nil 344 t344 .nil)) 345 t345 (.node (.node .nil 346 t346 .nil) 347 t347 (.node .nil 348 t348 .nil))))) 350 t350 (.node (.node (.node (.node (.node (.node .nil 352 t352 .nil) 353 t353 .nil) 354 t354 (.node .nil 355 t355 .nil)) 356 t356 (.node (.node .nil 357 t357 .nil) 359 t359 (.node .nil 360 t360 .nil))) 361 t361 (.node (.node (.node (.node .nil 362 t362 .nil) 363 t363 .nil) 364 t364 (.node .nil 365 t365 .nil)) 366 t366 (.node (.node .nil 367 t367 .nil) 368 t368 (.node .nil 369 t369 .nil)))) 370 t370 (.node (.node (.node (.node (.node .nil 371 t371 .nil) 373 t373 .nil) 374 t374 (.node .nil 376 t376 .nil)) 377 t377 (.node (.node .nil 378 t378 .nil) 379 t379 (.node .nil 380 t380 .nil))) 382 t382 (.node (.node (.node .nil 383 t383 .nil) 384 t384 (.node .nil 385 t385 .nil)) 386 t386 (.node (.node .nil 387 t387 .nil) 388 t388 (.node .nil 389 t389 .nil)))))) 390 t390 (.node (.node (.node (.node (.node (.node (.node .nil 391 t391 .nil) 392 t392 .nil) 394 t394 (.node .nil 395 t395 .nil)) 396 t396 (.node (.node .nil 397 t397 .nil) 398 t398 (.node .nil 400 t400 .nil))) 402 t402 (.node (.node (.node (.node .nil 403 t403 .nil) 404 t404 .nil) 405 t405 (.node .nil 406 t406 .nil)) 407 t407 (.node (.node .nil 409 t409 .nil) 410 t410 (.node .nil 411 t411 .nil)))) 413 t413 (.node (.node (.node (.node (.node .nil 414 t414 .nil) 415 t415 .nil) 416 t416 (.node .nil 417 t417 .nil)) 418 t418 (.node (.node .nil 419 t419 .nil) 420 t420 (.node .nil 421 t421 .nil))) 423 t423 (.node (.node (.node .nil 424 t424 .nil) 425 t425 (.node .nil 426 t426 .nil)) 427 t427 (.node (.node .nil 428 t428 .nil) 429 t429 (.node .nil 430 t430 .nil))))) 431 t431 (.node (.node (.node (.node (.node (.node .nil 432 t432 .nil) 434 t434 .nil) 435 t435 (.node .nil 436 t436 .nil)) 437 t437 (.node (.node .nil 438 t438 .nil) 439 t439 (.node .nil 440 t440 .nil))) 441 t441 (.node (.node (.node (.node .nil 442 t442 .nil) 443 t443 .nil) 444 t444 (.node .nil 445 t445 .nil)) 447 t447 (.node (.node .nil 449 t449 .nil) 450 t450 (.node .nil 452 t452 .nil)))) 453 t453 (.node (.node (.node (.node (.node .nil 454 t454 .nil) 455 t455 .nil) 456 t456 (.node .nil 457 t457 .nil)) 458 t458 (.node (.node .nil 459 t459 .nil) 460 t460 (.node .nil 461 t461 .nil))) 462 t462 (.node (.node (.node .nil 463 t463 .nil) 464 t464 (.node .nil 466 t466 .nil)) 467 t467 (.node (.node .nil 468 t468 .nil) 469 t469 (.node .nil 470 t470 .nil))))))) 471 t471 (.node (.node (.node (.node (.node (.node (.node (.node .nil 472 t472 .nil) 473 t473 .nil) 475 t475 (.node .nil 476 t476 .nil)) 477 t477 (.node (.node .nil 478 t478 .nil) 479 t479 (.node .nil 480 t480 .nil))) 481 t481 (.node (.node (.node (.node .nil 482 t482 .nil) 484 t484 .nil) 485 t485 (.node .nil 486 t486 .nil)) 487 t487 (.node (.node .nil 488 t488 .nil) 489 t489 (.node .nil 490 t490 .nil)))) 493 t493 (.node (.node (.node (.node (.node .nil 494 t494 .nil) 496 t496 .nil) 497 t497 (.node .nil 498 t498 .nil)) 499 t499 (.node (.node .nil 500 t500 .nil) 501 t501 (.node .nil 502 t502 .nil))) 503 t503 (.node (.node (.node (.node .nil 504 t504 .nil) 505 t505 .nil) 507 t507 (.node .nil 508 t508 .nil)) 509 t509 (.node (.node .nil 511 t511 .nil) 512 t512 (.node .nil 513 t513 .nil))))) 514 t514 (.node (.node (.node (.node (.node (.node .nil 515 t515 .nil) 516 t516 .nil) 517 t517 (.node .nil 518 t518 .nil)) 519 t519 (.node (.node .nil 520 t520 .nil) 521 t521 (.node .nil 522 t522 .nil))) 523 t523 (.node (.node (.node (.node .nil 524 t524 .nil) 525 t525 .nil) 526 t526 (.node .nil 527 t527 .nil)) 529 t529 (.node (.node .nil 530 t530 .nil) 531 t531 (.node .nil 532 t532 .nil)))) 533 t533 (.node (.node (.node (.node (.node .nil 534 t534 .nil) 535 t535 .nil) 536 t536 (.node .nil 537 t537 .nil)) 538 t538 (.node (.node .nil 539 t539 .nil) 540 t540 (.node .nil 541 t541 .nil))) 542 t542 (.node (.node (.node .nil 543 t543 .nil) 544 t544 (.node .nil 545 t545 .nil)) 546 t546 (.node (.node .nil 547 t547 .nil) 548 t548 (.node .nil 549 t549 .nil)))))) 550 t550 (.node (.node (.node (.node (.node (.node (.node .nil 551 t551 .nil) 552 t552 .nil) 553 t553 (.node .nil 554 t554 .nil)) 555 t555 (.node (.node .nil 556 t556 .nil) 557 t557 (.node .nil 558 t558 .nil))) 559 t559 (.node (.node (.node (.node .nil 560 t560 .nil) 561 t561 .nil) 562 t562 (.node .nil 563 t563 .nil)) 564 t564 (.node (.node .nil 565 t565 .nil) 567 t567 (.node .nil 568 t568 .nil)))) 569 t569 (.node (.node (.node (.node (.node .nil 570 t570 .nil) 571 t571 .nil) 572 t572 (.node .nil 573 t573 .nil)) 574 t574 (.node (.node .nil 575 t575 .nil) 576 t576 (.node .nil 577 t577 .nil))) 578 t578 (.node (.node (.node .nil 579 t579 .nil) 580 t580 (.node .nil 581 t581 .nil)) 582 t582 (.node (.node .nil 583 t583 .nil) 584 t584 (.node .nil 585 t585 .nil))))) 587 t587 (.node (.node (.node (.node (.node (.node .nil 588 t588 .nil) 589 t589 .nil) 590 t590 (.node .nil 591 t591 .nil)) 592 t592 (.node (.node .nil 593 t593 .nil) 594 t594 (.node .nil 595 t595 .nil))) 596 t596 (.node (.node (.node (.node .nil 597 t597 .nil) 598 t598 .nil) 599 t599 (.node .nil 600 t600 .nil)) 601 t601 (.node (.node .nil 602 t602 .nil) 603 t603 (.node .nil 604 t604 .nil)))) 605 t605 (.node (.node (.node (.node (.node .nil 606 t606 .nil) 607 t607 .nil) 608 t608 (.node .nil 609 t609 .nil)) 610 t610 (.node (.node .nil 611 t611 .nil) 612 t612 (.node .nil 613 t613 .nil))) 614 t614 (.node (.node (.node .nil 618 t618 .nil) 619 t619 (.node .nil 620 t620 .nil)) 621 t621 (.node (.node .nil 622 t622 .nil) 623 t623 (.node .nil 624 t624 .nil)))))))))
theorem tab_b : tabB Tryz.prog tab = true := by kernel_rfl
theorem tab_ok : TabOk Tryz.prog tab := tabOk_of tab_b
theorem nm0 : (Tryz.f0.name == "runtime.NumGoroutine") = false := by kernel_rfl
theorem nm1 : (Tryz.f1.name == "runtime.NumGoroutine") = false := by kernel_rfl
theorem nm2 : (Tryz.f2.name == "runtime.NumGoroutine") = false := by kernel_rfl
theorem nm3 : (Tryz.f3.name == "runtime.NumGoroutine") = false := by kernel_rfl
theorem nm4 : (Tryz.f4.name == "runtime.NumGoroutine") = false := by kernel_rfl
theorem nm5 : (Tryz.f5.name == "runtime.NumGoroutine") = false := by kernel_rfl
theorem nm6 : (Tryz.f6.name == "runtime.NumGoroutine") = false := by kernel_rfl
theorem nm7 : (Tryz.f7.name == "runtime.NumGoroutine") = false := by kernel_rfl
theorem nm8 : (Tryz.f8.name == "runtime.NumGoroutine") = false := by kernel_rfl
theorem nm9 : (Tryz.f9.name == "runtime.NumGoroutine") = false := by kernel_rfl
theorem nm10 : (Tryz.f10.name == "runtime.NumGoroutine") = false := by kernel_rfl
theorem nm11 : (Tryz.f11.name == "runtime.NumGoroutine") = false := by kernel_rfl
theorem nm12 : (Tryz.f12.name == "runtime.NumGoroutine") = false := by kernel_rfl
theorem nm13 : (Tryz.f13.name == "runtime.NumGoroutine") = false := by kernel_rfl
theorem nm14 : (Tryz.f14.name == "runtime.NumGoroutine") = false := by kernel_rfl
theorem nm15 : (Tryz.f15.name == "runtime.NumGoroutine") = false := by kernel_rfl
theorem nm16 : (Tryz.f16.name == "runtime.NumGoroutine") = false := by kernel_rfl
theorem nm17 : (Tryz.f17.name == "runtime.NumGoroutine") = false := by kernel_rfl
theorem nm18 : (Tryz.f18.name == "runtime.NumGoroutine") = false := by kernel_rfl
theorem nm19 : (Tryz.f19.name == "runtime.NumGoroutine") = false := by kernel_rfl
theorem nm20 : (Tryz.f20.name == "runtime.NumGoroutine") = false := by kernel_rfl
theorem nm21 : (Tryz.f21.name == "runtime.NumGoroutine") = false := by kernel_rfl
theorem nm22 : (Tryz.f22.name == "runtime.NumGoroutine") = false := by kernel_rfl
theorem nm23 : (Tryz.f23.name == "runtime.NumGoroutine") = false := by kernel_rfl
theorem nm24 : (Tryz.f24.name == "runtime.NumGoroutine") = false := by kernel_rfl
theorem nm25 : (Tryz.f25.name == "runtime.NumGoroutine") = false := by kernel_rfl
theorem nm26 : (Tryz.f26.name == "runtime.NumGoroutine") = false := by kernel_rfl
theorem nm27 : (Tryz.f27.name == "runtime.NumGoroutine") = false := by kernel_rfl
theorem nm28 : (Tryz.f28.name == "runtime.NumGoroutine") = false := by kernel_rfl
theorem nm29 : (Tryz.f29.name == "runtime.NumGoroutine") = false := by kernel_rfl
theorem nm30 : (Tryz.f30.name == "runtime.NumGoroutine") = false := by kernel_rfl
theorem nm31 : (Tryz.f31.name == "runtime.NumGoroutine") = false := by kernel_rfl
theorem nm32 : (Tryz.f32.name == "runtime.NumGoroutine") = false := by kernel_rfl
theorem nm33 : (Tryz.f33.name == "runtime.NumGoroutine") = false := by kernel_rfl
theorem nm34 : (Tryz.f34.name == "runtime.NumGoroutine") = false := by kernel_rfl
theorem nm35 : (Tryz.f35.name == "runtime.NumGoroutine") = false := by kernel_rfl
theorem nm36 : (Tryz.f36.name == "runtime.NumGoroutine") = false := by kernel_rfl
theorem nm37 : (Tryz.f37.name == "runtime.NumGoroutine") = false := by kernel_rfl
theorem nm38 : (Tryz.f38.name == "runtime.NumGoroutine") = false := by kernel_rfl
theorem nm39 : (Tryz.f39.name == "runtime.NumGoroutine") = false := by kernel_rfl
theorem nm40 : (Tryz.f40.name == "runtime.NumGoroutine") = false := by kernel_rfl
theorem nm41 : (Tryz.f41.name == "runtime.NumGoroutine") = false := by kernel_rfl
theorem nm42 : (Tryz.f42.name == "runtime.NumGoroutine") = false := by kernel_rfl
theorem nm43 : (Tryz.f43.name == "runtime.NumGoroutine") = false := by kernel_rfl
theorem nm44 : (Tryz.f44.name == "runtime.NumGoroutine") = false := by kernel_rfl
theorem nm45 : (Tryz.f45.name == "runtime.NumGoroutine") = false := by kernel_rfl
theorem nm46 : (Tryz.f46.name == "runtime.NumGoroutine") = false := by kernel_rfl
theorem nm47 : (Tryz.f47.name == "runtime.NumGoroutine") = false := by kernel_rfl
theorem nm48 : (Tryz.f48.name == "runtime.NumGoroutine") = false := by kernel_rfl
theorem nm49 : (Tryz.f49.name == "runtime.NumGoroutine") = false := by kernel_rfl
theorem nm50 : (Tryz.f50.name == "runtime.NumGoroutine") = false := by kernel_rfl
theorem nm51 : (Tryz.f51.name == "runtime.NumGoroutine") = false := by kernel_rfl
theorem nm52 : (Tryz.f52.name == "runtime.NumGoroutine") = false := by kernel_rfl
theorem nm53 : (Tryz.f53.name == "runtime.NumGoroutine") = false := by kernel_rfl
theorem nm54 : (Tryz.f54.name == "runtime.NumGoroutine") = false := by kernel_rfl
theorem nm55 : (Tryz.f55.name == "runtime.NumGoroutine") = false := by kernel_rfl
theorem nm56 : (Tryz.f56.name == "runtime.NumGoroutine") = false := by kernel_rfl
theorem nm57 : (Tryz.f57.name == "runtime.NumGoroutine") = false := by kernel_rfl
theorem nm58 : (Tryz.f58.name == "runtime.NumGoroutine") = false := by kernel_rfl
theorem nm59 : (Tryz.f59.name == "runtime.NumGoroutine") = false := by kernel_rfl
theorem nm60 : (Tryz.f60.name == "runtime.NumGoroutine") = false := by kernel_rfl
theorem nm61 : (Tryz.f61.name == "runtime.NumGoroutine") = false := by kernel_rfl
theorem nm62 : (Tryz.f62.name == "runtime.NumGoroutine") = false := by kernel_rfl
theorem nm63 : (Tryz.f63.name == "runtime.NumGoroutine") = false := by kernel_rfl
theorem nm64 : (Tryz.f64.name == "runtime.NumGoroutine") = false := by kernel_rfl
theorem nm65 : (Tryz.f65.name == "runtime.NumGoroutine") = false := by kernel_rfl
theorem nm66 : (Tryz.f66.name == "runtime.NumGoroutine") = false := by kernel_rfl
theorem nm67 : (Tryz.f67.name == "runtime.NumGoroutine") = false := by kernel_rfl
theorem nm68 : (Tryz.f68.name == "runtime.NumGoroutine") = false := by kernel_rfl
theorem nm69 : (Tryz.f69.name == "runtime.NumGoroutine") = false := by kernel_rfl
theorem nm70 : (Tryz.f70.name == "runtime.NumGoroutine") = false := by kernel_rfl
theorem nm71 : (Tryz.f71.name == "runtime.NumGoroutine") = false := by kernel_rfl
theorem nm72 : (Tryz.f72.name == "runtime.NumGoroutine") = false := by kernel_rfl
theorem nm73 : (Tryz.f73.name == "runtime.NumGoroutine") = false := by kernel_rfl
theorem nm74 : (Tryz.f74.name == "runtime.NumGoroutine") = false := by kernel_rfl
theorem nm75 : (Tryz.f75.name == "runtime.NumGoroutine") = false := by kernel_rfl
theorem nm76 : (Tryz.f76.name == "runtime.NumGoroutine") = false := by kernel_rfl
theorem nm77 : (Tryz.f77.name == "runtime.NumGoroutine") = false := by kernel_rfl
theorem nm78 : (Tryz.f78.name == "runtime.NumGoroutine") = false := by kernel_rfl
theorem nm79 : (Tryz.f79.name == "runtime.NumGoroutine") = false := by kernel_rfl
theorem nm80 : (Tryz.f80.name == "runtime.NumGoroutine") = false := by kernel_rfl
theorem nm81 : (Tryz.f81.name == "runtime.NumGoroutine") = false := by kernel_rfl
theorem nm82 : (Tryz.f82.name == "runtime.NumGoroutine") = false := by kernel_rfl
theorem nm83 : (Tryz.f83.name == "runtime.NumGoroutine") = false := by kernel_rfl
theorem nm84 : (Tryz.f84.name == "runtime.NumGoroutine") = false := by kernel_rfl
theorem nm85 : (Tryz.f85.name == "runtime.NumGoroutine") = false := by kernel_rfl
theorem nm86 : (Tryz.f86.name == "runtime.NumGoroutine") = false := by kernel_rfl
theorem nm87 : (Tryz.f87.name == "runtime.NumGoroutine") = false := by kernel_rfl
theorem nm88 : (Tryz.f88.name == "runtime.NumGoroutine") = false := by kernel_rfl
theorem nm89 : (Tryz.f89.name == "runtime.NumGoroutine") = false := by kernel_rfl
theorem nm90 : (Tryz.f90.name == "runtime.NumGoroutine") = false := by kernel_rfl
theorem nm91 : (Tryz.f91.name == "runtime.NumGoroutine") = false := by kernel_rfl
theorem nm92 : (Tryz.f92.name == "runtime.NumGoroutine") = false := by kernel_rfl
theorem nm93 : (Tryz.f93.name == "runtime.NumGoroutine") = false := by kernel_rfl
theorem nm94 : (Tryz.f94.name == "runtime.NumGoroutine") = false := by kernel_rfl
theorem nm95 : (Tryz.f95.name == "runtime.NumGoroutine") = false := by kernel_rfl
theorem nm96 : (Tryz.f96.name == "runtime.NumGoroutine") = false := by kernel_rfl
theorem nm97 : (Tryz.f97.name == "runtime.NumGoroutine") = false := by kernel_rfl
theorem nm98 : (Tryz.f98.name == "runtime.NumGoroutine") = false := by kernel_rfl
theorem nm99 : (Tryz.f99.name == "runtime.NumGoroutine") = false := by kernel_rfl
theorem nm100 : (Tryz.f100.name == "runtime.NumGoroutine") = false := by kernel_rfl
theorem nm101 : (Tryz.f101.name == "runtime.NumGoroutine") = false := by kernel_rfl
theorem nm102 : (Tryz.f102.name == "runtime.NumGoroutine") = false := by kernel_rfl
theorem nm103 : (Tryz.f103.name == "runtime.NumGoroutine") = false := by kernel_rfl
theorem nm104 : (Tryz.f104.name == "runtime.NumGoroutine") = false := by kernel_rfl
theorem nm105 : (Tryz.f105.name == "runtime.NumGoroutine") = false := by kernel_rfl
theorem nm106 : (Tryz.f106.name == "runtime.NumGoroutine") = false := by kernel_rfl
theorem nm107 : (Tryz.f107.name == "runtime.NumGoroutine") = false := by kernel_rfl
theorem nm108 : (Tryz.f108.name == "runtime.NumGoroutine") = false := by kernel_rfl
theorem nm109 : (Tryz.f109.name == "runtime.NumGoroutine") = false := by kernel_rfl
theorem nm110 : (Tryz.f110.name == "runtime.NumGoroutine") = false := by kernel_rfl
theorem nm111 : (Tryz.f111.name == "runtime.NumGoroutine") = false := by kernel_rfl
theorem nm112 : (Tryz.f112.name == "runtime.NumGoroutine") = false := by kernel_rfl
theorem nm113 : (Tryz.f113.name == "runtime.NumGoroutine") = false := by kernel_rfl
theorem nm114 : (Tryz.f114.name == "runtime.NumGoroutine") = false := by kernel_rfl
theorem nm115 : (Tryz.f115.name == "runtime.NumGoroutine") = false := by kernel_rfl
theorem nm116 : (Tryz.f116.name == "runtime.NumGoroutine") = false := by kernel_rfl
theorem nm117 : (Tryz.f117.name == "runtime.NumGoroutine") = false := by kernel_rfl
theorem nm118 : (Tryz.f118.name == "runtime.NumGoroutine") = false := by kernel_rfl
theorem nm119 : (Tryz.f119.name == "runtime.NumGoroutine") = false := by kernel_rfl
theorem nm120 : (Tryz.f120.name == "runtime.NumGoroutine") = false := by kernel_rfl
theorem nm121 : (Tryz.f121.name == "runtime.NumGoroutine") = false := by kernel_rfl
theorem nm122 : (Tryz.f122.name == "runtime.NumGoroutine") = false := by kernel_rfl
theorem nm123 : (Tryz.f123.name == "runtime.NumGoroutine") = false := by kernel_rfl
theorem nm124 : (Tryz.f124.name == "runtime.NumGoroutine") = false := by kernel_rfl
theorem nm125 : (Tryz.f125.name == "runtime.NumGoroutine") = false := by kernel_rfl
theorem nm126 : (Tryz.f126.name == "runtime.NumGoroutine") = false := by kernel_rfl
theorem nm127 : (Tryz.f127.name == "runtime.NumGoroutine") = false := by kernel_rfl
theorem nm128 : (Tryz.f128.name == "runtime.NumGoroutine") = false := by kernel_rfl
theorem nm129 : (Tryz.f129.name == "runtime.NumGoroutine") = false := by kernel_rfl
theorem nm130 : (Tryz.f130.name == "runtime.NumGoroutine") = false := by kernel_rfl
theorem nm131 : (Tryz.f131.name == "runtime.NumGoroutine") = false := by kernel_rfl
theorem nm132 : (Tryz.f132.name == "runtime.NumGoroutine") = false := by kernel_rfl
theorem nm133 : (Tryz.f133.name == "runtime.NumGoroutine") = false := by kernel_rfl
theorem nm134 : (Tryz.f134.name == "runtime.NumGoroutine") = false := by kernel_rfl
theorem nm135 : (Tryz.f135.name == "runtime.NumGoroutine") = false := by kernel_rfl
theorem nm136 : (Tryz.f136.name == "runtime.NumGoroutine") = false := by kernel_rfl
theorem nm137 : (Tryz.f137.name == "runtime.NumGoroutine") = false := by kernel_rfl
theorem nm138 : (Tryz.f138.name == "runtime.NumGoroutine") = false := by kernel_rfl
theorem nm139 : (Tryz.f139.name == "runtime.NumGoroutine") = false := by kernel_rfl
theorem nm140 : (Tryz.f140.name == "runtime.NumGoroutine") = false := by kernel_rfl
theorem nm141 : (Tryz.f141.name == "runtime.NumGoroutine") = false := by kernel_rfl
theorem nm142 : (Tryz.f142.name == "runtime.NumGoroutine") = false := by kernel_rfl
theorem nm143 : (Tryz.f143.name == "runtime.NumGoroutine") = false := by kernel_rfl
theorem nm144 : (Tryz.f144.name == "runtime.NumGoroutine") = false := by kernel_rfl
theorem nm145 : (Tryz.f145.name == "runtime.NumGoroutine") = false := by kernel_rfl
theorem nm146 : (Tryz.f146.name == "runtime.NumGoroutine") = false := by kernel_rfl
theorem nm147 : (Tryz.f147.name == "runtime.NumGoroutine") = false := by kernel_rfl
theorem nm148 : (Tryz.f148.name == "runtime.NumGoroutine") = false := by kernel_rfl
theorem nm149 : (Tryz.f149.name == "runtime.NumGoroutine") = false := by kernel_rfl
theorem nm150 : (Tryz.f150.name == "runtime.NumGoroutine") = false := by kernel_rfl
theorem nm151 : (Tryz.f151.name == "runtime.NumGoroutine") = false := by kernel_rfl
theorem nm152 : (Tryz.f152.name == "runtime.NumGoroutine") = false := by kernel_rfl
theorem nm153 : (Tryz.f153.name == "runtime.NumGoroutine") = false := by kernel_rfl
theorem nm154 : (Tryz.f154.name == "runtime.NumGoroutine") = false := by kernel_rfl
theorem nm155 : (Tryz.f155.name == "runtime.NumGoroutine") = false := by kernel_rfl
theorem nm156 : (Tryz.f156.name == "runtime.NumGoroutine") = false := by kernel_rfl
theorem nm157 : (Tryz.f157.name == "runtime.NumGoroutine") = false := by kernel_rfl
theorem nm158 : (Tryz.f158.name == "runtime.NumGoroutine") = false := by kernel_rfl
theorem nm159 : (Tryz.f159.name == "runtime.NumGoroutine") = false := by kernel_rfl
theorem nm160 : (Tryz.f160.name == "runtime.NumGoroutine") = false := by kernel_rfl
theorem nm161 : (Tryz.f161.name == "runtime.NumGoroutine") = false := by kernel_rfl
theorem nm162 : (Tryz.f162.name == "runtime.NumGoroutine") = false := by kernel_rfl
theorem nm163 : (Tryz.f163.name == "runtime.NumGoroutine") = false := by kernel_rfl
theorem nm164 : (Tryz.f164.name == "runtime.NumGoroutine") = false := by kernel_rfl
theorem nm165 : (Tryz.f165.name == "runtime.NumGoroutine") = false := by kernel_rfl
theorem nm166 : (Tryz.f166.name == "runtime.NumGoroutine") = false := by kernel_rfl
theorem nm167 : (Tryz.f167.name == "runtime.NumGoroutine") = false := by kernel_rfl
theorem nm168 : (Tryz.f168.name == "runtime.NumGoroutine") = false := by kernel_rfl
theorem nm169 : (Tryz.f169.name == "runtime.NumGoroutine") = false := by kernel_rfl
theorem nm170 : (Tryz.f170.name == "runtime.NumGoroutine") = false := by kernel_rfl
theorem nm171 : (Tryz.f171.name == "runtime.NumGoroutine") = false := by kernel_rfl
theorem nm172 : (Tryz.f172.name == "runtime.NumGoroutine") = false := by kernel_rfl
theorem nm173 : (Tryz.f173.name == "runtime.NumGoroutine") = false := by kernel_rfl
theorem nm174 : (Tryz.f174.name == "runtime.NumGoroutine") = false := by kernel_rfl
theorem nm175 : (Tryz.f175.name == "runtime.NumGoroutine") = false := by kernel_rfl
theorem nm176 : (Tryz.f176.name == "runtime.NumGoroutine") = false := by kernel_rfl
theorem nm177 : (Tryz.f177.name == "runtime.NumGoroutine") = false := by kernel_rfl
theorem nm178 : (Tryz.f178.name == "runtime.NumGoroutine") = false := by kernel_rfl
theorem nm179 : (Tryz.f179.name == "runtime.NumGoroutine") = false := by kernel_rfl
theorem nm180 : (Tryz.f180.name == "runtime.NumGoroutine") = false := by kernel_rfl
theorem nm181 : (Tryz.f181.name == "runtime.NumGoroutine") = false := by kernel_rfl
theorem nm182 : (Tryz.f182.name == "runtime.NumGoroutine") = false := by kernel_rfl
theorem nm183 : (Tryz.f183.name == "runtime.NumGoroutine") = false := by kernel_rfl
theorem nm184 : (Tryz.f184.name == "runtime.NumGoroutine") = false := by kernel_rfl
theorem nm185 : (Tryz.f185.name == "runtime.NumGoroutine") = false := by kernel_rfl
theorem nm186 : (Tryz.f186.name == "runtime.NumGoroutine") = false := by kernel_rfl
theorem nm187 : (Tryz.f187.name == "runtime.NumGoroutine") = false := by kernel_rfl
theorem nm188 : (Tryz.f188.name == "runtime.NumGoroutine") = false := by kernel_rfl
theorem nm189 : (Tryz.f189.name == "runtime.NumGoroutine") = false := by kernel_rfl
theorem nm190 : (Tryz.f190.name == "runtime.NumGoroutine") = false := by kernel_rfl
theorem nm191 : (Tryz.f191.name == "runtime.NumGoroutine") = false := by kernel_rfl
theorem nm192 : (Tryz.f192.name == "runtime.NumGoroutine") = false := by kernel_rfl
theorem nm193 : (Tryz.f193.name == "runtime.NumGoroutine") = false := by kernel_rfl
theorem nm194 : (Tryz.f194.name == "runtime.NumGoroutine") = false := by kernel_rfl
theorem nm195 : (Tryz.f195.name == "runtime.NumGoroutine") = false := by kernel_rfl
theorem nm196 : (Tryz.f196.name == "runtime.NumGoroutine") = false := by kernel_rfl
theorem nm197 : (Tryz.f197.name == "runtime.NumGoroutine") = false := by kernel_rfl
theorem nm198 : (Tryz.f198.name == "runtime.NumGoroutine") = false := by kernel_rfl
theorem nm199 : (Tryz.f199.name == "runtime.NumGoroutine") = false := by kernel_rfl
theorem nm200 : (Tryz.f200.name == "runtime.NumGoroutine") = false := by kernel_rfl
theorem nm201 : (Tryz.f201.name == "runtime.NumGoroutine") = false := by kernel_rfl
theorem nm202 : (Tryz.f202.name == "runtime.NumGoroutine") = false := by kernel_rfl
theorem nm203 : (Tryz.f203.name == "runtime.NumGoroutine") = false := by kernel_rfl
theorem nm204 : (Tryz.f204.name == "runtime.NumGoroutine") = false := by kernel_rfl
theorem nm205 : (Tryz.f205.name == "runtime.NumGoroutine") = false := by kernel_rfl
theorem nm206 : (Tryz.f206.name == "runtime.NumGoroutine") = false := by kernel_rfl
theorem nm207 : (Tryz.f207.name == "runtime.NumGoroutine") = false := by kernel_rfl
theorem nm208 : (Tryz.f208.name == "runtime.NumGoroutine") = false := by kernel_rfl
theorem nm209 : (Tryz.f209.name == "runtime.NumGoroutine") = false := by kernel_rfl
theorem nm210 : (Tryz.f210.name == "runtime.NumGoroutine") = false := by kernel_rfl
theorem nm211 : (Tryz.f211.name == "runtime.NumGoroutine") = false := by kernel_rfl
theorem nm212 : (Tryz.f212.name == "runtime.NumGoroutine") = false := by kernel_rfl
theorem nm213 : (Tryz.f213.name == "runtime.NumGoroutine") = false := by kernel_rfl
theorem nm214 : (Tryz.f214.name == "runtime.NumGoroutine") = false := by kernel_rfl
theorem nm215 : (Tryz.f215.name == "runtime.NumGoroutine") = false := by kernel_rfl
theorem nm216 : (Tryz.f216.name == "runtime.NumGoroutine") = false := by kernel_rfl
theorem nm217 : (Tryz.f217.name == "runtime.NumGoroutine") = false := by kernel_rfl
theorem nm218 : (Tryz.f218.name == "runtime.NumGoroutine") = false := by kernel_rfl
theorem nm219 : (Tryz.f219.name == "runtime.NumGoroutine") = false := by kernel_rfl
theorem nm220 : (Tryz.f220.name == "runtime.NumGoroutine") = false := by kernel_rfl
theorem nm221 : (Tryz.f221.name == "runtime.NumGoroutine") = false := by kernel_rfl
theorem nm222 : (Tryz.f222.name == "runtime.NumGoroutine") = false := by kernel_rfl
theorem nm223 : (Tryz.f223.name == "runtime.NumGoroutine") = false := by kernel_rfl
theorem nm224 : (Tryz.f224.name == "runtime.NumGoroutine") = false := by kernel_rfl
theorem nm225 : (Tryz.f225.name == "runtime.NumGoroutine") = false := by kernel_rfl
theorem nm226 : (Tryz.f226.name == "runtime.NumGoroutine") = false := by kernel_rfl
theorem nm227 : (Tryz.f227.name == "runtime.NumGoroutine") = false := by kernel_rfl
theorem nm228 : (Tryz.f228.name == "runtime.NumGoroutine") = false := by kernel_rfl
theorem nm229 : (Tryz.f229.name == "runtime.NumGoroutine") = false := by kernel_rfl
theorem nm230 : (Tryz.f230.name == "runtime.NumGoroutine") = false := by kernel_rfl
theorem nm231 : (Tryz.f231.name == "runtime.NumGoroutine") = false := by kernel_rfl
theorem nm232 : (Tryz.f232.name == "runtime.NumGoroutine") = false := by kernel_rfl
theorem nm233 : (Tryz.f233.name == "runtime.NumGoroutine") = false := by kernel_rfl
theorem nm234 : (Tryz.f234.name == "runtime.NumGoroutine") = false := by kernel_rfl
theorem nm235 : (Tryz.f235.name == "runtime.NumGoroutine") = false := by kernel_rfl
theorem nm236 : (Tryz.f236.name == "runtime.NumGoroutine") = false := by kernel_rfl
theorem nm237 : (Tryz.f237.name == "runtime.NumGoroutine") = false := by kernel_rfl
theorem nm238 : (Tryz.f238.name == "runtime.NumGoroutine") = false := by kernel_rfl
theorem nm239 : (Tryz.f239.name == "runtime.NumGoroutine") = false := by kernel_rfl
theorem nm240 : (Tryz.f240.name == "runtime.NumGoroutine") = false := by kernel_rfl
theorem nm241 : (Tryz.f241.name == "runtime.NumGoroutine") = false := by kernel_rfl
theorem nm242 : (Tryz.f242.name == "runtime.NumGoroutine") = false := by kernel_rfl
theorem nm243 : (Tryz.f243.name == "runtime.NumGoroutine") = false := by kernel_rfl
theorem nm244 : (Tryz.f244.name == "runtime.NumGoroutine") = false := by kernel_rfl
theorem nm245 : (Tryz.f245.name == "runtime.NumGoroutine") = false := by kernel_rfl
theorem nm246 : (Tryz.f246.name == "runtime.NumGoroutine") = false := by kernel_rfl
theorem nm247 : (Tryz.f247.name == "runtime.NumGoroutine") = false := by kernel_rfl
theorem nm248 : (Tryz.f248.name == "runtime.NumGoroutine") = false := by kernel_rfl
theorem nm249 : (Tryz.f249.name == "runtime.NumGoroutine") = false := by kernel_rfl
theorem nm250 : (Tryz.f250.name == "runtime.NumGoroutine") = false := by kernel_rfl
theorem nm251 : (Tryz.f251.name == "runtime.NumGoroutine") = false := by kernel_rfl
theorem nm252 : (Tryz.f252.name == "runtime.NumGoroutine") = false := by kernel_rfl
theorem nm253 : (Tryz.f253.name == "runtime.NumGoroutine") = false := by kernel_rfl
theorem nm254 : (Tryz.f254.name == "runtime.NumGoroutine") = false := by kernel_rfl
theorem nm255 : (Tryz.f255.name == "runtime.NumGoroutine") = false := by kernel_rfl
theorem nm256 : (Tryz.f256.name == "runtime.NumGoroutine") = false := by kernel_rfl
theorem nm257 : (Tryz.f257.name == "runtime.NumGoroutine") = false := by kernel_rfl
theorem nm258 : (Tryz.f258.name == "runtime.NumGoroutine") = false := by kernel_rfl
theorem nm259 : (Tryz.f259.name == "runtime.NumGoroutine") = false := by kernel_rfl
theorem nm260 : (Tryz.f260.name == "runtime.NumGoroutine") = false := by kernel_rfl
theorem nm261 : (Tryz.f261.name == "runtime.NumGoroutine") = false := by kernel_rfl
theorem nm262 : (Tryz.f262.name == "runtime.NumGoroutine") = false := by kernel_rfl
theorem nm263 : (Tryz.f263.name == "runtime.NumGoroutine") = false := by kernel_rfl
theorem nm264 : (Tryz.f264.name == "runtime.NumGoroutine") = false := by kernel_rfl
theorem nm265 : (Tryz.f265.name == "runtime.NumGoroutine") = false := by kernel_rfl
theorem nm266 : (Tryz.f266.name == "runtime.NumGoroutine") = false := by kernel_rfl
theorem nm267 : (Tryz.f267.name == "runtime.NumGoroutine") = false := by kernel_rfl
theorem nm268 : (Tryz.f268.name == "runtime.NumGoroutine") = false := by kernel_rfl
theorem nm269 : (Tryz.f269.name == "runtime.NumGoroutine") = false := by kernel_rfl
theorem nm270 : (Tryz.f270.name == "runtime.NumGoroutine") = false := by kernel_rfl
theorem nm271 : (Tryz.f271.name == "runtime.NumGoroutine") = false := by kernel_rfl
theorem nm272 : (Tryz.f272.name == "runtime.NumGoroutine") = false := by kernel_rfl
theorem nm273 : (Tryz.f273.name == "runtime.NumGoroutine") = false := by kernel_rfl
theorem nm274 : (Tryz.f274.name == "runtime.NumGoroutine") = false := by kernel_rfl
theorem nm275 : (Tryz.f275.name == "runtime.NumGoroutine") = false := by kernel_rfl
theorem nm276 : (Tryz.f276.name == "runtime.NumGoroutine") = false := by kernel_rfl
theorem nm277 : (Tryz.f277.name == "runtime.NumGoroutine") = false := by kernel_rfl
theorem nm278 : (Tryz.f278.name == "runtime.NumGoroutine") = false := by kernel_rfl
theorem nm279 : (Tryz.f279.name == "runtime.NumGoroutine") = false := by kernel_rfl
theorem nm280 : (Tryz.f280.name == "runtime.NumGoroutine") = false := by kernel_rfl
theorem nm281 : (Tryz.f281.name == "runtime.NumGoroutine") = false := by kernel_rfl
theorem nm282 : (Tryz.f282.name == "runtime.NumGoroutine") = false := by kernel_rfl
theorem nm283 : (Tryz.f283.name == "runtime.NumGoroutine") = false := by kernel_rfl
theorem nm284 : (Tryz.f284.name == "runtime.NumGoroutine") = false := by kernel_rfl
theorem nm285 : (Tryz.f285.name == "runtime.NumGoroutine") = false := by kernel_rfl
theorem nm286 : (Tryz.f286.name == "runtime.NumGoroutine") = false := by kernel_rfl
theorem nm287 : (Tryz.f287.name == "runtime.NumGoroutine") = false := by kernel_rfl
theorem nm288 : (Tryz.f288.name == "runtime.NumGoroutine") = false := by kernel_rfl
theorem nm289 : (Tryz.f289.name == "runtime.NumGoroutine") = false := by kernel_rfl
theorem nm290 : (Tryz.f290.name == "runtime.NumGoroutine") = false := by kernel_rfl
theorem nm291 : (Tryz.f291.name == "runtime.NumGoroutine") = false := by kernel_rfl
theorem nm292 : (Tryz.f292.name == "runtime.NumGoroutine") = false := by kernel_rfl
theorem nm293 : (Tryz.f293.name == "runtime.NumGoroutine") = false := by kernel_rfl
theorem nm294 : (Tryz.f294.name == "runtime.NumGoroutine") = false := by kernel_rfl
theorem nm295 : (Tryz.f295.name == "runtime.NumGoroutine") = false := by kernel_rfl
theorem nm296 : (Tryz.f296.name == "runtime.NumGoroutine") = false := by kernel_rfl
theorem nm297 : (Tryz.f297.name == "runtime.NumGoroutine") = false := by kernel_rfl
theorem nm298 : (Tryz.f298.name == "runtime.NumGoroutine") = false := by kernel_rfl
theorem nm299 : (Tryz.f299.name == "runtime.NumGoroutine") = false := by kernel_rfl
theorem nm300 : (Tryz.f300.name == "runtime.NumGoroutine") = false := by kernel_rfl
theorem nm301 : (Tryz.f301.name == "runtime.NumGoroutine") = false := by kernel_rfl
theorem nm302 : (Tryz.f302.name == "runtime.NumGoroutine") = false := by kernel_rfl
theorem nm303 : (Tryz.f303.name == "runtime.NumGoroutine") = false := by kernel_rfl
theorem nm304 : (Tryz.f304.name == "runtime.NumGoroutine") = false := by kernel_rfl
theorem nm305 : (Tryz.f305.name == "runtime.NumGoroutine") = false := by kernel_rfl
theorem nm306 : (Tryz.f306.name == "runtime.NumGoroutine") = false := by kernel_rfl
theorem nm307 : (Tryz.f307.name == "runtime.NumGoroutine") = false := by kernel_rfl
theorem nm308 : (Tryz.f308.name == "runtime.NumGoroutine") = false := by kernel_rfl
theorem nm309 : (Tryz.f309.name == "runtime.NumGoroutine") = false := by kernel_rfl
theorem nm310 : (Tryz.f310.name == "runtime.NumGoroutine") = false := by kernel_rfl
theorem nm311 : (Tryz.f311.name == "runtime.NumGoroutine") = false := by kernel_rfl
theorem nm312 : (Tryz.f312.name == "runtime.NumGoroutine") = false := by kernel_rfl
theorem nm313 : (Tryz.f313.name == "runtime.NumGoroutine") = false := by kernel_rfl
theorem nm314 : (Tryz.f314.name == "runtime.NumGoroutine") = false := by kernel_rfl
theorem nm315 : (Tryz.f315.name == "runtime.NumGoroutine") = false := by kernel_rfl
theorem nm316 : (Tryz.f316.name == "runtime.NumGoroutine") = false := by kernel_rfl
theorem nm317 : (Tryz.f317.name == "runtime.NumGoroutine") = false := by kernel_rfl
theorem nm318 : (Tryz.f318.name == "runtime.NumGoroutine") = false := by kernel_rfl
theorem nm319 : (Tryz.f319.name == "runtime.NumGoroutine") = false := by kernel_rfl
theorem nm320 : (Tryz.f320.name == "runtime.NumGoroutine") = false := by kernel_rfl
theorem nm321 : (Tryz.f321.name == "runtime.NumGoroutine") = false := by kernel_rfl
theorem nm322 : (Tryz.f322.name == "runtime.NumGoroutine") = false := by kernel_rfl
theorem nm323 : (Tryz.f323.name == "runtime.NumGoroutine") = false := by kernel_rfl
theorem nm324 : (Tryz.f324.name == "runtime.NumGoroutine") = false := by kernel_rfl
theorem nm325 : (Tryz.f325.name == "runtime.NumGoroutine") = false := by kernel_rfl
theorem nm326 : (Tryz.f326.name == "runtime.NumGoroutine") = false := by kernel_rfl
theorem nm327 : (Tryz.f327.name == "runtime.NumGoroutine") = false := by kernel_rfl
theorem nm328 : (Tryz.f328.name == "runtime.NumGoroutine") = false := by kernel_rfl
theorem nm329 : (Tryz.f329.name == "runtime.NumGoroutine") = false := by kernel_rfl
theorem nm330 : (Tryz.f330.name == "runtime.NumGoroutine") = false := by kernel_rfl
theorem nm331 : (Tryz.f331.name == "runtime.NumGoroutine") = false := by kernel_rfl
theorem nm332 : (Tryz.f332.name == "runtime.NumGoroutine") = false := by kernel_rfl
theorem nm333 : (Tryz.f333.name == "runtime.NumGoroutine") = false := by kernel_rfl
theorem nm334 : (Tryz.f334.name == "runtime.NumGoroutine") = false := by kernel_rfl
theorem nm335 : (Tryz.f335.name == "runtime.NumGoroutine") = false := by kernel_rfl
theorem nm336 : (Tryz.f336.name == "runtime.NumGoroutine") = false := by kernel_rfl
theorem nm337 : (Tryz.f337.name == "runtime.NumGoroutine") = false := by kernel_rfl
theorem nm338 : (Tryz.f338.name == "runtime.NumGoroutine") = false := by kernel_rfl
theorem nm339 : (Tryz.f339.name == "runtime.NumGoroutine") = false := by kernel_rfl
theorem nm340 : (Tryz.f340.name == "runtime.NumGoroutine") = false := by kernel_rfl
theorem nm341 : (Tryz.f341.name == "runtime.NumGoroutine") = false := by kernel_rfl
theorem nm342 : (Tryz.f342.name == "runtime.NumGoroutine") = false := by kernel_rfl
theorem nm343 : (Tryz.f343.name == "runtime.NumGoroutine") = false := by kernel_rfl
theorem nm344 : (Tryz.f344.name == "runtime.NumGoroutine") = false := by kernel_rfl
theorem nm345 : (Tryz.f345.name == "runtime.NumGoroutine") = false := by kernel_rfl
theorem nm346 : (Tryz.f346.name == "runtime.NumGoroutine") = false := by kernel_rfl
theorem nm347 : (Tryz.f347.name == "runtime.NumGoroutine") = false := by kernel_rfl
theorem nm348 : (Tryz.f348.name == "runtime.NumGoroutine") = false := by kernel_rfl
theorem nm349 : (Tryz.f349.name == "runtime.NumGoroutine") = false := by kernel_rfl
theorem nm350 : (Tryz.f350.name == "runtime.NumGoroutine") = false := by kernel_rfl
theorem nm351 : (Tryz.f351.name == "runtime.NumGoroutine") = false := by kernel_rfl
theorem nm352 : (Tryz.f352.name == "runtime.NumGoroutine") = false := by kernel_rfl
theorem nm353 : (Tryz.f353.name == "runtime.NumGoroutine") = false := by kernel_rfl
theorem nm354 : (Tryz.f354.name == "runtime.NumGoroutine") = false := by kernel_rfl
theorem nm355 : (Tryz.f355.name == "runtime.NumGoroutine") = false := by kernel_rfl
theorem nm356 : (Tryz.f356.name == "runtime.NumGoroutine") = false := by kernel_rfl
theorem nm357 : (Tryz.f357.name == "runtime.NumGoroutine") = false := by kernel_rfl
theorem nm358 : (Tryz.f358.name == "runtime.NumGoroutine") = false := by kernel_rfl
theorem nm359 : (Tryz.f359.name == "runtime.NumGoroutine") = false := by kernel_rfl
theorem nm360 : (Tryz.f360.name == "runtime.NumGoroutine") = false := by kernel_rfl
theorem nm361 : (Tryz.f361.name == "runtime.NumGoroutine") = false := by kernel_rfl
theorem nm362 : (Tryz.f362.name == "runtime.NumGoroutine") = false := by kernel_rfl
theorem nm363 : (Tryz.f363.name == "runtime.NumGoroutine") = false := by kernel_rfl
theorem nm364 : (Tryz.f364.name == "runtime.NumGoroutine") = false := by kernel_rfl
theorem nm365 : (Tryz.f365.name == "runtime.NumGoroutine") = false := by kernel_rfl
theorem nm366 : (Tryz.f366.name == "runtime.NumGoroutine") = false := by kernel_rfl
theorem nm367 : (Tryz.f367.name == "runtime.NumGoroutine") = false := by kernel_rfl
theorem nm368 : (Tryz.f368.name == "runtime.NumGoroutine") = false := by kernel_rfl
theorem nm369 : (Tryz.f369.name == "runtime.NumGoroutine") = false := by kernel_rfl
theorem nm370 : (Tryz.f370.name == "runtime.NumGoroutine") = false := by kernel_rfl
theorem nm371 : (Tryz.f371.name == "runtime.NumGoroutine") = false := by kernel_rfl
theorem nm372 : (Tryz.f372.name == "runtime.NumGoroutine") = false := by kernel_rfl
theorem nm373 : (Tryz.f373.name == "runtime.NumGoroutine") = false := by kernel_rfl
theorem nm374 : (Tryz.f374.name == "runtime.NumGoroutine") = false := by kernel_rfl
theorem nm375 : (Tryz.f375.name == "runtime.NumGoroutine") = false := by kernel_rfl
theorem nm376 : (Tryz.f376.name == "runtime.NumGoroutine") = false := by kernel_rfl
theorem nm377 : (Tryz.f377.name == "runtime.NumGoroutine") = false := by kernel_rfl
theorem nm378 : (Tryz.f378.name == "runtime.NumGoroutine") = false := by kernel_rfl
theorem nm379 : (Tryz.f379.name == "runtime.NumGoroutine") = false := by kernel_rfl
theorem nm380 : (Tryz.f380.name == "runtime.NumGoroutine") = false := by kernel_rfl
theorem nm381 : (Tryz.f381.name == "runtime.NumGoroutine") = false := by kernel_rfl
theorem nm382 : (Tryz.f382.name == "runtime.NumGoroutine") = false := by kernel_rfl
theorem nm383 : (Tryz.f383.name == "runtime.NumGoroutine") = false := by kernel_rfl
theorem nm384 : (Tryz.f384.name == "runtime.NumGoroutine") = false := by kernel_rfl
theorem nm385 : (Tryz.f385.name == "runtime.NumGoroutine") = false := by kernel_rfl
theorem nm386 : (Tryz.f386.name == "runtime.NumGoroutine") = false := by kernel_rfl
theorem nm387 : (Tryz.f387.name == "runtime.NumGoroutine") = false := by kernel_rfl
theorem nm388 : (Tryz.f388.name == "runtime.NumGoroutine") = false := by kernel_rfl
theorem nm389 : (Tryz.f389.name == "runtime.NumGoroutine") = false := by kernel_rfl
theorem nm390 : (Tryz.f390.name == "runtime.NumGoroutine") = false := by kernel_rfl
theorem nm391 : (Tryz.f391.name == "runtime.NumGoroutine") = false := by kernel_rfl
theorem nm392 : (Tryz.f392.name == "runtime.NumGoroutine") = false := by kernel_rfl
theorem nm393 : (Tryz.f393.name == "runtime.NumGoroutine") = false := by kernel_rfl
theorem nm394 : (Tryz.f394.name == "runtime.NumGoroutine") = false := by kernel_rfl
theorem nm395 : (Tryz.f395.name == "runtime.NumGoroutine") = false := by kernel_rfl
theorem nm396 : (Tryz.f396.name == "runtime.NumGoroutine") = false := by kernel_rfl
theorem nm397 : (Tryz.f397.name == "runtime.NumGoroutine") = false := by kernel_rfl
theorem nm398 : (Tryz.f398.name == "runtime.NumGoroutine") = false := by kernel_rfl
theorem nm399 : (Tryz.f399.name == "runtime.NumGoroutine") = false := by kernel_rfl
theorem nm400 : (Tryz.f400.name == "runtime.NumGoroutine") = false := by kernel_rfl
theorem nm401 : (Tryz.f401.name == "runtime.NumGoroutine") = false := by kernel_rfl
theorem nm402 : (Tryz.f402.name == "runtime.NumGoroutine") = false := by kernel_rfl
theorem nm403 : (Tryz.f403.name == "runtime.NumGoroutine") = false := by kernel_rfl
theorem nm404 : (Tryz.f404.name == "runtime.NumGoroutine") = false := by kernel_rfl
theorem nm405 : (Tryz.f405.name == "runtime.NumGoroutine") = false := by kernel_rfl
theorem nm406 : (Tryz.f406.name == "runtime.NumGoroutine") = false := by kernel_rfl
theorem nm407 : (Tryz.f407.name == "runtime.NumGoroutine") = false := by kernel_rfl
theorem nm408 : (Tryz.f408.name == "runtime.NumGoroutine") = false := by kernel_rfl
theorem nm409 : (Tryz.f409.name == "runtime.NumGoroutine") = false := by kernel_rfl
theorem nm410 : (Tryz.f410.name == "runtime.NumGoroutine") = false := by kernel_rfl
theorem nm411 : (Tryz.f411.name == "runtime.NumGoroutine") = false := by kernel_rfl
theorem nm412 : (Tryz.f412.name == "runtime.NumGoroutine") = false := by kernel_rfl
theorem nm413 : (Tryz.f413.name == "runtime.NumGoroutine") = false := by kernel_rfl
theorem nm414 : (Tryz.f414.name == "runtime.NumGoroutine") = false := by kernel_rfl
theorem nm415 : (Tryz.f415.name == "runtime.NumGoroutine") = false := by kernel_rfl
theorem nm416 : (Tryz.f416.name == "runtime.NumGoroutine") = false := by kernel_rfl
theorem nm417 : (Tryz.f417.name == "runtime.NumGoroutine") = false := by kernel_rfl
theorem nm418 : (Tryz.f418.name == "runtime.NumGoroutine") = false := by kernel_rfl
theorem nm419 : (Tryz.f419.name == "runtime.NumGoroutine") = false := by kernel_rfl
theorem nm420 : (Tryz.f420.name == "runtime.NumGoroutine") = false := by kernel_rfl
theorem nm421 : (Tryz.f421.name == "runtime.NumGoroutine") = false := by kernel_rfl
theorem nm422 : (Tryz.f422.name == "runtime.NumGoroutine") = false := by kernel_rfl
theorem nm423 : (Tryz.f423.name == "runtime.NumGoroutine") = false := by kernel_rfl
theorem nm424 : (Tryz.f424.name == "runtime.NumGoroutine") = false := by kernel_rfl
theorem nm425 : (Tryz.f425.name == "runtime.NumGoroutine") = false := by kernel_rfl
theorem nm426 : (Tryz.f426.name == "runtime.NumGoroutine") = false := by kernel_rfl
theorem nm427 : (Tryz.f427.name == "runtime.NumGoroutine") = false := by kernel_rfl
theorem nm428 : (Tryz.f428.name == "runtime.NumGoroutine") = false := by kernel_rfl
theorem nm429 : (Tryz.f429.name == "runtime.NumGoroutine") = false := by kernel_rfl
theorem nm430 : (Tryz.f430.name == "runtime.NumGoroutine") = false := by kernel_rfl
theorem nm431 : (Tryz.f431.name == "runtime.NumGoroutine") = false := by kernel_rfl
theorem nm432 : (Tryz.f432.name == "runtime.NumGoroutine") = false := by kernel_rfl
theorem nm433 : (Tryz.f433.name == "runtime.NumGoroutine") = false := by kernel_rfl
theorem nm434 : (Tryz.f434.name == "runtime.NumGoroutine") = false := by kernel_rfl
theorem nm435 : (Tryz.f435.name == "runtime.NumGoroutine") = false := by kernel_rfl
theorem nm436 : (Tryz.f436.name == "runtime.NumGoroutine") = false := by kernel_rfl
theorem nm437 : (Tryz.f437.name == "runtime.NumGoroutine") = false := by kernel_rfl
theorem nm438 : (Tryz.f438.name == "runtime.NumGoroutine") = false := by kernel_rfl
theorem nm439 : (Tryz.f439.name == "runtime.NumGoroutine") = false := by kernel_rfl
theorem nm440 : (Tryz.f440.name == "runtime.NumGoroutine") = false := by kernel_rfl
theorem nm441 : (Tryz.f441.name == "runtime.NumGoroutine") = false := by kernel_rfl
theorem nm442 : (Tryz.f442.name == "runtime.NumGoroutine") = false := by kernel_rfl
theorem nm443 : (Tryz.f443.name == "runtime.NumGoroutine") = false := by kernel_rfl
theorem nm444 : (Tryz.f444.name == "runtime.NumGoroutine") = false := by kernel_rfl
theorem nm445 : (Tryz.f445.name == "runtime.NumGoroutine") = false := by kernel_rfl
theorem nm446 : (Tryz.f446.name == "runtime.NumGoroutine") = false := by kernel_rfl
theorem nm447 : (Tryz.f447.name == "runtime.NumGoroutine") = false := by kernel_rfl
theorem nm448 : (Tryz.f448.name == "runtime.NumGoroutine") = false := by kernel_rfl
theorem nm449 : (Tryz.f449.name == "runtime.NumGoroutine") = false := by kernel_rfl
theorem nm450 : (Tryz.f450.name == "runtime.NumGoroutine") = false := by kernel_rfl
theorem nm451 : (Tryz.f451.name == "runtime.NumGoroutine") = false := by kernel_rfl
theorem nm452 : (Tryz.f452.name == "runtime.NumGoroutine") = false := by kernel_rfl
theorem nm453 : (Tryz.f453.name == "runtime.NumGoroutine") = false := by kernel_rfl
theorem nm454 : (Tryz.f454.name == "runtime.NumGoroutine") = false := by kernel_rfl
theorem nm455 : (Tryz.f455.name == "runtime.NumGoroutine") = false := by kernel_rfl
theorem nm456 : (Tryz.f456.name == "runtime.NumGoroutine") = false := by kernel_rfl
theorem nm457 : (Tryz.f457.name == "runtime.NumGoroutine") = false := by kernel_rfl
theorem nm458 : (Tryz.f458.name == "runtime.NumGoroutine") = false := by kernel_rfl
theorem nm459 : (Tryz.f459.name == "runtime.NumGoroutine") = false := by kernel_rfl
theorem nm460 : (Tryz.f460.name == "runtime.NumGoroutine") = false := by kernel_rfl
theorem nm461 : (Tryz.f461.name == "runtime.NumGoroutine") = false := by kernel_rfl
theorem nm462 : (Tryz.f462.name == "runtime.NumGoroutine") = false := by kernel_rfl
theorem nm463 : (Tryz.f463.name == "runtime.NumGoroutine") = false := by kernel_rfl
theorem nm464 : (Tryz.f464.name == "runtime.NumGoroutine") = false := by kernel_rfl
theorem nm465 : (Tryz.f465.name == "runtime.NumGoroutine") = false := by kernel_rfl
theorem nm466 : (Tryz.f466.name == "runtime.NumGoroutine") = false := by kernel_rfl
theorem nm467 : (Tryz.f467.name == "runtime.NumGoroutine") = false := by kernel_rfl
theorem nm468 : (Tryz.f468.name == "runtime.NumGoroutine") = false := by kernel_rfl
theorem nm469 : (Tryz.f469.name == "runtime.NumGoroutine") = false := by kernel_rfl
theorem nm470 : (Tryz.f470.name == "runtime.NumGoroutine") = false := by kernel_rfl
theorem nm471 : (Tryz.f471.name == "runtime.NumGoroutine") = false := by kernel_rfl
theorem nm472 : (Tryz.f472.name == "runtime.NumGoroutine") = false := by kernel_rfl
theorem nm473 : (Tryz.f473.name == "runtime.NumGoroutine") = false := by kernel_rfl
theorem nm474 : (Tryz.f474.name == "runtime.NumGoroutine") = false := by kernel_rfl
theorem nm475 : (Tryz.f475.name == "runtime.NumGoroutine") = false := by kernel_rfl
theorem nm476 : (Tryz.f476.name == "runtime.NumGoroutine") = false := by kernel_rfl
theorem nm477 : (Tryz.f477.name == "runtime.NumGoroutine") = false := by kernel_rfl
theorem nm478 : (Tryz.f478.name == "runtime.NumGoroutine") = false := by kernel_rfl
theorem nm479 : (Tryz.f479.name == "runtime.NumGoroutine") = false := by kernel_rfl
theorem nm480 : (Tryz.f480.name == "runtime.NumGoroutine") = false := by kernel_rfl
theorem nm481 : (Tryz.f481.name == "runtime.NumGoroutine") = false := by kernel_rfl
theorem nm482 : (Tryz.f482.name == "runtime.NumGoroutine") = false := by kernel_rfl
theorem nm483 : (Tryz.f483.name == "runtime.NumGoroutine") = false := by kernel_rfl
theorem nm484 : (Tryz.f484.name == "runtime.NumGoroutine") = false := by kernel_rfl
theorem nm485 : (Tryz.f485.name == "runtime.NumGoroutine") = false := by kernel_rfl
theorem nm486 : (Tryz.f486.name == "runtime.NumGoroutine") = false := by kernel_rfl
theorem nm487 : (Tryz.f487.name == "runtime.NumGoroutine") = false := by kernel_rfl
theorem nm488 : (Tryz.f488.name == "runtime.NumGoroutine") = false := by kernel_rfl
theorem nm489 : (Tryz.f489.name == "runtime.NumGoroutine") = false := by kernel_rfl
theorem nm490 : (Tryz.f490.name == "runtime.NumGoroutine") = false := by kernel_rfl
theorem nm491 : (Tryz.f491.name == "runtime.NumGoroutine") = false := by kernel_rfl
theorem nm492 : (Tryz.f492.name == "runtime.NumGoroutine") = false := by kernel_rfl
theorem nm493 : (Tryz.f493.name == "runtime.NumGoroutine") = false := by kernel_rfl
theorem nm494 : (Tryz.f494.name == "runtime.NumGoroutine") = false := by kernel_rfl
theorem nm495 : (Tryz.f495.name == "runtime.NumGoroutine") = false := by kernel_rfl
theorem nm496 : (Tryz.f496.name == "runtime.NumGoroutine") = false := by kernel_rfl
theorem nm497 : (Tryz.f497.name == "runtime.NumGoroutine") = false := by kernel_rfl
theorem nm498 : (Tryz.f498.name == "runtime.NumGoroutine") = false := by kernel_rfl
theorem nm499 : (Tryz.f499.name == "runtime.NumGoroutine") = false := by kernel_rfl
theorem nm500 : (Tryz.f500.name == "runtime.NumGoroutine") = false := by kernel_rfl
theorem nm501 : (Tryz.f501.name == "runtime.NumGoroutine") = false := by kernel_rfl
theorem nm502 : (Tryz.f502.name == "runtime.NumGoroutine") = false := by kernel_rfl
theorem nm503 : (Tryz.f503.name == "runtime.NumGoroutine") = false := by kernel_rfl
theorem nm504 : (Tryz.f504.name == "runtime.NumGoroutine") = false := by kernel_rfl
theorem nm505 : (Tryz.f505.name == "runtime.NumGoroutine") = false := by kernel_rfl
theorem nm506 : (Tryz.f506.name == "runtime.NumGoroutine") = false := by kernel_rfl
theorem nm507 : (Tryz.f507.name == "runtime.NumGoroutine") = false := by kernel_rfl
theorem nm508 : (Tryz.f508.name == "runtime.NumGoroutine") = false := by kernel_rfl
theorem nm509 : (Tryz.f509.name == "runtime.NumGoroutine") = false := by kernel_rfl
theorem nm510 : (Tryz.f510.name == "runtime.NumGoroutine") = false := by kernel_rfl
theorem nm511 : (Tryz.f511.name == "runtime.NumGoroutine") = false := by kernel_rfl
theorem nm512 : (Tryz.f512.name == "runtime.NumGoroutine") = false := by kernel_rfl
theorem nm513 : (Tryz.f513.name == "runtime.NumGoroutine") = false := by kernel_rfl
theorem nm514 : (Tryz.f514.name == "runtime.NumGoroutine") = false := by kernel_rfl
theorem nm515 : (Tryz.f515.name == "runtime.NumGoroutine") = false := by kernel_rfl
theorem nm516 : (Tryz.f516.name == "runtime.NumGoroutine") = false := by kernel_rfl
theorem nm517 : (Tryz.f517.name == "runtime.NumGoroutine") = false := by kernel_rfl
theorem nm518 : (Tryz.f518.name == "runtime.NumGoroutine") = false := by kernel_rfl
theorem nm519 : (Tryz.f519.name == "runtime.NumGoroutine") = false := by kernel_rfl
theorem nm520 : (Tryz.f520.name == "runtime.NumGoroutine") = false := by kernel_rfl
theorem nm521 : (Tryz.f521.name == "runtime.NumGoroutine") = false := by kernel_rfl
theorem nm522 : (Tryz.f522.name == "runtime.NumGoroutine") = false := by kernel_rfl
theorem nm523 : (Tryz.f523.name == "runtime.NumGoroutine") = false := by kernel_rfl
theorem nm524 : (Tryz.f524.name == "runtime.NumGoroutine") = false := by kernel_rfl
theorem nm525 : (Tryz.f525.name == "runtime.NumGoroutine") = false := by kernel_rfl
theorem nm526 : (Tryz.f526.name == "runtime.NumGoroutine") = false := by kernel_rfl
theorem nm527 : (Tryz.f527.name == "runtime.NumGoroutine") = false := by kernel_rfl
theorem nm528 : (Tryz.f528.name == "runtime.NumGoroutine") = false := by kernel_rfl
theorem nm529 : (Tryz.f529.name == "runtime.NumGoroutine") = false := by kernel_rfl
theorem nm530 : (Tryz.f530.name == "runtime.NumGoroutine") = false := by kernel_rfl
theorem nm531 : (Tryz.f531.name == "runtime.NumGoroutine") = false := by kernel_rfl
theorem nm532 : (Tryz.f532.name == "runtime.NumGoroutine") = false := by kernel_rfl
theorem nm533 : (Tryz.f533.name == "runtime.NumGoroutine") = false := by kernel_rfl
theorem nm534 : (Tryz.f534.name == "runtime.NumGoroutine") = false := by kernel_rfl
theorem nm535 : (Tryz.f535.name == "runtime.NumGoroutine") = false := by kernel_rfl
theorem nm536 : (Tryz.f536.name == "runtime.NumGoroutine") = false := by kernel_rfl
theorem nm537 : (Tryz.f537.name == "runtime.NumGoroutine") = false := by kernel_rfl
theorem nm538 : (Tryz.f538.name == "runtime.NumGoroutine") = false := by kernel_rfl
theorem nm539 : (Tryz.f539.name == "runtime.NumGoroutine") = false := by kernel_rfl
theorem nm540 : (Tryz.f540.name == "runtime.NumGoroutine") = false := by kernel_rfl
theorem nm541 : (Tryz.f541.name == "runtime.NumGoroutine") = false := by kernel_rfl
theorem nm542 : (Tryz.f542.name == "runtime.NumGoroutine") = false := by kernel_rfl
theorem nm543 : (Tryz.f543.name == "runtime.NumGoroutine") = false := by kernel_rfl
theorem nm544 : (Tryz.f544.name == "runtime.NumGoroutine") = false := by kernel_rfl
theorem nm545 : (Tryz.f545.name == "runtime.NumGoroutine") = false := by kernel_rfl
theorem nm546 : (Tryz.f546.name == "runtime.NumGoroutine") = false := by kernel_rfl
theorem nm547 : (Tryz.f547.name == "runtime.NumGoroutine") = false := by kernel_rfl
theorem nm548 : (Tryz.f548.name == "runtime.NumGoroutine") = false := by kernel_rfl
theorem nm549 : (Tryz.f549.name == "runtime.NumGoroutine") = false := by kernel_rfl
theorem nm550 : (Tryz.f550.name == "runtime.NumGoroutine") = false := by kernel_rfl
theorem nm551 : (Tryz.f551.name == "runtime.NumGoroutine") = false := by kernel_rfl
theorem nm552 : (Tryz.f552.name == "runtime.NumGoroutine") = false := by kernel_rfl
theorem nm553 : (Tryz.f553.name == "runtime.NumGoroutine") = false := by kernel_rfl
theorem nm554 : (Tryz.f554.name == "runtime.NumGoroutine") = false := by kernel_rfl
theorem nm555 : (Tryz.f555.name == "runtime.NumGoroutine") = false := by kernel_rfl
theorem nm556 : (Tryz.f556.name == "runtime.NumGoroutine") = false := by kernel_rfl
theorem nm557 : (Tryz.f557.name == "runtime.NumGoroutine") = false := by kernel_rfl
theorem nm558 : (Tryz.f558.name == "runtime.NumGoroutine") = false := by kernel_rfl
theorem nm559 : (Tryz.f559.name == "runtime.NumGoroutine") = false := by kernel_rfl
theorem nm560 : (Tryz.f560.name == "runtime.NumGoroutine") = false := by kernel_rfl
theorem nm561 : (Tryz.f561.name == "runtime.NumGoroutine") = false := by kernel_rfl
theorem nm562 : (Tryz.f562.name == "runtime.NumGoroutine") = false := by kernel_rfl
theorem nm563 : (Tryz.f563.name == "runtime.NumGoroutine") = false := by kernel_rfl
theorem nm564 : (Tryz.f564.name == "runtime.NumGoroutine") = false := by kernel_rfl
theorem nm565 : (Tryz.f565.name == "runtime.NumGoroutine") = false := by kernel_rfl
theorem nm566 : (Tryz.f566.name == "runtime.NumGoroutine") = false := by kernel_rfl
theorem nm567 : (Tryz.f567.name == "runtime.NumGoroutine") = false := by kernel_rfl
theorem nm568 : (Tryz.f568.name == "runtime.NumGoroutine") = false := by kernel_rfl
theorem nm569 : (Tryz.f569.name == "runtime.NumGoroutine") = false := by kernel_rfl
theorem nm570 : (Tryz.f570.name == "runtime.NumGoroutine") = false := by kernel_rfl
theorem nm571 : (Tryz.f571.name == "runtime.NumGoroutine") = false := by kernel_rfl
theorem nm572 : (Tryz.f572.name == "runtime.NumGoroutine") = false := by kernel_rfl
theorem nm573 : (Tryz.f573.name == "runtime.NumGoroutine") = false := by kernel_rfl
theorem nm574 : (Tryz.f574.name == "runtime.NumGoroutine") = false := by kernel_rfl
theorem nm575 : (Tryz.f575.name == "runtime.NumGoroutine") = false := by kernel_rfl
theorem nm576 : (Tryz.f576.name == "runtime.NumGoroutine") = false := by kernel_rfl
theorem nm577 : (Tryz.f577.name == "runtime.NumGoroutine") = false := by kernel_rfl
theorem nm578 : (Tryz.f578.name == "runtime.NumGoroutine") = false := by kernel_rfl
theorem nm579 : (Tryz.f579.name == "runtime.NumGoroutine") = false := by kernel_rfl
theorem nm580 : (Tryz.f580.name == "runtime.NumGoroutine") = false := by kernel_rfl
theorem nm581 : (Tryz.f581.name == "runtime.NumGoroutine") = false := by kernel_rfl
theorem nm582 : (Tryz.f582.name == "runtime.NumGoroutine") = false := by kernel_rfl
theorem nm583 : (Tryz.f583.name == "runtime.NumGoroutine") = false := by kernel_rfl
theorem nm584 : (Tryz.f584.name == "runtime.NumGoroutine") = false := by kernel_rfl
theorem nm585 : (Tryz.f585.name == "runtime.NumGoroutine") = false := by kernel_rfl
theorem nm586 : (Tryz.f586.name == "runtime.NumGoroutine") = false := by kernel_rfl
theorem nm587 : (Tryz.f587.name == "runtime.NumGoroutine") = false := by kernel_rfl
theorem nm588 : (Tryz.f588.name == "runtime.NumGoroutine") = false := by kernel_rfl
theorem nm589 : (Tryz.f589.name == "runtime.NumGoroutine") = false := by kernel_rfl
theorem nm590 : (Tryz.f590.name == "runtime.NumGoroutine") = false := by kernel_rfl
noncomputable def ft : Tr Func := (.node (.node (.node (.node (.node (.node (.node (.node (.node (.node .nil 0 Tryz.f0 .nil) 1 Tryz.f1 .nil) 2 Tryz.f2 (.node .nil 3 Tryz.f3 .nil)) 4 Tryz.f4 (.node (.node (.node .nil 5 Tryz.f5 .nil) 6 Tryz.f6 .nil) 7 Tryz.f7 (.node .nil 8 Tryz.f8 .nil))) 9 Tryz.f9 (.node (.node (.node (.node .nil 10 Tryz.f10 .nil) 11 Tryz.f11 .nil) 12 Tryz.f12 (.node .nil 13 Tryz.f13 .nil)) 14 Tryz.f14 (.node (.node .nil 15 Tryz.f15 .nil) 16 Tryz.f16 (.node .nil 17 Tryz.f17 .nil)))) 18 Tryz.f18 (.node (.node (.node (.node (.node .nil 19 Tryz.f19 .nil) 20 Tryz.f20 .nil) 21 Tryz.f21 (.node .nil 22 Tryz.f22 .nil)) 23 Tryz.f23 (.node (.node .nil 24 Tryz.f24 .nil) 25 Tryz.f25 (.node .nil 26 Tryz.f26 .nil))) 27 Tryz.f27 (.node (.node (.node (.node .nil 28 Tryz.f28 .nil) 29 Tryz.f29 .nil) 30 Tryz.f30 (.node .nil 31 Tryz.f31 .nil)) 32 Tryz.f32 (.node (.node .nil 33 Tryz.f33 .nil) 34 Tryz.f34 (.node .nil 35 Tryz.f35 .nil))))) 36 Tryz.f36 (.node (.node (.node (.node (.node (.node .nil 37 Tryz.f37 .nil) 38 Tryz.f38 .nil) 39 Tryz.f39 (.node .nil 40 Tryz.f40 .nil)) 41 Tryz.f41 (.node (.node (.node .nil 42 Tryz.f42 .nil) 43 Tryz.f43 .nil) 44 Tryz.f44 (.node .nil 45 Tryz.f45 .nil))) 46 Tryz.f46 (.node (.node (.node (.node .nil 47 Tryz.f47 .nil) 48 Tryz.f48 .nil) 49 Tryz.f49 (.node .nil 50 Tryz.f50 .nil)) 51 Tryz.f51 (.node (.node .nil 52 Tryz.f52 .nil) 53 Tryz.f53 (.node .nil 54 Tryz.f54 .nil)))) 55 Tryz.f55 (.node (.node (.node (.node (.node .nil 56 Tryz.f56 .nil) 57 Tryz.f57 .nil) 58 Tryz.f58 (.node .nil 59 Tryz.f59 .nil)) 60 Tryz.f60 (.node (.node .nil 61 Tryz.f61 .nil) 62 Tryz.f62 (.node .nil 63 Tryz.f63 .nil))) 64 Tryz.f64 (.node (.node (.node (.node .nil 65 Tryz.f65 .nil) 66 Tryz.f66 .nil) 67 Tryz.f67 (.node .nil 68 Tryz.f68 .nil)) 69 Tryz.f69 (.node (.node .nil 70 Tryz.f70 .nil) 71 Tryz.f71 (.node .nil 72 Tryz.f72 .nil)))))) 73 Tryz.f73 (.node (.node (.node (.node (.node (.node (.node .nil 74 Tryz.f74 .nil) 75 Tryz.f75 .nil) 76 Tryz.f76 (.node .nil 77 Tryz.f77 .nil)) 78 Tryz.f78 (.node (.node (.node .nil 79 Tryz.f79 .nil) 80 Tryz.f80 .nil) 81 Tryz.f81 (.node .nil 82 Tryz.f82 .nil))) 83 Tryz.f83 (.node (.node (.node (.node .nil 84 Tryz.f84 .nil) 85 Tryz.f85 .nil) 86 Tryz.f86 (.node .nil 87 Tryz.f87 .nil)) 88 Tryz.f88 (.node (.node .nil 89 Tryz.f89 .nil) 90 Tryz.f90 (.node .nil 91 Tryz.f91 .nil)))) 92 Tryz.f92 (.node (.node (.node (.node (.node .nil 93 Tryz.f93 .nil) 94 Tryz.f94 .nil) 95 Tryz.f95 (.node .nil 96 Tryz.f96 .nil)) 97 Tryz.f97 (.node (.node .nil 98 Tryz.f98 .nil) 99 Tryz.f99 (.node .nil 100 Tryz.f100 .nil))) 101 Tryz.f101 (.node (.node (.node (.node .nil 102 Tryz.f102 .nil) 103 Tryz.f103 .nil) 104 Tryz.f104 (.node .nil 105 Tryz.f105 .nil)) 106 Tryz.f106 (.node (.node .nil 107 Tryz.f107 .nil) 108 Tryz.f108 (.node .nil 109 Tryz.f109 .nil))))) 110 Tryz.f110 (.node (.node (.node (.node (.node (.node .nil 111 Tryz.f111 .nil) 112 Tryz.f112 .nil) 113 Tryz.f113 (.node .nil 114 Tryz.f114 .nil)) 115 Tryz.f115 (.node (.node (.node .nil 116 Tryz.f116 .nil) 117 Tryz.f117 .nil) 118 Tryz.f118 (.node .nil 119 Tryz.f119 .nil))) 120 Tryz.f120 (.node (.node (.node (.node .nil 121 Tryz.f121 .nil) 122 Tryz.f122 .nil) 123 Tryz.f123 (.node .nil 124 Tryz.f124 .nil)) 125 Tryz.f125 (.node (.node .nil 126 Tryz.f126 .nil) 127 Tryz.f127 (.node .nil 128 Tryz.f128 .nil)))) 129 Tryz.f129 (.node (.node (.node (.node (.node .nil 130 Tryz.f130 .nil) 131 Tryz.f131 .nil) 132 Tryz.f132 (.node .nil 133 Tryz.f133 .nil)) 134 Tryz.f134 (.node (.node .nil 135 Tryz.f135 .nil) 136 Tryz.f136 (.node .nil 137 Tryz.f137 .nil))) 138 Tryz.f138 (.node (.node (.node (.node .nil 139 Tryz.f139 .nil) 140 Tryz.f140 .nil) 141 Tryz.f141 (.node .nil 142 Tryz.f142 .nil)) 143 Tryz.f143 (.node (.node .nil 144 Tryz.f144 .nil) 145 Tryz.f145 (.node .nil 146 Tryz.f146 .nil))))))) 147 Tryz.f147 (.node (.node (.node (.node (.node (.node (.node (.node .nil 148 Tryz.f148 .nil) 149 Tryz.f149 .nil) 150 Tryz.f150 (.node .nil 151 Tryz.f151 .nil)) 152 Tryz.f152 (.node (.node (.node .nil 153 Tryz.f153 .nil) 154 Tryz.f154 .nil) 155 Tryz.f155 (.node .nil 156 Tryz.f156 .nil))) 157 Tryz.f157 (.node (.node (.node (.node .nil 158 Tryz.f158 .nil) 159 Tryz.f159 .nil) 160 Tryz.f160 (.node .nil 161 Tryz.f161 .nil)) 162 Tryz.f162 (.node (.node .nil 163 Tryz.f163 .nil) 164 Tryz.f164 (.node .nil 165 Tryz.f165 .nil)))) 166 Tryz.f166 (.node (.node (.node (.node (.node .nil 167 Tryz.f167 .nil) 168 Tryz.f168 .nil) 169 Tryz.f169 (.node .nil 170 Tryz.f170 .nil)) 171 Tryz.f171 (.node (.node .nil 172 Tryz.f172 .nil) 173 Tryz.f173 (.node .nil 174 Tryz.f174 .nil))) 175 Tryz.f175 (.node (.node (.node (.node .nil 176 Tryz.f176 .nil) 177 Tryz.f177 .nil) 178 Tryz.f178 (.node .nil 179 Tryz.f179 .nil)) 180 Tryz.f180 (.node (.node .nil 181 Tryz.f181 .nil) 182 Tryz.f182 (.node .nil 183 Tryz.f183 .nil))))) 184 Tryz.f184 (.node (.node (.node (.node (.node (.node .nil 185 Tryz.f185 .nil) 186 Tryz.f186 .nil) 187 Tryz.f187 (.node .nil 188 Tryz.f188 .nil)) 189 Tryz.f189 (.node (.node (.node .nil 190 Tryz.f190 .nil) 191 Tryz.f191 .nil) 192 Tryz.f192 (.node .nil 193 Tryz.f193 .nil))) 194 Tryz.f194 (.node (.node (.node (.node .nil 195 Tryz.f195 .nil) 196 Tryz.f196 .nil) 197 Tryz.f197 (.node .nil 198 Tryz.f198 .nil)) 199 Tryz.f199 (.node (.node .nil 200 Tryz.f200 .nil) 201 Tryz.f201 (.node .nil 202 Tryz.f202 .nil)))) 203 Tryz.f203 (.node (.node (.node (.node (.node .nil 204 Tryz.f204 .nil) 205 Tryz.f205 .nil) 206 Tryz.f206 (.node .nil 207 Tryz.f207 .nil)) 208 Tryz.f208 (.node (.node .nil 209 Tryz.f209 .nil) 210 Tryz.f210 (.node .nil 211 Tryz.f211 .nil))) 212 Tryz.f212 (.node (.node (.node (.node .nil 213 Tryz.f213 .nil) 214 Tryz.f214 .nil) 215 Tryz.f215 (.node .nil 216 Tryz.f216 .nil)) 217 Tryz.f217 (.node (.node .nil 218 Tryz.f218 .nil) 219 Tryz.f219 (.node .nil 220 Tryz.f220 .nil)))))) 221 Tryz.f221 (.node (.node (.node (.node (.node (.node (.node .nil 222 Tryz.f222 .nil) 223 Tryz.f223 .nil) 224 Tryz.f224 (.node .nil 225 Tryz.f225 .nil)) 226 Tryz.f226 (.node (.node (.node .nil 227 Tryz.f227 .nil) 228 Tryz.f228 .nil) 229 Tryz.f229 (.node .nil 230 Tryz.f230 .nil))) 231 Tryz.f231 (.node (.node (.node (.node .nil 232 Tryz.f232 .nil) 233 Tryz.f233 .nil) 234 Tryz.f234 (.node .nil 235 Tryz.f235 .nil)) 236 Tryz.f236 (.node (.node .nil 237 Tryz.f237 .nil) 238 Tryz.f238 (.node .nil 239 Tryz.f239 .nil)))) 240 Tryz.f240 (.node (.node (.node (.node (.node .nil 241 Tryz.f241 .nil) 242 Tryz.f242 .nil) 243 Tryz.f243 (.node .nil 244 Tryz.f244 .nil)) 245 Tryz.f245 (.node (.node .nil 246 Tryz.f246 .nil) 247 Tryz.f247 (.node .nil 248 Tryz.f248 .nil))) 249 Tryz.f249 (.node (.node (.node (.node .nil 250 Tryz.f250 .nil) 251 Tryz.f251 .nil) 252 Tryz.f252 (.node .nil 253 Tryz.f253 .nil)) 254 Tryz.f254 (.node (.node .nil 255 Tryz.f255 .nil) 256 Tryz.f256 (.node .nil 257 Tryz.f257 .nil))))) 258 Tryz.f258 (.node (.node (.node (.node (.node (.node .nil 259 Tryz.f259 .nil) 260 Tryz.f260 .nil) 261 Tryz.f261 (.node .nil 262 Tryz.f262 .nil)) 263 Tryz.f263 (.node (.node (.node .nil 264 Tryz.f264 .nil) 265 Tryz.f265 .nil) 266 Tryz.f266 (.node .nil 267 Tryz.f267 .nil))) 268 Tryz.f268 (.node (.node (.node (.node .nil 269 Tryz.f269 .nil) 270 Tryz.f270 .nil) 271 Tryz.f271 (.node .nil 272 Tryz.f272 .nil)) 273 Tryz.f273 (.node (.node .nil 274 Tryz.f274 .nil) 275 Tryz.f275 (.node .nil 276 Tryz.f276 .nil)))) 277 Tryz.f277 (.node (.node (.node (.node (.node .nil 278 Tryz.f278 .nil) 279 Tryz.f279 .nil) 280 Tryz.f280 (.node .nil 281 Tryz.f281 .nil)) 282 Tryz.f282 (.node (.node .nil 283 Tryz.f283 .nil) 284 Tryz.f284 (.node .nil 285 Tryz.f285 .nil))) 286 Tryz.f286 (.node (.node (.node (.node .nil 287 Tryz.f287 .nil) 288 Tryz.f288 .nil) 289 Tryz.f289 (.node .nil 290 Tryz.f290 .nil)) 291 Tryz.f291 (.node (.node .nil 292 Tryz.f292 .nil) 293 Tryz.f293 (.node .nil 294 Tryz.f294 .nil)))))))) 295 Tryz.f295 (.node (.node (.node (.node (.node (.node (.node (.node (.node .nil 296 Tryz.f296 .nil) 297 Tryz.f297 .nil) 298 Tryz.f298 (.node .nil 299 Tryz.f299 .nil)) 300 Tryz.f300 (.node (.node (.node .nil 301 Tryz.f301 .nil) 302 Tryz.f302 .nil) 303 Tryz.f303 (.node .nil 304 Tryz.f304 .nil))) 305 Tryz.f305 (.node (.node (.node (.node .nil 306 Tryz.f306 .nil) 307 Tryz.f307 .nil) 308 Tryz.f308 (.node .nil 309 Tryz.f309 .nil)) 310 Tryz.f310 (.node (.node .nil 311 Tryz.f311 .nil) 312 Tryz.f312 (.node .nil 313 Tryz.f313 .nil)))) 314 Tryz.f314 (.node (.node (.node (.node (.node .nil 315 Tryz.f315 .nil) 316 Tryz.f316 .nil) 317 Tryz.f317 (.node .nil 318 Tryz.f318 .nil)) 319 Tryz.f319 (.node (.node .nil 320 Tryz.f320 .nil) 321 Tryz.f321 (.node .nil 322 Tryz.f322 .nil))) 323 Tryz.f323 (.node (.node (.node (.node .nil 324 Tryz.f324 .nil) 325 Tryz.f325 .nil) 326 Tryz.f326 (.node .nil 327 Tryz.f327 .nil)) 328 Tryz.f328 (.node (.node .nil 329 Tryz.f329 .nil) 330 Tryz.f330 (.node .nil 331 Tryz.f331 .nil))))) 332 Tryz.f332 (.node (.node (.node (.node (.node (.node .nil 333 Tryz.f333 .nil) 334 Tryz.f334 .nil) 335 Tryz.f335 (.node .nil 336 Tryz.f336 .nil)) 337 Tryz.f337 (.node (.node (.node .nil 338 Tryz.f338 .nil) 339 Tryz.f339 .nil) 340 Tryz.f340 (.node .nil 341 Tryz.f341 .nil))) 342 Tryz.f342 (.node (.node (.node (.node .nil 343 Tryz.f343 .nil) 344 Tryz.f344 .nil) 345 Tryz.f345 (.node .nil 346 Tryz.f346 .nil)) 347 Tryz.f347 (.node (.node .nil 348 Tryz.f348 .nil) 349 Tryz.f349 (.node .nil 350 Tryz.f350 .nil)))) 351 Tryz.f351 (.node (.node (.node (.node (.node .nil 352 Tryz.f352 .nil) 353 Tryz.f353 .nil) 354 Tryz.f354 (.node .nil 355 Tryz.f355 .nil)) 356 Tryz.f356 (.node (.node .nil 357 Tryz.f357 .nil) 358 Tryz.f358 (.node .nil 359 Tryz.f359 .nil))) 360 Tryz.f360 (.node (.node (.node (.node .nil 361 Tryz.f361 .nil) 362 Tryz.f362 .nil) 363 Tryz.f363 (.node .nil 364 Tryz.f364 .nil)) 365 Tryz.f365 (.node (.node .nil 366 Tryz.f366 .nil) 367 Tryz.f367 (.node .nil 368 Tryz.f368 .nil)))))) 369 Tryz.f369 (.node (.node (.node (.node (.node (.node (.node .nil 370 Tryz.f370 .nil) 371 Tryz.f371 .nil) 372 Tryz.f372 (.node .nil 373 Tryz.f373 .nil)) 374 Tryz.f374 (.node (.node (.node .nil 375 Tryz.f375 .nil) 376 Tryz.f376 .nil) 377 Tryz.f377 (.node .nil 378 Tryz.f378 .nil))) 379 Tryz.f379 (.node (.node (.node (.node .nil 380 Tryz.f380 .nil) 381 Tryz.f381 .nil) 382 Tryz.f382 (.node .nil 383 Tryz.f383 .nil)) 384 Tryz.f384 (.node (.node .nil 385 Tryz.f385 .nil) 386 Tryz.f386 (.node .nil 387 Tryz.f387 .nil)))) 388 Tryz.f388 (.node (.node (.node (.node (.node .nil 389 Tryz.f389 .nil) 390 Tryz.f390 .nil) 391 Tryz.f391 (.node .nil 392 Tryz.f392 .nil)) 393 Tryz.f393 (.node (.node .nil 394 Tryz.f394 .nil) 395 Tryz.f395 (.node .nil 396 Tryz.f396 .nil))) 397 Tryz.f397 (.node (.node (.node (.node .nil 398 Tryz.f398 .nil) 399 Tryz.f399 .nil) 400 Tryz.f400 (.node .nil 401 Tryz.f401 .nil)) 402 Tryz.f402 (.node (.node .nil 403 Tryz.f403 .nil) 404 Tryz.f404 (.node .nil 405 Tryz.f405 .nil))))) 406 Tryz.f406 (.node (.node (.node (.node (.node (.node .nil 407 Tryz.f407 .nil) 408 Tryz.f408 .nil) 409 Tryz.f409 (.node .nil 410 Tryz.f410 .nil)) 411 Tryz.f411 (.node (.node (.node .nil 412 Tryz.f412 .nil) 413 Tryz.f413 .nil) 414 Tryz.f414 (.node .nil 415 Tryz.f415 .nil))) 416 Tryz.f416 (.node (.node (.node (.node .nil 417 Tryz.f417 .nil) 418 Tryz.f418 .nil) 419 Tryz.f419 (.node .nil 420 Tryz.f420 .nil)) 421 Tryz.f421 (.node (.node .nil 422 Tryz.f422 .nil) 423 Tryz.f423 (.node .nil 424 Tryz.f424 .nil)))) 425 Tryz.f425 (.node (.node (.node (.node (.node .nil 426 Tryz.f426 .nil) 427 Tryz.f427 .nil) 428 Tryz.f428 (.node .nil 429 Tryz.f429 .nil)) 430 Tryz.f430 (.node (.node .nil 431 Tryz.f431 .nil) 432 Tryz.f432 (.node .nil 433 Tryz.f433 .nil))) 434 Tryz.f434 (.node (.node (.node (.node .nil 435 Tryz.f435 .nil) 436 Tryz.f436 .nil) 437 Tryz.f437 (.node .nil 438 Tryz.f438 .nil)) 439 Tryz.f439 (.node (.node .nil 440 Tryz.f440 .nil) 441 Tryz.f441 (.node .nil 442 Tryz.f442 .nil))))))) 443 Tryz.f443 (.node (.node (.node (.node (.node (.node (.node (.node .nil 444 Tryz.f444 .nil) 445 Tryz.f445 .nil) 446 Tryz.f446 (.node .nil 447 Tryz.f447 .nil)) 448 Tryz.f448 (.node (.node (.node .nil 449 Tryz.f449 .nil) 450 Tryz.f450 .nil) 451 Tryz.f451 (.node .nil 452 Tryz.f452 .nil))) 453 Tryz.f453 (.node (.node (.node (.node .nil 454 Tryz.f454 .nil) 455 Tryz.f455 .nil) 456 Tryz.f456 (.node .nil 457 Tryz.f457 .nil)) 458 Tryz.f458 (.node (.node .nil 459 Tryz.f459 .nil) 460 Tryz.f460 (.node .nil 461 Tryz.f461 .nil)))) 462 Tryz.f462 (.node (.node (.node (.node (.node .nil 463 Tryz.f463 .nil) 464 Tryz.f464 .nil) 465 Tryz.f465 (.node .nil 466 Tryz.f466 .nil)) 467 Tryz.f467 (.node (.node .nil 468 Tryz.f468 .nil) 469 Tryz.f469 (.node .nil 470 Tryz.f470 .nil))) 471 Tryz.f471 (.node (.node (.node (.node .nil 472 Tryz.f472 .nil) 473 Tryz.f473 .nil) 474 Tryz.f474 (.node .nil 475 Tryz.f475 .nil)) 476 Tryz.f476 (.node (.node .nil 477 Tryz.f477 .nil) 478 Tryz.f478 (.node .nil 479 Tryz.f479 .nil))))) 480 Tryz.f480 (.node (.node (.node (.node (.node (.node .nil 481 Tryz.f481 .nil) 482 Tryz.f482 .nil) 483 Tryz.f483 (.node .nil 484 Tryz.f484 .nil)) 485 Tryz.f485 (.node (.node (.node .nil 486 Tryz.f486 .nil) 487 Tryz.f487 .nil) 488 Tryz.f488 (.node .nil 489 Tryz.f489 .nil))) 490 Tryz.f490 (.node (.node (.node (.node .nil 491 Tryz.f491 .nil) 492 Tryz.f492 .nil) 493 Tryz.f493 (.node .nil 494 Tryz.f494 .nil)) 495 Tryz.f495 (.node (.node .nil 496 Tryz.f496 .nil) 497 Tryz.f497 (.node .nil 498 Tryz.f498 .nil)))) 499 Tryz.f499 (.node (.node (.node (.node (.node .nil 500 Tryz.f500 .nil) 501 Tryz.f501 .nil) 502 Tryz.f502 (.node .nil 503 Tryz.f503 .nil)) 504 Tryz.f504 (.node (.node .nil 505 Tryz.f505 .nil) 506 Tryz.f506 (.node .nil 507 Tryz.f507 .nil))) 508 Tryz.f508 (.node (.node (.node (.node .nil 509 Tryz.f509 .nil) 510 Tryz.f510 .nil) 511 Tryz.f511 (.node .nil 512 Tryz.f512 .nil)) 513 Tryz.f513 (.node (.node .nil 514 Tryz.f514 .nil) 515 Tryz.f515 (.node .nil 516 Tryz.f516 .nil)))))) 517 Tryz.f517 (.node (.node (.node (.node (.node (.node (.node .nil 518 Tryz.f518 .nil) 519 Tryz.f519 .nil) 520 Tryz.f520 (.node .nil 521 Tryz.f521 .nil)) 522 Tryz.f522 (.node (.node (.node .nil 523 Tryz.f523 .nil) 524 Tryz.f524 .nil) 525 Tryz.f525 (.node .nil 526 Tryz.f526 .nil))) 527 Tryz.f527 (.node (.node (.node (.node .nil 528 Tryz.f528 .nil) 529 Tryz.f529 .nil) 530 Tryz.f530 (.node .nil 531 Tryz.f531 .nil)) 532 Tryz.f532 (.node (.node .nil 533 Tryz.f533 .nil) 534 Tryz.f534 (.node .nil 535 Tryz.f535 .nil)))) 536 Tryz.f536 (.node (.node (.node (.node (.node .nil 537 Tryz.f537 .nil) 538 Tryz.f538 .nil) 539 Tryz.f539 (.node .nil 540 Tryz.f540 .nil)) 541 Tryz.f541 (.node (.node .nil 542 Tryz.f542 .nil) 543 Tryz.f543 (.node .nil 544 Tryz.f544 .nil))) 545 Tryz.f545 (.node (.node (.node (.node .nil 546 Tryz.f546 .nil) 547 Tryz.f547 .nil) 548 Tryz.f548 (.node .nil 549 Tryz.f549 .nil)) 550 Tryz.f550 (.node (.node .nil 551 Tryz.f551 .nil) 552 Tryz.f552 (.node .nil 553 Tryz.f553 .nil))))) 554 Tryz.f554 (.node (.node (.node (.node (.node (.node .nil 555 Tryz.f555 .nil) 556 Tryz.f556 .nil) 557 Tryz.f557 (.node .nil 558 Tryz.f558 .nil)) 559 Tryz.f559 (.node (.node (.node .nil 560 Tryz.f560 .nil) 561 Tryz.f561 .nil) 562 Tryz.f562 (.node .nil 563 Tryz.f563 .nil))) 564 Tryz.f564 (.node (.node (.node (.node .nil 565 Tryz.f565 .nil) 566 Tryz.f566 .nil) 567 Tryz.f567 (.node .nil 568 Tryz.f568 .nil)) 569 Tryz.f569 (.node (.node .nil 570 Tryz.f570 .nil) 571 Tryz.f571 (.node .nil 572 Tryz.f572 .nil)))) 573 Tryz.f573 (.node (.node (.node (.node (.node .nil 574 Tryz.f574 .nil) 575 Tryz.f575 .nil) 576 Tryz.f576 (.node .nil 577 Tryz.f577 .nil)) 578 Tryz.f578 (.node (.node .nil 579 Tryz.f579 .nil) 580 Tryz.f580 (.node .nil 581 Tryz.f581 .nil))) 582 Tryz.f582 (.node (.node (.node (.node .nil 583 Tryz.f583 .nil) 584 Tryz.f584 .nil) 585 Tryz.f585 (.node .nil 586 Tryz.f586 .nil)) 587 Tryz.f587 (.node (.node .nil 588 Tryz.f588 .nil) 589 Tryz.f589 (.node .nil 590 Tryz.f590 .nil)))))))))
theorem ft_ok : FTOk Tryz.prog ft := (ft_node (ft_node (ft_node (ft_node (ft_node (ft_node (ft_node (ft_node (ft_node (ft_node ft_nil ft_nil Tryz.func0 nm0) ft_nil Tryz.func1 nm1) (ft_node ft_nil ft_nil Tryz.func3 nm3) Tryz.func2 nm2) (ft_node (ft_node (ft_node ft_nil ft_nil Tryz.func5 nm5) ft_nil Tryz.func6 nm6) (ft_node ft_nil ft_nil Tryz.func8 nm8) Tryz.func7 nm7) Tryz.func4 nm4) (ft_node (ft_node (ft_node (ft_node ft_nil ft_nil Tryz.func10 nm10) ft_nil Tryz.func11 nm11) (ft_node ft_nil ft_nil Tryz.func13 nm13) Tryz.func12 nm12) (ft_node (ft_node ft_nil ft_nil Tryz.func15 nm15) (ft_node ft_nil ft_nil Tryz.func17 nm17) Tryz.func16 nm16) Tryz.func14 nm14) Tryz.func9 nm9) (ft_node (ft_node (ft_node (ft_node (ft_node ft_nil ft_nil Tryz.func19 nm19) ft_nil Tryz.func20 nm20) (ft_node ft_nil ft_nil Tryz.func22 nm22) Tryz.func21 nm21) (ft_node (ft_node ft_nil ft_nil Tryz.func24 nm24) (ft_node ft_nil ft_nil Tryz.func26 nm26) Tryz.func25 nm25) Tryz.func23 nm23) (ft_node (ft_node (ft_node (ft_node ft_nil ft_nil Tryz.func28 nm28) ft_nil Tryz.func29 nm29) (ft_node ft_nil ft_nil Tryz.func31 nm31) Tryz.func30 nm30) (ft_node (ft_node ft_nil ft_nil Tryz.func33 nm33) (ft_node ft_nil ft_nil Tryz.func35 nm35) Tryz.func34 nm34) Tryz.func32 nm32) Tryz.func27 nm27) Tryz.func18 nm18) (ft_node (ft_node (ft_node (ft_node (ft_node (ft_node ft_nil ft_nil Tryz.func37 nm37) ft_nil Tryz.func38 nm38) (ft_node ft_nil ft_nil Tryz.func40 nm40) Tryz.func39 nm39) (ft_node (ft_node (ft_node ft_nil ft_nil Tryz.func42 nm42) ft_nil Tryz.func43 nm43) (ft_node ft_nil ft_nil Tryz.func45 nm45) Tryz.func44 nm44) Tryz.func41 nm41) (ft_node (ft_node (ft_node (ft_node ft_nil ft_nil Tryz.func47 nm47) ft_nil Tryz.func48 nm48) (ft_node ft_nil ft_nil Tryz.func50 nm50) Tryz.func49 nm49) (ft_node (ft_node ft_nil ft_nil Tryz.func52 nm52) (ft_node ft_nil ft_nil Tryz.func54 nm54) Tryz.func53 nm53) Tryz.func51 nm51) Tryz.func46 nm46) (ft_node (ft_node (ft_node (ft_node (ft_node ft_nil ft_nil Tryz.func56 nm56) ft_nil Tryz.func57 nm57) (ft_node ft_nil ft_nil Tryz.func59 nm59) Tryz.func58 nm58) (ft_node (ft_node ft_nil ft_nil Tryz.func61 nm61) (ft_node ft_nil ft_nil Tryz.func63 nm63) Tryz.func62 nm62) Tryz.func60 nm60) (ft_node (ft_node (ft_node (ft_node ft_nil ft_nil Tryz.func65 nm65) ft_nil Tryz.func66 nm66) (ft_node ft_nil ft_nil Tryz.func68 nm68) Tryz.func67 nm67) (ft_node (ft_node ft_nil ft_nil Tryz.func70 nm70) (ft_node ft_nil ft_nil Tryz.func72 nm72) Tryz.func71 nm71) Tryz.func69 nm69) Tryz.func64 nm64) Tryz.func55 nm55) Tryz.func36 nm36) (ft_node (ft_node (ft_node (ft_node (ft_node (ft_node (ft_node ft_nil ft_nil Tryz.func74 nm74) ft_nil Tryz.func75 nm75) (ft_node ft_nil ft_nil Tryz.func77 nm77) Tryz.func76 nm76) (ft_node (ft_node (ft_node ft_nil ft_nil Tryz.func79 nm79) ft_nil Tryz.func80 nm80) (ft_node ft_nil ft_nil Tryz.func82 nm82) Tryz.func81 nm81) Tryz.func78 nm78) (ft_node (ft_node (ft_node (ft_node ft_nil ft_nil Tryz.func84 nm84) ft_nil Tryz.func85 nm85) (ft_node ft_nil ft_nil Tryz.func87 nm87) Tryz.func86 nm86) (ft_node (ft_node ft_nil ft_nil Tryz.func89 nm89) (ft_node ft_nil ft_nil Tryz.func91 nm91) Tryz.func90 nm90) Tryz.func88 nm88) Tryz.func83 nm83) (ft_node (ft_node (ft_node (ft_node (ft_node ft_nil ft_nil Tryz.func93 nm93) ft_nil Tryz.func94 nm94) (ft_node ft_nil ft_nil Tryz.func96 nm96) Tryz.func95 nm95) (ft_node (ft_node ft_nil ft_nil Tryz.func98 nm98) (ft_node ft_nil ft_nil Tryz.func100 nm100) Tryz.func99 nm99) Tryz.func97 nm97) (ft_node (ft_node (ft_node (ft_node ft_nil ft_nil Tryz.func102 nm102) ft_nil Tryz.func103 nm103) (ft_node ft_nil ft_nil Tryz.func105 nm105) Tryz.func104 nm104) (ft_node (ft_node ft_nil ft_nil Tryz.func107 nm107) (ft_node ft_nil ft_nil Tryz.func109 nm109) Tryz.func108 nm108) Tryz.func106 nm106) Tryz.func101 nm101) Tryz.func92 nm92) (ft_node (ft_node (ft_node (ft_node (ft_node (ft_node ft_nil ft_nil Tryz.func111 nm111) ft_nil Tryz.func112 nm112) (ft_node ft_nil ft_nil Tryz.func114 nm114) Tryz.func113 nm113) (ft_node (ft_node (ft_node ft_nil ft_nil Tryz.func116 nm116) ft_nil Tryz.func117 nm117) (ft_node ft_nil ft_nil Tryz.func119 nm119) Tryz.func118 nm118) Tryz.func115 nm115) (ft_node (ft_node (ft_node (ft_node ft_nil ft_nil Tryz.func121 nm121) ft_nil Tryz.func122 nm122) (ft_node ft_nil ft_nil Tryz.func124 nm124) Tryz.func123 nm123) (ft_node (ft_node ft_nil ft_nil Tryz.func126 nm126) (ft_node ft_nil ft_nil Tryz.func128 nm128) Tryz.func127 nm127) Tryz.func125 nm125) Tryz.func120 nm120) (ft_node (ft_node (ft_node (ft_node (ft_node ft_nil ft_nil Tryz.func130 nm130) ft_nil Tryz.func131 nm131) (ft_node ft_nil ft_nil Tryz.func133 nm133) Tryz.func132 nm132) (ft_node (ft_node ft_nil ft_nil Tryz.func135 nm135) (ft_node ft_nil ft_nil Tryz.func137 nm137) Tryz.func136 nm136) Tryz.func134 nm134) (ft_node (ft_node (ft_node (ft_node ft_nil ft_nil Tryz.func139 nm139) ft_nil Tryz.func140 nm140) (ft_node ft_nil ft_nil Tryz.func142 nm142) Tryz.func141 nm141) (ft_node (ft_node ft_nil ft_nil Tryz.func144 nm144) (ft_node ft_nil ft_nil Tryz.func146 nm146) Tryz.func145 nm145) Tryz.func143 nm143) Tryz.func138 nm138) Tryz.func129 nm129) Tryz.func110 nm110) Tryz.func73 nm73) (ft_node (ft_node (ft_node (ft_node (ft_node (ft_node (ft_node (ft_node ft_nil ft_nil Tryz.func148 nm148) ft_nil Tryz.func149 nm149) (ft_node ft_nil ft_nil Tryz.func151 nm151) Tryz.func150 nm150) (ft_node (ft_node (ft_node ft_nil ft_nil Tryz.func153 nm153) ft_nil Tryz.func154 nm154) (ft_node ft_nil ft_nil Tryz.func156 nm156) Tryz.func155 nm155) Tryz.func152 nm152) (ft_node (ft_node (ft_node (ft_node ft_nil ft_nil Tryz.func158 nm158) ft_nil Tryz.func159 nm159) (ft_node ft_nil ft_nil Tryz.func161 nm161) Tryz.func160 nm160) (ft_node (ft_node ft_nil ft_nil Tryz.func163 nm163) (ft_node ft_nil ft_nil Tryz.func165 nm165) Tryz.func164 nm164) Tryz.func162 nm162) Tryz.func157 nm157) (ft_node (ft_node (ft_node (ft_node (ft_node ft_nil ft_nil Tryz.func167 nm167) ft_nil Tryz.func168 nm168) (ft_node ft_nil ft_nil Tryz.func170 nm170) Tryz.func169 nm169) (ft_node (ft_node ft_nil ft_nil Tryz.func172 nm172) (ft_node ft_nil ft_nil Tryz.func174 nm174) Tryz.func173 nm173) Tryz.func171 nm171) (ft_node (ft_node (ft_node (ft_node ft_nil ft_nil Tryz.func176 nm176) ft_nil Tryz.func177 nm177) (ft_node ft_nil ft_nil Tryz.func179 nm179) Tryz.func178 nm178) (ft_node (ft_node ft_nil ft_nil Tryz.func181 nm181) (ft_node ft_nil ft_nil Tryz.func183 nm183) Tryz.func182 nm182) Tryz.func180 nm180) Tryz.func175 nm175) Tryz.func166 nm166) (ft_node (ft_node (ft_node (ft_node (ft_node (ft_node ft_nil ft_nil Tryz.func185 nm185) ft_nil Tryz.func186 nm186) (ft_node ft_nil ft_nil Tryz.func188 nm188) Tryz.func187 nm187) (ft_node (ft_node (ft_node ft_nil ft_nil Tryz.func190 nm190) ft_nil Tryz.func191 nm191) (ft_node ft_nil ft_nil Tryz.func193 nm193) Tryz.func192 nm192) Tryz.func189 nm189) (ft_node (ft_node (ft_node (ft_node ft_nil ft_nil Tryz.func195 nm195) ft_nil Tryz.func196 nm196) (ft_node ft_nil ft_nil Tryz.func198 nm198) Tryz.func197 nm197) (ft_node (ft_node ft_nil ft_nil Tryz.func200 nm200) (ft_node ft_nil ft_nil Tryz.func202 nm202) Tryz.func201 nm201) Tryz.func199 nm199) Tryz.func194 nm194) (ft_node (ft_node (ft_node (ft_node (ft_node ft_nil ft_nil Tryz.func204 nm204) ft_nil Tryz.func205 nm205) (ft_node ft_nil ft_nil Tryz.func207 nm207) Tryz.func206 nm206) (ft_node (ft_node ft_nil ft_nil Tryz.func209 nm209) (ft_node ft_nil ft_nil Tryz.func211 nm211) Tryz.func210 nm210) Tryz.func208 nm208) (ft_node (ft_node (ft_node (ft_node ft_nil ft_nil Tryz.func213 nm213) ft_nil Tryz.func214 nm214) (ft_node ft_nil ft_nil Tryz.func216 nm216) Tryz.func215 nm215) (ft_node (ft_node ft_nil ft_nil Tryz.func218 nm218) (ft_node ft_nil ft_nil Tryz.func220 nm220) Tryz.func219 nm219) Tryz.func217 nm217) Tryz.func212 nm212) Tryz.func203 nm203) Tryz.func184 nm184) (ft_node (ft_node (ft_node (ft_node (ft_node (ft_node (ft_node ft_nil ft_nil Tryz.func222 nm222) ft_nil Tryz.func223 nm223) (ft_node ft_nil ft_nil Tryz.func225 nm225) Tryz.func224 nm224) (ft_node (ft_node (ft_node ft_nil ft_nil Tryz.func227 nm227) ft_nil Tryz.func228 nm228) (ft_node ft_nil ft_nil Tryz.func230 nm230) Tryz.func229 nm229) Tryz.func226 nm226) (ft_node (ft_node (ft_node (ft_node ft_nil ft_nil Tryz.func232 nm232) ft_nil Tryz.func233 nm233) (ft_node ft_nil ft_nil Tryz.func235 nm235) Tryz.func234 nm234) (ft_node (ft_node ft_nil ft_nil Tryz.func237 nm237) (ft_node ft_nil ft_nil Tryz.func239 nm239) Tryz.func238 nm238) Tryz.func236 nm236) Tryz.func231 nm231) (ft_node (ft_node (ft_node (ft_node (ft_node ft_nil ft_nil Tryz.func241 nm241) ft_nil Tryz.func242 nm242) (ft_node ft_nil ft_nil Tryz.func244 nm244) Tryz.func243 nm243) (ft_node (ft_node ft_nil ft_nil Tryz.func246 nm246) (ft_node ft_nil ft_nil Tryz.func248 nm248) Tryz.func247 nm247) Tryz.func245 nm245) (ft_node (ft_node (ft_node (ft_node ft_nil ft_nil Tryz.func250 nm250) ft_nil Tryz.func251 nm251) (ft_node ft_nil ft_nil Tryz.func253 nm253) Tryz.func252 nm252) (ft_node (ft_node ft_nil ft_nil Tryz.func255 nm255) (ft_node ft_nil ft_nil Tryz.func257 nm257) Tryz.func256 nm256) Tryz.func254 nm254) Tryz.func249 nm249) Tryz.func240 nm240) (ft_node (ft_node (ft_node (ft_node (ft_node (ft_node ft_nil ft_nil Tryz.func259 nm259) ft_nil Tryz.func260 nm260) (ft_node ft_nil ft_nil Tryz.func262 nm262) Tryz.func261 nm261) (ft_node (ft_node (ft_node ft_nil ft_nil Tryz.func264 nm264) ft_nil Tryz.func265 nm265) (ft_node ft_nil ft_nil Tryz.func267 nm267) Tryz.func266 nm266) Tryz.func263 nm263) (ft_node (ft_node (ft_node (ft_node ft_nil ft_nil Tryz.func269 nm269) ft_nil Tryz.func270 nm270) (ft_node ft_nil ft_nil Tryz.func272 nm272) Tryz.func271 nm271) (ft_node (ft_node ft_nil ft_nil Tryz.func274 nm274) (ft_node ft_nil ft_nil Tryz.func276 nm276) Tryz.func275 nm275) Tryz.func273 nm273) Tryz.func268 nm268) (ft_node (ft_node (ft_node (ft_node (ft_node ft_nil ft_nil Tryz.func278 nm278) ft_nil Tryz.func279 nm279) (ft_node ft_nil ft_nil Tryz.func281 nm281) Tryz.func280 nm280) (ft_node (ft_node ft_nil ft_nil Tryz.func283 nm283) (ft_node ft_nil ft_nil Tryz.func285 nm285) Tryz.func284 nm284) Tryz.func282 nm282) (ft_node (ft_node (ft_node (ft_node ft_nil ft_nil Tryz.func287 nm287) ft_nil Tryz.func288 nm288) (ft_node ft_nil ft_nil Tryz.func290 nm290) Tryz.func289 nm289) (ft_node (ft_node ft_nil ft_nil Tryz.func292 nm292) (ft_node ft_nil ft_nil Tryz.func294 nm294) Tryz.func293 nm293) Tryz.func291 nm291) Tryz.func286 nm286) Tryz.func277 nm277) Tryz.func258 nm258) Tryz.func221 nm221) Tryz.func147 nm147) (ft_node (ft_node (ft_node (ft_node (ft_node (ft_node (ft_node (ft_node (ft_node ft_nil ft_nil Tryz.func296 nm296) ft_nil Tryz.func297 nm297) (ft_node ft_nil ft_nil Tryz.func299 nm299) Tryz.func298 nm298) (ft_node (ft_node (ft_node ft_nil ft_nil Tryz.func301 nm301) ft_nil Tryz.func302 nm302) (ft_node ft_nil ft_nil Tryz.func304 nm304) Tryz.func303 nm303) Tryz.func300 nm300) (ft_node (ft_node (ft_node (ft_node ft_nil ft_nil Tryz.func306 nm306) ft_nil Tryz.func307 nm307) (ft_node ft_nil ft_nil Tryz.func309 nm309) Tryz.func308 nm308) (ft_node (ft_node ft_nil ft_nil Tryz.func311 nm311) (ft_node ft_nil ft_nil Tryz.func313 nm313) Tryz.func312 nm312) Tryz.func310 nm310) Tryz.func305 nm305) (ft_node (ft_node (ft_node (ft_node (ft_node ft_nil ft_nil Tryz.func315 nm315) ft_nil Tryz.func316 nm316) (ft_node ft_nil ft_nil Tryz.func318 nm318) Tryz.func317 nm317) (ft_node (ft_node ft_nil ft_nil Tryz.func320 nm320) (ft_node ft_nil ft_nil Tryz.func322 nm322) Tryz.func321 nm321) Tryz.func319 nm319) (ft_node (ft_node (ft_node (ft_node ft_nil ft_nil Tryz.func324 nm324) ft_nil Tryz.func325 nm325) (ft_node ft_nil ft_nil Tryz.func327 nm327) Tryz.func326 nm326) (ft_node (ft_node ft_nil ft_nil Tryz.func329 nm329) (ft_node ft_nil ft_nil Tryz.func331 nm331) Tryz.func330 nm330) Tryz.func328 nm328) Tryz.func323 nm323) Tryz.func314 nm314) (ft_node (ft_node (ft_node (ft_node (ft_node (ft_node ft_nil ft_nil Tryz.func333 nm333) ft_nil Tryz.func334 nm334) (ft_node ft_nil ft_nil Tryz.func336 nm336) Tryz.func335 nm335) (ft_node (ft_node (ft_node ft_nil ft_nil Tryz.func338 nm338) ft_nil Tryz.func339 nm339) (ft_node ft_nil ft_nil Tryz.func341 nm341) Tryz.func340 nm340) Tryz.func337 nm337) (ft_node (ft_node (ft_node (ft_node ft_nil ft_nil Tryz.func343 nm343) ft_nil Tryz.func344 nm344) (ft_node ft_nil ft_nil Tryz.func346 nm346) Tryz.func345 nm345) (ft_node (ft_node ft_nil ft_nil Tryz.func348 nm348) (ft_node ft_nil ft_nil Tryz.func350 nm350) Tryz.func349 nm349) Tryz.func347 nm347) Tryz.func342 nm342) (ft_node (ft_node (ft_node (ft_node (ft_node ft_nil ft_nil Tryz.func352 nm352) ft_nil Tryz.func353 nm353) (ft_node ft_nil ft_nil Tryz.func355 nm355) Tryz.func354 nm354) (ft_node (ft_node ft_nil ft_nil Tryz.func357 nm357) (ft_node ft_nil ft_nil Tryz.func359 nm359) Tryz.func358 nm358) Tryz.func356 nm356) (ft_node (ft_node (ft_node (ft_node ft_nil ft_nil Tryz.func361 nm361) ft_nil Tryz.func362 nm362) (ft_node ft_nil ft_nil Tryz.func364 nm364) Tryz.func363 nm363) (ft_node (ft_node ft_nil ft_nil Tryz.func366 nm366) (ft_node ft_nil ft_nil Tryz.func368 nm368) Tryz.func367 nm367) Tryz.func365 nm365) Tryz.func360 nm360) Tryz.func351 nm351) Tryz.func332 nm332) (ft_node (ft_node (ft_node (ft_node (ft_node (ft_node (ft_node ft_nil ft_nil Tryz.func370 nm370) ft_nil Tryz.func371 nm371) (ft_node ft_nil ft_nil Tryz.func373 nm373) Tryz.func372 nm372) (ft_node (ft_node (ft_node ft_nil ft_nil Tryz.func375 nm375) ft_nil Tryz.func376 nm376) (ft_node ft_nil ft_nil Tryz.func378 nm378) Tryz.func377 nm377) Tryz.func374 nm374) (ft_node (ft_node (ft_node (ft_node ft_nil ft_nil Tryz.func380 nm380) ft_nil Tryz.func381 nm381) (ft_node ft_nil ft_nil Tryz.func383 nm383) Tryz.func382 nm382) (ft_node (ft_node ft_nil ft_nil Tryz.func385 nm385) (ft_node ft_nil ft_nil Tryz.func387 nm387) Tryz.func386 nm386) Tryz.func384 nm384) Tryz.func379 nm379) (ft_node (ft_node (ft_node (ft_node (ft_node ft_nil ft_nil Tryz.func389 nm389) ft_nil Tryz.func390 nm390) (ft_node ft_nil ft_nil Tryz.func392 nm392) Tryz.func391 nm391) (ft_node (ft_node ft_nil ft_nil Tryz.func394 nm394) (ft_node ft_nil ft_nil Tryz.func396 nm396) Tryz.func395 nm395) Tryz.func393 nm393) (ft_node (ft_node (ft_node (ft_node ft_nil ft_nil Tryz.func398 nm398) ft_nil Tryz.func399 nm399) (ft_node ft_nil ft_nil Tryz.func401 nm401) Tryz.func400 nm400) (ft_node (ft_node ft_nil ft_nil Tryz.func403 nm403) (ft_node ft_nil ft_nil Tryz.func405 nm405) Tryz.func404 nm404) Tryz.func402 nm402) Tryz.func397 nm397) Tryz.func388 nm388) (ft_node (ft_node (ft_node (ft_node (ft_node (ft_node ft_nil ft_nil Tryz.func407 nm407) ft_nil Tryz.func408 nm408) (ft_node ft_nil ft_nil Tryz.func410 nm410) Tryz.func409 nm409) (ft_node (ft_node (ft_node ft_nil ft_nil Tryz.func412 nm412) ft_nil Tryz.func413 nm413) (ft_node ft_nil ft_nil Tryz.func415 nm415) Tryz.func414 nm414) Tryz.func411 nm411) (ft_node (ft_node (ft_node (ft_node ft_nil ft_nil Tryz.func417 nm417) ft_nil Tryz.func418 nm418) (ft_node ft_nil ft_nil Tryz.func420 nm420) Tryz.func419 nm419) (ft_node (ft_node ft_nil ft_nil Tryz.func422 nm422) (ft_node ft_nil ft_nil Tryz.func424 nm424) Tryz.func423 nm423) Tryz.func421 nm421) Tryz.func416 nm416) (ft_node (ft_node (ft_node (ft_node (ft_node ft_nil ft_nil Tryz.func426 nm426) ft_nil Tryz.func427 nm427) (ft_node ft_nil ft_nil Tryz.func429 nm429) Tryz.func428 nm428) (ft_node (ft_node ft_nil ft_nil Tryz.func431 nm431) (ft_node ft_nil ft_nil Tryz.func433 nm433) Tryz.func432 nm432) Tryz.func430 nm430) (ft_node (ft_node (ft_node (ft_node ft_nil ft_nil Tryz.func435 nm435) ft_nil Tryz.func436 nm436) (ft_node ft_nil ft_nil Tryz.func438 nm438) Tryz.func437 nm437) (ft_node (ft_node ft_nil ft_nil Tryz.func440 nm440) (ft_node ft_nil ft_nil Tryz.func442 nm442) Tryz.func441 nm441) Tryz.func439 nm439) Tryz.func434 nm434) Tryz.func425 nm425) Tryz.func406 nm406) Tryz.func369 nm369) (ft_node (ft_node (ft_node (ft_node (ft_node (ft_node (ft_node (ft_node ft_nil ft_nil Tryz.func444 nm444) ft_nil Tryz.func445 nm445) (ft_node ft_nil ft_nil Tryz.func447 nm447) Tryz.func446 nm446) (ft_node (ft_node (ft_node ft_nil ft_nil Tryz.func449 nm449) ft_nil Tryz.func450 nm450) (ft_node ft_nil ft_nil Tryz.func452 nm452) Tryz.func451 nm451) Tryz.func448 nm448) (ft_node (ft_node (ft_node (ft_node ft_nil ft_nil Tryz.func454 nm454) ft_nil Tryz.func455 nm455) (ft_node ft_nil ft_nil Tryz.func457 nm457) Tryz.func456 nm456) (ft_node (ft_node ft_nil ft_nil Tryz.func459 nm459) (ft_node ft_nil ft_nil Tryz.func461 nm461) Tryz.func460 nm460) Tryz.func458 nm458) Tryz.func453 nm453) (ft_node (ft_node (ft_node (ft_node (ft_node ft_nil ft_nil Tryz.func463 nm463) ft_nil Tryz.func464 nm464) (ft_node ft_nil ft_nil Tryz.func466 nm466) Tryz.func465 nm465) (ft_node (ft_node ft_nil ft_nil Tryz.func468 nm468) (ft_node ft_nil ft_nil Tryz.func470 nm470) Tryz.func469 nm469) Tryz.func467 nm467) (ft_node (ft_node (ft_node (ft_node ft_nil ft_nil Tryz.func472 nm472) ft_nil Tryz.func473 nm473) (ft_node ft_nil ft_nil Tryz.func475 nm475) Tryz.func474 nm474) (ft_node (ft_node ft_nil ft_nil Tryz.func477 nm477) (ft_node ft_nil ft_nil Tryz.func479 nm479) Tryz.func478 nm478) Tryz.func476 nm476) Tryz.func471 nm471) Tryz.func462 nm462) (ft_node (ft_node (ft_node (ft_node (ft_node (ft_node ft_nil ft_nil Tryz.func481 nm481) ft_nil Tryz.func482 nm482) (ft_node ft_nil ft_nil Tryz.func484 nm484) Tryz.func483 nm483) (ft_node (ft_node (ft_node ft_nil ft_nil Tryz.func486 nm486) ft_nil Tryz.func487 nm487) (ft_node ft_nil ft_nil Tryz.func489 nm489) Tryz.func488 nm488) Tryz.func485 nm485) (ft_node (ft_node (ft_node (ft_node ft_nil ft_nil Tryz.func491 nm491) ft_nil Tryz.func492 nm492) (ft_node ft_nil ft_nil Tryz.func494 nm494) Tryz.func493 nm493) (ft_node (ft_node ft_nil ft_nil Tryz.func496 nm496) (ft_node ft_nil ft_nil Tryz.func498 nm498) Tryz.func497 nm497) Tryz.func495 nm495) Tryz.func490 nm490) (ft_node (ft_node (ft_node (ft_node (ft_node ft_nil ft_nil Tryz.func500 nm500) ft_nil Tryz.func501 nm501) (ft_node ft_nil ft_nil Tryz.func503 nm503) Tryz.func502 nm502) (ft_node (ft_node ft_nil ft_nil Tryz.func505 nm505) (ft_node ft_nil ft_nil Tryz.func507 nm507) Tryz.func506 nm506) Tryz.func504 nm504) (ft_node (ft_node (ft_node (ft_node ft_nil ft_nil Tryz.func509 nm509) ft_nil Tryz.func510 nm510) (ft_node ft_nil ft_nil Tryz.func512 nm512) Tryz.func511 nm511) (ft_node (ft_node ft_nil ft_nil Tryz.func514 nm514) (ft_node ft_nil ft_nil Tryz.func516 nm516) Tryz.func515 nm515) Tryz.func513 nm513) Tryz.func508 nm508) Tryz.func499 nm499) Tryz.func480 nm480) (ft_node (ft_node (ft_node (ft_node (ft_node (ft_node (ft_node ft_nil ft_nil Tryz.func518 nm518) ft_nil Tryz.func519 nm519) (ft_node ft_nil ft_nil Tryz.func521 nm521) Tryz.func520 nm520) (ft_node (ft_node (ft_node ft_nil ft_nil Tryz.func523 nm523) ft_nil Tryz.func524 nm524) (ft_node ft_nil ft_nil Tryz.func526 nm526) Tryz.func525 nm525) Tryz.func522 nm522) (ft_node (ft_node (ft_node (ft_node ft_nil ft_nil Tryz.func528 nm528) ft_nil Tryz.func529 nm529) (ft_node ft_nil ft_nil Tryz.func531 nm531) Tryz.func530 nm530) (ft_node (ft_node ft_nil ft_nil Tryz.func533 nm533) (ft_node ft_nil ft_nil Tryz.func535 nm535) Tryz.func534 nm534) Tryz.func532 nm532) Tryz.func527 nm527) (ft_node (ft_node (ft_node (ft_node (ft_node ft_nil ft_nil Tryz.func537 nm537) ft_nil Tryz.func538 nm538) (ft_node ft_nil ft_nil Tryz.func540 nm540) Tryz.func539 nm539) (ft_node (ft_node ft_nil ft_nil Tryz.func542 nm542) (ft_node ft_nil ft_nil Tryz.func544 nm544) Tryz.func543 nm543) Tryz.func541 nm541) (ft_node (ft_node (ft_node (ft_node ft_nil ft_nil Tryz.func546 nm546) ft_nil Tryz.func547 nm547) (ft_node ft_nil ft_nil Tryz.func549 nm549) Tryz.func548 nm548) (ft_node (ft_node ft_nil ft_nil Tryz.func551 nm551) (ft_node ft_nil ft_nil Tryz.func553 nm553) Tryz.func552 nm552) Tryz.func550 nm550) Tryz.func545 nm545) Tryz.func536 nm536) (ft_node (ft_node (ft_node (ft_node (ft_node (ft_node ft_nil ft_nil Tryz.func555 nm555) ft_nil Tryz.func556 nm556) (ft_node ft_nil ft_nil Tryz.func558 nm558) Tryz.func557 nm557) (ft_node (ft_node (ft_node ft_nil ft_nil Tryz.func560 nm560) ft_nil Tryz.func561 nm561) (ft_node ft_nil ft_nil Tryz.func563 nm563) Tryz.func562 nm562) Tryz.func559 nm559) (ft_node (ft_node (ft_node (ft_node ft_nil ft_nil Tryz.func565 nm565) ft_nil Tryz.func566 nm566) (ft_node ft_nil ft_nil Tryz.func568 nm568) Tryz.func567 nm567) (ft_node (ft_node ft_nil ft_nil Tryz.func570 nm570) (ft_node ft_nil ft_nil Tryz.func572 nm572) Tryz.func571 nm571) Tryz.func569 nm569) Tryz.func564 nm564) (ft_node (ft_node (ft_node (ft_node (ft_node ft_nil ft_nil Tryz.func574 nm574) ft_nil Tryz.func575 nm575) (ft_node ft_nil ft_nil Tryz.func577 nm577) Tryz.func576 nm576) (ft_node (ft_node ft_nil ft_nil Tryz.func579 nm579) (ft_node ft_nil ft_nil Tryz.func581 nm581) Tryz.func580 nm580) Tryz.func578 nm578) (ft_node (ft_node (ft_node (ft_node ft_nil ft_nil Tryz.func583 nm583) ft_nil Tryz.func584 nm584) (ft_node ft_nil ft_nil Tryz.func586 nm586) Tryz.func585 nm585) (ft_node (ft_node ft_nil ft_nil Tryz.func588 nm588) (ft_node ft_nil ft_nil Tryz.func590 nm590) Tryz.func589 nm589) Tryz.func587 nm587) Tryz.func582 nm582) Tryz.func573 nm573) Tryz.func554 nm554) Tryz.func517 nm517) Tryz.func443 nm443) Tryz.func295 nm295)
theorem mix_ok : Tryz.prog.follows .mixedOrders = true := by kernel_rfl
noncomputable def envC (Δ : List Eng.CS) (wr : Bool) (cuts : List (Nat × Nat)) : Env := { T := tab, Γ := [], Δ := Δ, FT := ft, inv := fun _ _ _ => none, wr := fun _ => wr, cut := R.inL cuts }
theorem envC_ok {Δ : List Eng.CS} {wr : Bool} {cuts : List (Nat × Nat)} (h' : CSsOk Tryz.prog Δ) : EnvOk Tryz.prog (envC Δ wr cuts) := ⟨mix_ok, tab_ok, specs_nil, h', ft_ok⟩
end Go.Proofs.YtlmnbignmbhfmaaGreat
