/- The table of types of this translation, for the engine; by program (gentab.py). -/
import Derived.Test.YtenjkphlbdhaiaaDoorProg
import Derived.Test.YtenjkphlbdhaiaaDoorEngRd
set_option linter.unusedVariables false
set_option linter.unusedSimpArgs false
namespace Go.Proofs.YtenjkphlbdhaiaaDoor
open Go Go.Eng

def t1 : TI := ⟨.func, 1, 8, [.nilFunc], [.func], []⟩
def t2 : TI := ⟨.int .i64, 1, 8, [.int .i64 0], [.int .i64], []⟩
def t3 : TI := ⟨.int .i64, 1, 8, [.int .i64 0], [.int .i64], []⟩
def t4 : TI := ⟨.bool, 1, 1, [.bool false], [.bool], []⟩
def t5 : TI := ⟨.int .u8, 1, 1, [.int .u8 0], [.int .u8], []⟩
def t6 : TI := ⟨.int .u8, 1, 1, [.int .u8 0], [.int .u8], []⟩
def t7 : TI := ⟨.struct [(0, 2), (1, 3), (2, 4), (3, 6)], 4, 24, [.int .i64 0, .int .i64 0, .bool false, .int .u8 0], [.int .i64, .int .i64, .bool, .int .u8], []⟩
def t8 : TI := ⟨.struct [(0, 2), (1, 3), (2, 4), (3, 6)], 4, 24, [.int .i64 0, .int .i64 0, .bool false, .int .u8 0], [.int .i64, .int .i64, .bool, .int .u8], []⟩
def t9 : TI := ⟨.str, 1, 16, [.string ⟨#[]⟩], [.str], []⟩
def t10 : TI := ⟨.str, 1, 16, [.string ⟨#[]⟩], [.str], []⟩
def t11 : TI := ⟨.str, 1, 16, [.string ⟨#[]⟩], [.str], []⟩
def t12 : TI := ⟨.int .u64, 1, 8, [.int .u64 0], [.int .u64], []⟩
def t13 : TI := ⟨.struct [(0, 9), (1, 12)], 2, 24, [.string ⟨#[]⟩, .int .u64 0], [.str, .int .u64], []⟩
def t14 : TI := ⟨.struct [(0, 9), (1, 12)], 2, 24, [.string ⟨#[]⟩, .int .u64 0], [.str, .int .u64], []⟩
def t15 : TI := ⟨.ptr 130, 1, 8, [.pointer none], [.ptr 130], []⟩
def t16 : TI := ⟨.ptr 133, 1, 8, [.pointer none], [.ptr 133], []⟩
def t17 : TI := ⟨.ptr 141, 1, 8, [.pointer none], [.ptr 141], []⟩
def t18 : TI := ⟨.struct [(0, 17)], 1, 8, [.pointer none], [.ptr 141], []⟩
def t19 : TI := ⟨.struct [(0, 17)], 1, 8, [.pointer none], [.ptr 141], []⟩
def t21 : TI := ⟨.int .i32, 1, 4, [.int .i32 0], [.int .i32], []⟩
def t22 : TI := ⟨.slice 5, 1, 24, [.slice none 0 0], [.slice 5], []⟩
def t23 : TI := ⟨.func, 1, 8, [.nilFunc], [.func], []⟩
def t24 : TI := ⟨.ptr 55, 1, 8, [.pointer none], [.ptr 55], []⟩
def t25 : TI := ⟨.func, 1, 8, [.nilFunc], [.func], []⟩
def t26 : TI := ⟨.slice 51, 1, 24, [.slice none 0 0], [.slice 51], []⟩
def t27 : TI := ⟨.func, 1, 8, [.nilFunc], [.func], []⟩
def t28 : TI := ⟨.func, 1, 8, [.nilFunc], [.func], []⟩
def t29 : TI := ⟨.func, 1, 8, [.nilFunc], [.func], []⟩
def t30 : TI := ⟨.func, 1, 8, [.nilFunc], [.func], []⟩
def t31 : TI := ⟨.func, 1, 8, [.nilFunc], [.func], []⟩
def t32 : TI := ⟨.int .u16, 1, 2, [.int .u16 0], [.int .u16], []⟩
def t33 : TI := ⟨.struct [(0, 22), (1, 4)], 2, 32, [.slice none 0 0, .bool false], [.slice 5, .bool], []⟩
def t34 : TI := ⟨.struct [(0, 22), (1, 4)], 2, 32, [.slice none 0 0, .bool false], [.slice 5, .bool], []⟩
def t36 : TI := ⟨.func, 1, 8, [.nilFunc], [.func], []⟩
def t37 : TI := ⟨.func, 1, 8, [.nilFunc], [.func], []⟩
def t38 : TI := ⟨.slice 40, 1, 24, [.slice none 0 0], [.slice 40], []⟩
def t39 : TI := ⟨.struct [(0, 5), (1, 22)], 2, 32, [.int .u8 0, .slice none 0 0], [.int .u8, .slice 5], []⟩
def t40 : TI := ⟨.struct [(0, 5), (1, 22)], 2, 32, [.int .u8 0, .slice none 0 0], [.int .u8, .slice 5], []⟩
def t41 : TI := ⟨.func, 1, 8, [.nilFunc], [.func], []⟩
def t42 : TI := ⟨.func, 1, 8, [.nilFunc], [.func], []⟩
def t44 : TI := ⟨.func, 1, 8, [.nilFunc], [.func], []⟩
def t46 : TI := ⟨.func, 1, 8, [.nilFunc], [.func], []⟩
def t47 : TI := ⟨.func, 1, 8, [.nilFunc], [.func], []⟩
def t48 : TI := ⟨.func, 1, 8, [.nilFunc], [.func], []⟩
def t49 : TI := ⟨.int .i64, 1, 8, [.int .i64 0], [.int .i64], []⟩
def t50 : TI := ⟨.struct [(0, 49), (1, 9), (2, 3), (3, 4), (4, 4), (5, 4)], 6, 40, [.int .i64 0, .string ⟨#[]⟩, .int .i64 0, .bool false, .bool false, .bool false], [.int .i64, .str, .int .i64, .bool, .bool, .bool], [.int .i64, .str, .int .i64, .bool, .bool, .bool]⟩
def t51 : TI := ⟨.struct [(0, 49), (1, 9), (2, 3), (3, 4), (4, 4), (5, 4)], 6, 40, [.int .i64 0, .string ⟨#[]⟩, .int .i64 0, .bool false, .bool false, .bool false], [.int .i64, .str, .int .i64, .bool, .bool, .bool], [.int .i64, .str, .int .i64, .bool, .bool, .bool]⟩
def t52 : TI := ⟨.struct [(0, 22), (1, 4), (2, 22), (3, 3)], 4, 64, [.slice none 0 0, .bool false, .slice none 0 0, .int .i64 0], [.slice 5, .bool, .slice 5, .int .i64], []⟩
def t53 : TI := ⟨.struct [(0, 22), (1, 4), (2, 22), (3, 3)], 4, 64, [.slice none 0 0, .bool false, .slice none 0 0, .int .i64 0], [.slice 5, .bool, .slice 5, .int .i64], []⟩
def t54 : TI := ⟨.struct [(0, 53), (4, 4)], 5, 72, [.slice none 0 0, .bool false, .slice none 0 0, .int .i64 0, .bool false], [.slice 5, .bool, .slice 5, .int .i64, .bool], []⟩
def t55 : TI := ⟨.struct [(0, 53), (4, 4)], 5, 72, [.slice none 0 0, .bool false, .slice none 0 0, .int .i64 0, .bool false], [.slice 5, .bool, .slice 5, .int .i64, .bool], []⟩
def t56 : TI := ⟨.slice 24, 1, 24, [.slice none 0 0], [.slice 24], []⟩
def t57 : TI := ⟨.func, 1, 8, [.nilFunc], [.func], []⟩
def t58 : TI := ⟨.func, 1, 8, [.nilFunc], [.func], []⟩
def t59 : TI := ⟨.func, 1, 8, [.nilFunc], [.func], []⟩
def t60 : TI := ⟨.func, 1, 8, [.nilFunc], [.func], []⟩
def t61 : TI := ⟨.func, 1, 8, [.nilFunc], [.func], []⟩
def t62 : TI := ⟨.func, 1, 8, [.nilFunc], [.func], []⟩
def t63 : TI := ⟨.func, 1, 8, [.nilFunc], [.func], []⟩
def t64 : TI := ⟨.func, 1, 8, [.nilFunc], [.func], []⟩
def t65 : TI := ⟨.struct [(0, 3), (1, 51), (7, 4), (8, 4)], 9, 56, [.int .i64 0, .int .i64 0, .string ⟨#[]⟩, .int .i64 0, .bool false, .bool false, .bool false, .bool false, .bool false], [.int .i64, .int .i64, .str, .int .i64, .bool, .bool, .bool, .bool, .bool], []⟩
def t66 : TI := ⟨.struct [(0, 3), (1, 51), (7, 4), (8, 4)], 9, 56, [.int .i64 0, .int .i64 0, .string ⟨#[]⟩, .int .i64 0, .bool false, .bool false, .bool false, .bool false, .bool false], [.int .i64, .int .i64, .str, .int .i64, .bool, .bool, .bool, .bool, .bool], []⟩
def t67 : TI := ⟨.func, 1, 8, [.nilFunc], [.func], []⟩
def t68 : TI := ⟨.func, 1, 8, [.nilFunc], [.func], []⟩
def t69 : TI := ⟨.ptr 53, 1, 8, [.pointer none], [.ptr 53], []⟩
def t70 : TI := ⟨.struct [(0, 3), (1, 51), (7, 4), (8, 4)], 9, 56, [.int .i64 0, .int .i64 0, .string ⟨#[]⟩, .int .i64 0, .bool false, .bool false, .bool false, .bool false, .bool false], [.int .i64, .int .i64, .str, .int .i64, .bool, .bool, .bool, .bool, .bool], []⟩
def t71 : TI := ⟨.struct [(0, 3), (1, 51), (7, 4), (8, 4)], 9, 56, [.int .i64 0, .int .i64 0, .string ⟨#[]⟩, .int .i64 0, .bool false, .bool false, .bool false, .bool false, .bool false], [.int .i64, .int .i64, .str, .int .i64, .bool, .bool, .bool, .bool, .bool], []⟩
def t72 : TI := ⟨.func, 1, 8, [.nilFunc], [.func], []⟩
def t73 : TI := ⟨.slice 21, 1, 24, [.slice none 0 0], [.slice 21], []⟩
def t74 : TI := ⟨.slice 3, 1, 24, [.slice none 0 0], [.slice 3], []⟩
def t76 : TI := ⟨.func, 1, 8, [.nilFunc], [.func], []⟩
def t77 : TI := ⟨.func, 1, 8, [.nilFunc], [.func], []⟩
def t79 : TI := ⟨.func, 1, 8, [.nilFunc], [.func], []⟩
def t80 : TI := ⟨.func, 1, 8, [.nilFunc], [.func], []⟩
def t81 : TI := ⟨.slice 9, 1, 24, [.slice none 0 0], [.slice 9], []⟩
def t82 : TI := ⟨.func, 1, 8, [.nilFunc], [.func], []⟩
def t84 : TI := ⟨.func, 1, 8, [.nilFunc], [.func], []⟩
def t85 : TI := ⟨.func, 1, 8, [.nilFunc], [.func], []⟩
def t86 : TI := ⟨.func, 1, 8, [.nilFunc], [.func], []⟩
def t87 : TI := ⟨.func, 1, 8, [.nilFunc], [.func], []⟩
def t88 : TI := ⟨.func, 1, 8, [.nilFunc], [.func], []⟩
def t89 : TI := ⟨.func, 1, 8, [.nilFunc], [.func], []⟩
def t90 : TI := ⟨.func, 1, 8, [.nilFunc], [.func], []⟩
def t91 : TI := ⟨.func, 1, 8, [.nilFunc], [.func], []⟩
def t92 : TI := ⟨.func, 1, 8, [.nilFunc], [.func], []⟩
def t93 : TI := ⟨.func, 1, 8, [.nilFunc], [.func], []⟩
def t94 : TI := ⟨.func, 1, 8, [.nilFunc], [.func], []⟩
def t96 : TI := ⟨.func, 1, 8, [.nilFunc], [.func], []⟩
def t97 : TI := ⟨.func, 1, 8, [.nilFunc], [.func], []⟩
def t98 : TI := ⟨.func, 1, 8, [.nilFunc], [.func], []⟩
def t99 : TI := ⟨.func, 1, 8, [.nilFunc], [.func], []⟩
def t101 : TI := ⟨.func, 1, 8, [.nilFunc], [.func], []⟩
def t102 : TI := ⟨.int .u64, 1, 8, [.int .u64 0], [.int .u64], []⟩
def t103 : TI := ⟨.func, 1, 8, [.nilFunc], [.func], []⟩
def t104 : TI := ⟨.struct [(0, 3), (1, 5), (2, 5), (3, 21)], 4, 16, [.int .i64 0, .int .u8 0, .int .u8 0, .int .i32 0], [.int .i64, .int .u8, .int .u8, .int .i32], [.int .i64, .int .u8, .int .u8, .int .i32]⟩
def t105 : TI := ⟨.struct [(0, 3), (1, 5), (2, 5), (3, 21)], 4, 16, [.int .i64 0, .int .u8 0, .int .u8 0, .int .i32 0], [.int .i64, .int .u8, .int .u8, .int .i32], [.int .i64, .int .u8, .int .u8, .int .i32]⟩
def t106 : TI := ⟨.func, 1, 8, [.nilFunc], [.func], []⟩
def t107 : TI := ⟨.func, 1, 8, [.nilFunc], [.func], []⟩
def t108 : TI := ⟨.arr 2 3, 2, 16, [.int .i64 0, .int .i64 0], [.int .i64, .int .i64], []⟩
def t110 : TI := ⟨.func, 1, 8, [.nilFunc], [.func], []⟩
def t111 : TI := ⟨.func, 1, 8, [.nilFunc], [.func], []⟩
def t112 : TI := ⟨.arr 24 5, 24, 24, [.int .u8 0, .int .u8 0, .int .u8 0, .int .u8 0, .int .u8 0, .int .u8 0, .int .u8 0, .int .u8 0, .int .u8 0, .int .u8 0, .int .u8 0, .int .u8 0, .int .u8 0, .int .u8 0, .int .u8 0, .int .u8 0, .int .u8 0, .int .u8 0, .int .u8 0, .int .u8 0, .int .u8 0, .int .u8 0, .int .u8 0, .int .u8 0], [.int .u8, .int .u8, .int .u8, .int .u8, .int .u8, .int .u8, .int .u8, .int .u8, .int .u8, .int .u8, .int .u8, .int .u8, .int .u8, .int .u8, .int .u8, .int .u8, .int .u8, .int .u8, .int .u8, .int .u8, .int .u8, .int .u8, .int .u8, .int .u8], []⟩
def t113 : TI := ⟨.int .u64, 1, 8, [.int .u64 0], [.int .u64], []⟩
def t114 : TI := ⟨.func, 1, 8, [.nilFunc], [.func], []⟩
def t115 : TI := ⟨.func, 1, 8, [.nilFunc], [.func], []⟩
def t117 : TI := ⟨.func, 1, 8, [.nilFunc], [.func], []⟩
def t118 : TI := ⟨.func, 1, 8, [.nilFunc], [.func], []⟩
def t119 : TI := ⟨.func, 1, 8, [.nilFunc], [.func], []⟩
def t120 : TI := ⟨.arr 20 113, 20, 160, [.int .u64 0, .int .u64 0, .int .u64 0, .int .u64 0, .int .u64 0, .int .u64 0, .int .u64 0, .int .u64 0, .int .u64 0, .int .u64 0, .int .u64 0, .int .u64 0, .int .u64 0, .int .u64 0, .int .u64 0, .int .u64 0, .int .u64 0, .int .u64 0, .int .u64 0, .int .u64 0], [.int .u64, .int .u64, .int .u64, .int .u64, .int .u64, .int .u64, .int .u64, .int .u64, .int .u64, .int .u64, .int .u64, .int .u64, .int .u64, .int .u64, .int .u64, .int .u64, .int .u64, .int .u64, .int .u64, .int .u64], []⟩
def t121 : TI := ⟨.int .u32, 1, 4, [.int .u32 0], [.int .u32], []⟩
def t123 : TI := ⟨.func, 1, 8, [.nilFunc], [.func], []⟩
def t124 : TI := ⟨.func, 1, 8, [.nilFunc], [.func], []⟩
def t125 : TI := ⟨.func, 1, 8, [.nilFunc], [.func], []⟩
def t126 : TI := ⟨.arr 32 5, 32, 32, [.int .u8 0, .int .u8 0, .int .u8 0, .int .u8 0, .int .u8 0, .int .u8 0, .int .u8 0, .int .u8 0, .int .u8 0, .int .u8 0, .int .u8 0, .int .u8 0, .int .u8 0, .int .u8 0, .int .u8 0, .int .u8 0, .int .u8 0, .int .u8 0, .int .u8 0, .int .u8 0, .int .u8 0, .int .u8 0, .int .u8 0, .int .u8 0, .int .u8 0, .int .u8 0, .int .u8 0, .int .u8 0, .int .u8 0, .int .u8 0, .int .u8 0, .int .u8 0], [.int .u8, .int .u8, .int .u8, .int .u8, .int .u8, .int .u8, .int .u8, .int .u8, .int .u8, .int .u8, .int .u8, .int .u8, .int .u8, .int .u8, .int .u8, .int .u8, .int .u8, .int .u8, .int .u8, .int .u8, .int .u8, .int .u8, .int .u8, .int .u8, .int .u8, .int .u8, .int .u8, .int .u8, .int .u8, .int .u8, .int .u8, .int .u8], []⟩
def t127 : TI := ⟨.arr 64 5, 64, 64, [.int .u8 0, .int .u8 0, .int .u8 0, .int .u8 0, .int .u8 0, .int .u8 0, .int .u8 0, .int .u8 0, .int .u8 0, .int .u8 0, .int .u8 0, .int .u8 0, .int .u8 0, .int .u8 0, .int .u8 0, .int .u8 0, .int .u8 0, .int .u8 0, .int .u8 0, .int .u8 0, .int .u8 0, .int .u8 0, .int .u8 0, .int .u8 0, .int .u8 0, .int .u8 0, .int .u8 0, .int .u8 0, .int .u8 0, .int .u8 0, .int .u8 0, .int .u8 0, .int .u8 0, .int .u8 0, .int .u8 0, .int .u8 0, .int .u8 0, .int .u8 0, .int .u8 0, .int .u8 0, .int .u8 0, .int .u8 0, .int .u8 0, .int .u8 0, .int .u8 0, .int .u8 0, .int .u8 0, .int .u8 0, .int .u8 0, .int .u8 0, .int .u8 0, .int .u8 0, .int .u8 0, .int .u8 0, .int .u8 0, .int .u8 0, .int .u8 0, .int .u8 0, .int .u8 0, .int .u8 0, .int .u8 0, .int .u8 0, .int .u8 0, .int .u8 0], [.int .u8, .int .u8, .int .u8, .int .u8, .int .u8, .int .u8, .int .u8, .int .u8, .int .u8, .int .u8, .int .u8, .int .u8, .int .u8, .int .u8, .int .u8, .int .u8, .int .u8, .int .u8, .int .u8, .int .u8, .int .u8, .int .u8, .int .u8, .int .u8, .int .u8, .int .u8, .int .u8, .int .u8, .int .u8, .int .u8, .int .u8, .int .u8, .int .u8, .int .u8, .int .u8, .int .u8, .int .u8, .int .u8, .int .u8, .int .u8, .int .u8, .int .u8, .int .u8, .int .u8, .int .u8, .int .u8, .int .u8, .int .u8, .int .u8, .int .u8, .int .u8, .int .u8, .int .u8, .int .u8, .int .u8, .int .u8, .int .u8, .int .u8, .int .u8, .int .u8, .int .u8, .int .u8, .int .u8, .int .u8], []⟩
def t128 : TI := ⟨.func, 1, 8, [.nilFunc], [.func], []⟩
def t129 : TI := ⟨.struct [(0, 17), (1, 17), (2, 17), (3, 9)], 4, 40, [.pointer none, .pointer none, .pointer none, .string ⟨#[]⟩], [.ptr 141, .ptr 141, .ptr 141, .str], []⟩
def t130 : TI := ⟨.struct [(0, 17), (1, 17), (2, 17), (3, 9)], 4, 40, [.pointer none, .pointer none, .pointer none, .string ⟨#[]⟩], [.ptr 141, .ptr 141, .ptr 141, .str], []⟩
def t134 : TI := ⟨.int .u8, 1, 1, [.int .u8 0], [.int .u8], []⟩
def t135 : TI := ⟨.int .u8, 1, 1, [.int .u8 0], [.int .u8], []⟩
def t136 : TI := ⟨.func, 1, 8, [.nilFunc], [.func], []⟩
def t137 : TI := ⟨.ptr 5, 1, 8, [.pointer none], [.ptr 5], []⟩
def t138 : TI := ⟨.int .i32, 1, 4, [.int .i32 0], [.int .i32], []⟩
def t139 : TI := ⟨.int .i32, 1, 4, [.int .i32 0], [.int .i32], []⟩
def t140 : TI := ⟨.struct [(0, 12), (1, 12), (2, 121), (3, 134), (4, 5), (5, 5), (6, 135), (7, 136), (8, 137), (9, 138), (10, 139)], 11, 48, [.int .u64 0, .int .u64 0, .int .u32 0, .int .u8 0, .int .u8 0, .int .u8 0, .int .u8 0, .nilFunc, .pointer none, .int .i32 0, .int .i32 0], [.int .u64, .int .u64, .int .u32, .int .u8, .int .u8, .int .u8, .int .u8, .func, .ptr 5, .int .i32, .int .i32], []⟩
def t141 : TI := ⟨.struct [(0, 12), (1, 12), (2, 121), (3, 134), (4, 5), (5, 5), (6, 135), (7, 136), (8, 137), (9, 138), (10, 139)], 11, 48, [.int .u64 0, .int .u64 0, .int .u32 0, .int .u8 0, .int .u8 0, .int .u8 0, .int .u8 0, .nilFunc, .pointer none, .int .i32 0, .int .i32 0], [.int .u64, .int .u64, .int .u32, .int .u8, .int .u8, .int .u8, .int .u8, .func, .ptr 5, .int .i32, .int .i32], []⟩
def tab : Tab := (.node (.node (.node (.node (.node (.node (.node .nil 1 t1 .nil) 2 t2 (.node .nil 3 t3 .nil)) 4 t4 (.node (.node .nil 5 t5 .nil) 6 t6 (.node .nil 7 t7 .nil))) 8 t8 (.node (.node (.node .nil 9 t9 .nil) 10 t10 (.node .nil 11 t11 .nil)) 12 t12 (.node (.node .nil 13 t13 .nil) 14 t14 (.node .nil 15 t15 .nil)))) 16 t16 (.node (.node (.node (.node .nil 17 t17 .nil) 18 t18 (.node .nil 19 t19 .nil)) 21 t21 (.node (.node .nil 22 t22 .nil) 23 t23 (.node .nil 24 t24 .nil))) 25 t25 (.node (.node (.node .nil 26 t26 .nil) 27 t27 (.node .nil 28 t28 .nil)) 29 t29 (.node (.node .nil 30 t30 .nil) 31 t31 (.node .nil 32 t32 .nil))))) 33 t33 (.node (.node (.node (.node (.node .nil 34 t34 .nil) 36 t36 (.node .nil 37 t37 .nil)) 38 t38 (.node (.node .nil 39 t39 .nil) 40 t40 (.node .nil 41 t41 .nil))) 42 t42 (.node (.node (.node .nil 44 t44 .nil) 46 t46 (.node .nil 47 t47 .nil)) 48 t48 (.node (.node .nil 49 t49 .nil) 50 t50 (.node .nil 51 t51 .nil)))) 52 t52 (.node (.node (.node (.node .nil 53 t53 .nil) 54 t54 (.node .nil 55 t55 .nil)) 56 t56 (.node (.node .nil 57 t57 .nil) 58 t58 (.node .nil 59 t59 .nil))) 60 t60 (.node (.node (.node .nil 61 t61 .nil) 62 t62 (.node .nil 63 t63 .nil)) 64 t64 (.node (.node .nil 65 t65 .nil) 66 t66 (.node .nil 67 t67 .nil)))))) 68 t68 (.node (.node (.node (.node (.node (.node .nil 69 t69 .nil) 70 t70 (.node .nil 71 t71 .nil)) 72 t72 (.node (.node .nil 73 t73 .nil) 74 t74 (.node .nil 76 t76 .nil))) 77 t77 (.node (.node (.node .nil 79 t79 .nil) 80 t80 (.node .nil 81 t81 .nil)) 82 t82 (.node (.node .nil 84 t84 .nil) 85 t85 (.node .nil 86 t86 .nil)))) 87 t87 (.node (.node (.node (.node .nil 88 t88 .nil) 89 t89 (.node .nil 90 t90 .nil)) 91 t91 (.node (.node .nil 92 t92 .nil) 93 t93 (.node .nil 94 t94 .nil))) 96 t96 (.node (.node (.node .nil 97 t97 .nil) 98 t98 (.node .nil 99 t99 .nil)) 101 t101 (.node (.node .nil 102 t102 .nil) 103 t103 (.node .nil 104 t104 .nil))))) 105 t105 (.node (.node (.node (.node (.node .nil 106 t106 .nil) 107 t107 (.node .nil 108 t108 .nil)) 110 t110 (.node (.node .nil 111 t111 .nil) 112 t112 (.node .nil 113 t113 .nil))) 114 t114 (.node (.node (.node .nil 115 t115 .nil) 117 t117 (.node .nil 118 t118 .nil)) 119 t119 (.node (.node .nil 120 t120 .nil) 121 t121 (.node .nil 123 t123 .nil)))) 124 t124 (.node (.node (.node (.node .nil 125 t125 .nil) 126 t126 (.node .nil 127 t127 .nil)) 128 t128 (.node (.node .nil 129 t129 .nil) 130 t130 (.node .nil 134 t134 .nil))) 135 t135 (.node (.node (.node .nil 136 t136 .nil) 137 t137 (.node .nil 138 t138 .nil)) 139 t139 (.node (.node .nil 140 t140 .nil) 141 t141 .nil))))))
theorem tab_b : tabB Tryd.prog tab = true := by kernel_rfl
theorem tab_ok : TabOk Tryd.prog tab := tabOk_of tab_b
theorem nm0 : (Tryd.f0.name == "runtime.NumGoroutine") = false := by kernel_rfl
theorem nm1 : (Tryd.f1.name == "runtime.NumGoroutine") = false := by kernel_rfl
theorem nm2 : (Tryd.f2.name == "runtime.NumGoroutine") = false := by kernel_rfl
theorem nm3 : (Tryd.f3.name == "runtime.NumGoroutine") = false := by kernel_rfl
theorem nm4 : (Tryd.f4.name == "runtime.NumGoroutine") = false := by kernel_rfl
theorem nm5 : (Tryd.f5.name == "runtime.NumGoroutine") = false := by kernel_rfl
theorem nm6 : (Tryd.f6.name == "runtime.NumGoroutine") = false := by kernel_rfl
theorem nm7 : (Tryd.f7.name == "runtime.NumGoroutine") = false := by kernel_rfl
theorem nm8 : (Tryd.f8.name == "runtime.NumGoroutine") = false := by kernel_rfl
theorem nm9 : (Tryd.f9.name == "runtime.NumGoroutine") = false := by kernel_rfl
theorem nm10 : (Tryd.f10.name == "runtime.NumGoroutine") = false := by kernel_rfl
theorem nm11 : (Tryd.f11.name == "runtime.NumGoroutine") = false := by kernel_rfl
theorem nm12 : (Tryd.f12.name == "runtime.NumGoroutine") = false := by kernel_rfl
theorem nm13 : (Tryd.f13.name == "runtime.NumGoroutine") = false := by kernel_rfl
theorem nm14 : (Tryd.f14.name == "runtime.NumGoroutine") = false := by kernel_rfl
theorem nm15 : (Tryd.f15.name == "runtime.NumGoroutine") = false := by kernel_rfl
theorem nm16 : (Tryd.f16.name == "runtime.NumGoroutine") = false := by kernel_rfl
theorem nm17 : (Tryd.f17.name == "runtime.NumGoroutine") = false := by kernel_rfl
theorem nm18 : (Tryd.f18.name == "runtime.NumGoroutine") = false := by kernel_rfl
theorem nm19 : (Tryd.f19.name == "runtime.NumGoroutine") = false := by kernel_rfl
theorem nm20 : (Tryd.f20.name == "runtime.NumGoroutine") = false := by kernel_rfl
theorem nm21 : (Tryd.f21.name == "runtime.NumGoroutine") = false := by kernel_rfl
theorem nm22 : (Tryd.f22.name == "runtime.NumGoroutine") = false := by kernel_rfl
theorem nm23 : (Tryd.f23.name == "runtime.NumGoroutine") = false := by kernel_rfl
theorem nm24 : (Tryd.f24.name == "runtime.NumGoroutine") = false := by kernel_rfl
theorem nm25 : (Tryd.f25.name == "runtime.NumGoroutine") = false := by kernel_rfl
theorem nm26 : (Tryd.f26.name == "runtime.NumGoroutine") = false := by kernel_rfl
theorem nm27 : (Tryd.f27.name == "runtime.NumGoroutine") = false := by kernel_rfl
theorem nm28 : (Tryd.f28.name == "runtime.NumGoroutine") = false := by kernel_rfl
theorem nm29 : (Tryd.f29.name == "runtime.NumGoroutine") = false := by kernel_rfl
theorem nm30 : (Tryd.f30.name == "runtime.NumGoroutine") = false := by kernel_rfl
theorem nm31 : (Tryd.f31.name == "runtime.NumGoroutine") = false := by kernel_rfl
theorem nm32 : (Tryd.f32.name == "runtime.NumGoroutine") = false := by kernel_rfl
theorem nm33 : (Tryd.f33.name == "runtime.NumGoroutine") = false := by kernel_rfl
theorem nm34 : (Tryd.f34.name == "runtime.NumGoroutine") = false := by kernel_rfl
theorem nm35 : (Tryd.f35.name == "runtime.NumGoroutine") = false := by kernel_rfl
theorem nm36 : (Tryd.f36.name == "runtime.NumGoroutine") = false := by kernel_rfl
theorem nm37 : (Tryd.f37.name == "runtime.NumGoroutine") = false := by kernel_rfl
theorem nm38 : (Tryd.f38.name == "runtime.NumGoroutine") = false := by kernel_rfl
theorem nm39 : (Tryd.f39.name == "runtime.NumGoroutine") = false := by kernel_rfl
theorem nm40 : (Tryd.f40.name == "runtime.NumGoroutine") = false := by kernel_rfl
theorem nm41 : (Tryd.f41.name == "runtime.NumGoroutine") = false := by kernel_rfl
theorem nm42 : (Tryd.f42.name == "runtime.NumGoroutine") = false := by kernel_rfl
theorem nm43 : (Tryd.f43.name == "runtime.NumGoroutine") = false := by kernel_rfl
theorem nm44 : (Tryd.f44.name == "runtime.NumGoroutine") = false := by kernel_rfl
theorem nm45 : (Tryd.f45.name == "runtime.NumGoroutine") = false := by kernel_rfl
theorem nm46 : (Tryd.f46.name == "runtime.NumGoroutine") = false := by kernel_rfl
theorem nm47 : (Tryd.f47.name == "runtime.NumGoroutine") = false := by kernel_rfl
theorem nm48 : (Tryd.f48.name == "runtime.NumGoroutine") = false := by kernel_rfl
theorem nm49 : (Tryd.f49.name == "runtime.NumGoroutine") = false := by kernel_rfl
theorem nm50 : (Tryd.f50.name == "runtime.NumGoroutine") = false := by kernel_rfl
theorem nm51 : (Tryd.f51.name == "runtime.NumGoroutine") = false := by kernel_rfl
theorem nm52 : (Tryd.f52.name == "runtime.NumGoroutine") = false := by kernel_rfl
theorem nm53 : (Tryd.f53.name == "runtime.NumGoroutine") = false := by kernel_rfl
theorem nm54 : (Tryd.f54.name == "runtime.NumGoroutine") = false := by kernel_rfl
theorem nm55 : (Tryd.f55.name == "runtime.NumGoroutine") = false := by kernel_rfl
theorem nm56 : (Tryd.f56.name == "runtime.NumGoroutine") = false := by kernel_rfl
theorem nm57 : (Tryd.f57.name == "runtime.NumGoroutine") = false := by kernel_rfl
theorem nm58 : (Tryd.f58.name == "runtime.NumGoroutine") = false := by kernel_rfl
theorem nm59 : (Tryd.f59.name == "runtime.NumGoroutine") = false := by kernel_rfl
theorem nm60 : (Tryd.f60.name == "runtime.NumGoroutine") = false := by kernel_rfl
theorem nm61 : (Tryd.f61.name == "runtime.NumGoroutine") = false := by kernel_rfl
theorem nm62 : (Tryd.f62.name == "runtime.NumGoroutine") = false := by kernel_rfl
theorem nm63 : (Tryd.f63.name == "runtime.NumGoroutine") = false := by kernel_rfl
theorem nm64 : (Tryd.f64.name == "runtime.NumGoroutine") = false := by kernel_rfl
theorem nm65 : (Tryd.f65.name == "runtime.NumGoroutine") = false := by kernel_rfl
theorem nm66 : (Tryd.f66.name == "runtime.NumGoroutine") = false := by kernel_rfl
theorem nm67 : (Tryd.f67.name == "runtime.NumGoroutine") = false := by kernel_rfl
theorem nm68 : (Tryd.f68.name == "runtime.NumGoroutine") = false := by kernel_rfl
theorem nm69 : (Tryd.f69.name == "runtime.NumGoroutine") = false := by kernel_rfl
theorem nm70 : (Tryd.f70.name == "runtime.NumGoroutine") = false := by kernel_rfl
theorem nm71 : (Tryd.f71.name == "runtime.NumGoroutine") = false := by kernel_rfl
theorem nm72 : (Tryd.f72.name == "runtime.NumGoroutine") = false := by kernel_rfl
theorem nm73 : (Tryd.f73.name == "runtime.NumGoroutine") = false := by kernel_rfl
theorem nm74 : (Tryd.f74.name == "runtime.NumGoroutine") = false := by kernel_rfl
theorem nm75 : (Tryd.f75.name == "runtime.NumGoroutine") = false := by kernel_rfl
theorem nm76 : (Tryd.f76.name == "runtime.NumGoroutine") = false := by kernel_rfl
theorem nm77 : (Tryd.f77.name == "runtime.NumGoroutine") = false := by kernel_rfl
theorem nm78 : (Tryd.f78.name == "runtime.NumGoroutine") = false := by kernel_rfl
theorem nm79 : (Tryd.f79.name == "runtime.NumGoroutine") = false := by kernel_rfl
theorem nm80 : (Tryd.f80.name == "runtime.NumGoroutine") = false := by kernel_rfl
theorem nm81 : (Tryd.f81.name == "runtime.NumGoroutine") = false := by kernel_rfl
theorem nm82 : (Tryd.f82.name == "runtime.NumGoroutine") = false := by kernel_rfl
theorem nm83 : (Tryd.f83.name == "runtime.NumGoroutine") = false := by kernel_rfl
theorem nm84 : (Tryd.f84.name == "runtime.NumGoroutine") = false := by kernel_rfl
theorem nm85 : (Tryd.f85.name == "runtime.NumGoroutine") = false := by kernel_rfl
theorem nm86 : (Tryd.f86.name == "runtime.NumGoroutine") = false := by kernel_rfl
theorem nm87 : (Tryd.f87.name == "runtime.NumGoroutine") = false := by kernel_rfl
theorem nm88 : (Tryd.f88.name == "runtime.NumGoroutine") = false := by kernel_rfl
theorem nm89 : (Tryd.f89.name == "runtime.NumGoroutine") = false := by kernel_rfl
theorem nm90 : (Tryd.f90.name == "runtime.NumGoroutine") = false := by kernel_rfl
theorem nm91 : (Tryd.f91.name == "runtime.NumGoroutine") = false := by kernel_rfl
theorem nm92 : (Tryd.f92.name == "runtime.NumGoroutine") = false := by kernel_rfl
theorem nm93 : (Tryd.f93.name == "runtime.NumGoroutine") = false := by kernel_rfl
theorem nm94 : (Tryd.f94.name == "runtime.NumGoroutine") = false := by kernel_rfl
theorem nm95 : (Tryd.f95.name == "runtime.NumGoroutine") = false := by kernel_rfl
theorem nm96 : (Tryd.f96.name == "runtime.NumGoroutine") = false := by kernel_rfl
theorem nm97 : (Tryd.f97.name == "runtime.NumGoroutine") = false := by kernel_rfl
theorem nm98 : (Tryd.f98.name == "runtime.NumGoroutine") = false := by kernel_rfl
theorem nm99 : (Tryd.f99.name == "runtime.NumGoroutine") = false := by kernel_rfl
theorem nm100 : (Tryd.f100.name == "runtime.NumGoroutine") = false := by kernel_rfl
theorem nm101 : (Tryd.f101.name == "runtime.NumGoroutine") = false := by kernel_rfl
theorem nm102 : (Tryd.f102.name == "runtime.NumGoroutine") = false := by kernel_rfl
theorem nm103 : (Tryd.f103.name == "runtime.NumGoroutine") = false := by kernel_rfl
theorem nm104 : (Tryd.f104.name == "runtime.NumGoroutine") = false := by kernel_rfl
noncomputable def ft : Tr Func := (.node (.node (.node (.node (.node (.node (.node .nil 0 Tryd.f0 .nil) 1 Tryd.f1 (.node .nil 2 Tryd.f2 .nil)) 3 Tryd.f3 (.node (.node .nil 4 Tryd.f4 .nil) 5 Tryd.f5 .nil)) 6 Tryd.f6 (.node (.node (.node .nil 7 Tryd.f7 .nil) 8 Tryd.f8 (.node .nil 9 Tryd.f9 .nil)) 10 Tryd.f10 (.node (.node .nil 11 Tryd.f11 .nil) 12 Tryd.f12 .nil))) 13 Tryd.f13 (.node (.node (.node (.node .nil 14 Tryd.f14 .nil) 15 Tryd.f15 (.node .nil 16 Tryd.f16 .nil)) 17 Tryd.f17 (.node (.node .nil 18 Tryd.f18 .nil) 19 Tryd.f19 .nil)) 20 Tryd.f20 (.node (.node (.node .nil 21 Tryd.f21 .nil) 22 Tryd.f22 .nil) 23 Tryd.f23 (.node (.node .nil 24 Tryd.f24 .nil) 25 Tryd.f25 .nil)))) 26 Tryd.f26 (.node (.node (.node (.node (.node .nil 27 Tryd.f27 .nil) 28 Tryd.f28 (.node .nil 29 Tryd.f29 .nil)) 30 Tryd.f30 (.node (.node .nil 31 Tryd.f31 .nil) 32 Tryd.f32 .nil)) 33 Tryd.f33 (.node (.node (.node .nil 34 Tryd.f34 .nil) 35 Tryd.f35 .nil) 36 Tryd.f36 (.node (.node .nil 37 Tryd.f37 .nil) 38 Tryd.f38 .nil))) 39 Tryd.f39 (.node (.node (.node (.node .nil 40 Tryd.f40 .nil) 41 Tryd.f41 (.node .nil 42 Tryd.f42 .nil)) 43 Tryd.f43 (.node (.node .nil 44 Tryd.f44 .nil) 45 Tryd.f45 .nil)) 46 Tryd.f46 (.node (.node (.node .nil 47 Tryd.f47 .nil) 48 Tryd.f48 .nil) 49 Tryd.f49 (.node (.node .nil 50 Tryd.f50 .nil) 51 Tryd.f51 .nil))))) 52 Tryd.f52 (.node (.node (.node (.node (.node (.node .nil 53 Tryd.f53 .nil) 54 Tryd.f54 (.node .nil 55 Tryd.f55 .nil)) 56 Tryd.f56 (.node (.node .nil 57 Tryd.f57 .nil) 58 Tryd.f58 .nil)) 59 Tryd.f59 (.node (.node (.node .nil 60 Tryd.f60 .nil) 61 Tryd.f61 (.node .nil 62 Tryd.f62 .nil)) 63 Tryd.f63 (.node (.node .nil 64 Tryd.f64 .nil) 65 Tryd.f65 .nil))) 66 Tryd.f66 (.node (.node (.node (.node .nil 67 Tryd.f67 .nil) 68 Tryd.f68 (.node .nil 69 Tryd.f69 .nil)) 70 Tryd.f70 (.node (.node .nil 71 Tryd.f71 .nil) 72 Tryd.f72 .nil)) 73 Tryd.f73 (.node (.node (.node .nil 74 Tryd.f74 .nil) 75 Tryd.f75 .nil) 76 Tryd.f76 (.node (.node .nil 77 Tryd.f77 .nil) 78 Tryd.f78 .nil)))) 79 Tryd.f79 (.node (.node (.node (.node (.node .nil 80 Tryd.f80 .nil) 81 Tryd.f81 (.node .nil 82 Tryd.f82 .nil)) 83 Tryd.f83 (.node (.node .nil 84 Tryd.f84 .nil) 85 Tryd.f85 .nil)) 86 Tryd.f86 (.node (.node (.node .nil 87 Tryd.f87 .nil) 88 Tryd.f88 .nil) 89 Tryd.f89 (.node (.node .nil 90 Tryd.f90 .nil) 91 Tryd.f91 .nil))) 92 Tryd.f92 (.node (.node (.node (.node .nil 93 Tryd.f93 .nil) 94 Tryd.f94 (.node .nil 95 Tryd.f95 .nil)) 96 Tryd.f96 (.node (.node .nil 97 Tryd.f97 .nil) 98 Tryd.f98 .nil)) 99 Tryd.f99 (.node (.node (.node .nil 100 Tryd.f100 .nil) 101 Tryd.f101 .nil) 102 Tryd.f102 (.node (.node .nil 103 Tryd.f103 .nil) 104 Tryd.f104 .nil))))))
theorem ft_ok : FTOk Tryd.prog ft := (ft_node (ft_node (ft_node (ft_node (ft_node (ft_node (ft_node ft_nil ft_nil Tryd.func0 nm0) (ft_node ft_nil ft_nil Tryd.func2 nm2) Tryd.func1 nm1) (ft_node (ft_node ft_nil ft_nil Tryd.func4 nm4) ft_nil Tryd.func5 nm5) Tryd.func3 nm3) (ft_node (ft_node (ft_node ft_nil ft_nil Tryd.func7 nm7) (ft_node ft_nil ft_nil Tryd.func9 nm9) Tryd.func8 nm8) (ft_node (ft_node ft_nil ft_nil Tryd.func11 nm11) ft_nil Tryd.func12 nm12) Tryd.func10 nm10) Tryd.func6 nm6) (ft_node (ft_node (ft_node (ft_node ft_nil ft_nil Tryd.func14 nm14) (ft_node ft_nil ft_nil Tryd.func16 nm16) Tryd.func15 nm15) (ft_node (ft_node ft_nil ft_nil Tryd.func18 nm18) ft_nil Tryd.func19 nm19) Tryd.func17 nm17) (ft_node (ft_node (ft_node ft_nil ft_nil Tryd.func21 nm21) ft_nil Tryd.func22 nm22) (ft_node (ft_node ft_nil ft_nil Tryd.func24 nm24) ft_nil Tryd.func25 nm25) Tryd.func23 nm23) Tryd.func20 nm20) Tryd.func13 nm13) (ft_node (ft_node (ft_node (ft_node (ft_node ft_nil ft_nil Tryd.func27 nm27) (ft_node ft_nil ft_nil Tryd.func29 nm29) Tryd.func28 nm28) (ft_node (ft_node ft_nil ft_nil Tryd.func31 nm31) ft_nil Tryd.func32 nm32) Tryd.func30 nm30) (ft_node (ft_node (ft_node ft_nil ft_nil Tryd.func34 nm34) ft_nil Tryd.func35 nm35) (ft_node (ft_node ft_nil ft_nil Tryd.func37 nm37) ft_nil Tryd.func38 nm38) Tryd.func36 nm36) Tryd.func33 nm33) (ft_node (ft_node (ft_node (ft_node ft_nil ft_nil Tryd.func40 nm40) (ft_node ft_nil ft_nil Tryd.func42 nm42) Tryd.func41 nm41) (ft_node (ft_node ft_nil ft_nil Tryd.func44 nm44) ft_nil Tryd.func45 nm45) Tryd.func43 nm43) (ft_node (ft_node (ft_node ft_nil ft_nil Tryd.func47 nm47) ft_nil Tryd.func48 nm48) (ft_node (ft_node ft_nil ft_nil Tryd.func50 nm50) ft_nil Tryd.func51 nm51) Tryd.func49 nm49) Tryd.func46 nm46) Tryd.func39 nm39) Tryd.func26 nm26) (ft_node (ft_node (ft_node (ft_node (ft_node (ft_node ft_nil ft_nil Tryd.func53 nm53) (ft_node ft_nil ft_nil Tryd.func55 nm55) Tryd.func54 nm54) (ft_node (ft_node ft_nil ft_nil Tryd.func57 nm57) ft_nil Tryd.func58 nm58) Tryd.func56 nm56) (ft_node (ft_node (ft_node ft_nil ft_nil Tryd.func60 nm60) (ft_node ft_nil ft_nil Tryd.func62 nm62) Tryd.func61 nm61) (ft_node (ft_node ft_nil ft_nil Tryd.func64 nm64) ft_nil Tryd.func65 nm65) Tryd.func63 nm63) Tryd.func59 nm59) (ft_node (ft_node (ft_node (ft_node ft_nil ft_nil Tryd.func67 nm67) (ft_node ft_nil ft_nil Tryd.func69 nm69) Tryd.func68 nm68) (ft_node (ft_node ft_nil ft_nil Tryd.func71 nm71) ft_nil Tryd.func72 nm72) Tryd.func70 nm70) (ft_node (ft_node (ft_node ft_nil ft_nil Tryd.func74 nm74) ft_nil Tryd.func75 nm75) (ft_node (ft_node ft_nil ft_nil Tryd.func77 nm77) ft_nil Tryd.func78 nm78) Tryd.func76 nm76) Tryd.func73 nm73) Tryd.func66 nm66) (ft_node (ft_node (ft_node (ft_node (ft_node ft_nil ft_nil Tryd.func80 nm80) (ft_node ft_nil ft_nil Tryd.func82 nm82) Tryd.func81 nm81) (ft_node (ft_node ft_nil ft_nil Tryd.func84 nm84) ft_nil Tryd.func85 nm85) Tryd.func83 nm83) (ft_node (ft_node (ft_node ft_nil ft_nil Tryd.func87 nm87) ft_nil Tryd.func88 nm88) (ft_node (ft_node ft_nil ft_nil Tryd.func90 nm90) ft_nil Tryd.func91 nm91) Tryd.func89 nm89) Tryd.func86 nm86) (ft_node (ft_node (ft_node (ft_node ft_nil ft_nil Tryd.func93 nm93) (ft_node ft_nil ft_nil Tryd.func95 nm95) Tryd.func94 nm94) (ft_node (ft_node ft_nil ft_nil Tryd.func97 nm97) ft_nil Tryd.func98 nm98) Tryd.func96 nm96) (ft_node (ft_node (ft_node ft_nil ft_nil Tryd.func100 nm100) ft_nil Tryd.func101 nm101) (ft_node (ft_node ft_nil ft_nil Tryd.func103 nm103) ft_nil Tryd.func104 nm104) Tryd.func102 nm102) Tryd.func99 nm99) Tryd.func92 nm92) Tryd.func79 nm79) Tryd.func52 nm52)
theorem mix_ok : Tryd.prog.follows .mixedOrders = true := by kernel_rfl
noncomputable def envD (Γ : List Eng.Spec) (Δ : List Eng.CS) (inv : Nat → Nat → Nat → Option Inv) (wr : Nat → Bool) : Env := { T := tab, Γ := Γ, Δ := Δ, FT := ft, inv := inv, wr := wr }
noncomputable def envC (Δ : List Eng.CS) (wr : Bool) (cuts : List (Nat × Nat)) : Env := { T := tab, Γ := [], Δ := Δ, FT := ft, inv := fun _ _ _ => none, wr := fun _ => wr, cut := R.inL cuts }
noncomputable def env (Γ : List Eng.Spec) (inv : Nat → Nat → Nat → Option Inv) (wr : Nat → Bool) : Env := { T := tab, Γ := Γ, FT := ft, inv := inv, wr := wr }
theorem env_T {Γ : List Eng.Spec} {inv : Nat → Nat → Nat → Option Inv} {wr : Nat → Bool} : (env Γ inv wr).T = tab := rfl
theorem sz3 : (ty tab 3).sz = 1 := rfl
theorem sz5 : (ty tab 5).sz = 1 := rfl
theorem sz9 : (ty tab 9).sz = 1 := rfl
theorem sz21 : (ty tab 21).sz = 1 := rfl
theorem sz24 : (ty tab 24).sz = 1 := rfl
theorem sz40 : (ty tab 40).sz = 2 := rfl
theorem sz51 : (ty tab 51).sz = 6 := rfl
theorem env_ok {Γ : List Eng.Spec} {inv : Nat → Nat → Nat → Option Inv} {wr : Nat → Bool} (h : SpecsOk Tryd.prog Γ) : EnvOk Tryd.prog (env Γ inv wr) := ⟨mix_ok, tab_ok, h, css_nil, ft_ok⟩
theorem envC_ok {Δ : List Eng.CS} {wr : Bool} {cuts : List (Nat × Nat)} (h' : CSsOk Tryd.prog Δ) : EnvOk Tryd.prog (envC Δ wr cuts) := ⟨mix_ok, tab_ok, specs_nil, h', ft_ok⟩
theorem envD_ok {Γ : List Eng.Spec} {Δ : List Eng.CS} {inv : Nat → Nat → Nat → Option Inv} {wr : Nat → Bool} (h : SpecsOk Tryd.prog Γ) (h' : CSsOk Tryd.prog Δ) : EnvOk Tryd.prog (envD Γ Δ inv wr) := ⟨mix_ok, tab_ok, h, h', ft_ok⟩
end Go.Proofs.YtenjkphlbdhaiaaDoor
