/-
  Texts that the law leans on. Nothing here is trusted.
-/
import Derived.Test.YtbbhfadmfadklaaGreatEngRd
import Derived.Test.YtbbhfadmfadklaaGreatProg
set_option linter.unusedVariables false
set_option linter.unusedSimpArgs false
namespace Go.Proofs.YtbbhfadmfadklaaGreat
open Go Go.Eng
def t1 : TI := ⟨.func, 1, 8, [.nilFunc], [.func], []⟩
def t2 : TI := ⟨.int .i64, 1, 8, [.int .i64 0], [.int .i64], []⟩
def t3 : TI := ⟨.int .i64, 1, 8, [.int .i64 0], [.int .i64], []⟩
def t4 : TI := ⟨.bool, 1, 1, [.bool false], [.bool], []⟩
def t5 : TI := ⟨.int .u8, 1, 1, [.int .u8 0], [.int .u8], []⟩
def t6 : TI := ⟨.int .u8, 1, 1, [.int .u8 0], [.int .u8], []⟩
def t7 : TI := ⟨.struct [(0, 2), (1, 3), (2, 4), (3, 6)], 4, 24, [.int .i64 0, .int .i64 0, .bool false, .int .u8 0], [.int .i64, .int .i64, .bool, .int .u8], []⟩
def t8 : TI := ⟨.struct [(0, 2), (1, 3), (2, 4), (3, 6)], 4, 24, [.int .i64 0, .int .i64 0, .bool false, .int .u8 0], [.int .i64, .int .i64, .bool, .int .u8], []⟩
def t9 : TI := ⟨.str, 1, 16, [.string ⟨#[]⟩], [.str], []⟩
def t10 : TI := ⟨.str, 1, 16, [.string ⟨#[]⟩], [.str], []⟩
def t11 : TI := ⟨.str, 1, 16, [.string ⟨#[]⟩], [.str], []⟩
def t12 : TI := ⟨.int .u64, 1, 8, [.int .u64 0], [.int .u64], []⟩
def t13 : TI := ⟨.struct [(0, 9), (1, 12)], 2, 24, [.string ⟨#[]⟩, .int .u64 0], [.str, .int .u64], []⟩
def t14 : TI := ⟨.struct [(0, 9), (1, 12)], 2, 24, [.string ⟨#[]⟩, .int .u64 0], [.str, .int .u64], []⟩
def t15 : TI := ⟨.ptr 403, 1, 8, [.pointer none], [.ptr 403], []⟩
def t16 : TI := ⟨.ptr 406, 1, 8, [.pointer none], [.ptr 406], []⟩
def t17 : TI := ⟨.ptr 413, 1, 8, [.pointer none], [.ptr 413], []⟩
def t18 : TI := ⟨.struct [(0, 17)], 1, 8, [.pointer none], [.ptr 413], []⟩
def t19 : TI := ⟨.struct [(0, 17)], 1, 8, [.pointer none], [.ptr 413], []⟩
def t21 : TI := ⟨.int .i32, 1, 4, [.int .i32 0], [.int .i32], []⟩
def t22 : TI := ⟨.int .i64, 1, 8, [.int .i64 0], [.int .i64], []⟩
def t23 : TI := ⟨.slice 9, 1, 24, [.slice none 0 0], [.slice 9], []⟩
def t24 : TI := ⟨.flt .f64, 1, 8, [.float .f64 0], [.flt .f64], []⟩
def t25 : TI := ⟨.slice 3, 1, 24, [.slice none 0 0], [.slice 3], []⟩
def t26 : TI := ⟨.struct [(0, 9), (1, 3), (2, 4), (3, 25), (4, 24)], 5, 64, [.string ⟨#[]⟩, .int .i64 0, .bool false, .slice none 0 0, .float .f64 0], [.str, .int .i64, .bool, .slice 3, .flt .f64], []⟩
def t27 : TI := ⟨.struct [(0, 9), (1, 3), (2, 4), (3, 25), (4, 24)], 5, 64, [.string ⟨#[]⟩, .int .i64 0, .bool false, .slice none 0 0, .float .f64 0], [.str, .int .i64, .bool, .slice 3, .flt .f64], []⟩
def t28 : TI := ⟨.struct [(0, 22), (1, 9), (2, 9), (3, 23), (4, 3), (5, 3), (6, 24), (7, 24), (8, 24), (9, 27), (14, 9), (15, 9)], 16, 200, [.int .i64 0, .string ⟨#[]⟩, .string ⟨#[]⟩, .slice none 0 0, .int .i64 0, .int .i64 0, .float .f64 0, .float .f64 0, .float .f64 0, .string ⟨#[]⟩, .int .i64 0, .bool false, .slice none 0 0, .float .f64 0, .string ⟨#[]⟩, .string ⟨#[]⟩], [.int .i64, .str, .str, .slice 9, .int .i64, .int .i64, .flt .f64, .flt .f64, .flt .f64, .str, .int .i64, .bool, .slice 3, .flt .f64, .str, .str], []⟩
def t29 : TI := ⟨.struct [(0, 22), (1, 9), (2, 9), (3, 23), (4, 3), (5, 3), (6, 24), (7, 24), (8, 24), (9, 27), (14, 9), (15, 9)], 16, 200, [.int .i64 0, .string ⟨#[]⟩, .string ⟨#[]⟩, .slice none 0 0, .int .i64 0, .int .i64 0, .float .f64 0, .float .f64 0, .float .f64 0, .string ⟨#[]⟩, .int .i64 0, .bool false, .slice none 0 0, .float .f64 0, .string ⟨#[]⟩, .string ⟨#[]⟩], [.int .i64, .str, .str, .slice 9, .int .i64, .int .i64, .flt .f64, .flt .f64, .flt .f64, .str, .int .i64, .bool, .slice 3, .flt .f64, .str, .str], []⟩
def t30 : TI := ⟨.func, 1, 8, [.nilFunc], [.func], []⟩
def t31 : TI := ⟨.func, 1, 8, [.nilFunc], [.func], []⟩
def t32 : TI := ⟨.int .i64, 1, 8, [.int .i64 0], [.int .i64], []⟩
def t33 : TI := ⟨.struct [(0, 32), (1, 24), (2, 9), (3, 4)], 4, 40, [.int .i64 0, .float .f64 0, .string ⟨#[]⟩, .bool false], [.int .i64, .flt .f64, .str, .bool], []⟩
def t34 : TI := ⟨.struct [(0, 32), (1, 24), (2, 9), (3, 4)], 4, 40, [.int .i64 0, .float .f64 0, .string ⟨#[]⟩, .bool false], [.int .i64, .flt .f64, .str, .bool], []⟩
def t35 : TI := ⟨.struct [(0, 9), (1, 34)], 5, 56, [.string ⟨#[]⟩, .int .i64 0, .float .f64 0, .string ⟨#[]⟩, .bool false], [.str, .int .i64, .flt .f64, .str, .bool], []⟩
def t36 : TI := ⟨.struct [(0, 9), (1, 34)], 5, 56, [.string ⟨#[]⟩, .int .i64 0, .float .f64 0, .string ⟨#[]⟩, .bool false], [.str, .int .i64, .flt .f64, .str, .bool], []⟩
def t37 : TI := ⟨.int .i64, 1, 8, [.int .i64 0], [.int .i64], []⟩
def t39 : TI := ⟨.func, 1, 8, [.nilFunc], [.func], []⟩
def t41 : TI := ⟨.func, 1, 8, [.nilFunc], [.func], []⟩
def t42 : TI := ⟨.func, 1, 8, [.nilFunc], [.func], []⟩
def t43 : TI := ⟨.func, 1, 8, [.nilFunc], [.func], []⟩
def t44 : TI := ⟨.func, 1, 8, [.nilFunc], [.func], []⟩
def t45 : TI := ⟨.slice 52, 1, 24, [.slice none 0 0], [.slice 52], []⟩
def t46 : TI := ⟨.ptr 64, 1, 8, [.pointer none], [.ptr 64], []⟩
def t48 : TI := ⟨.func, 1, 8, [.nilFunc], [.func], []⟩
def t49 : TI := ⟨.func, 1, 8, [.nilFunc], [.func], []⟩
def t50 : TI := ⟨.int .i64, 1, 8, [.int .i64 0], [.int .i64], []⟩
def t51 : TI := ⟨.struct [(0, 50), (1, 9), (2, 3), (3, 4), (4, 4), (5, 4)], 6, 40, [.int .i64 0, .string ⟨#[]⟩, .int .i64 0, .bool false, .bool false, .bool false], [.int .i64, .str, .int .i64, .bool, .bool, .bool], [.int .i64, .str, .int .i64, .bool, .bool, .bool]⟩
def t52 : TI := ⟨.struct [(0, 50), (1, 9), (2, 3), (3, 4), (4, 4), (5, 4)], 6, 40, [.int .i64 0, .string ⟨#[]⟩, .int .i64 0, .bool false, .bool false, .bool false], [.int .i64, .str, .int .i64, .bool, .bool, .bool], [.int .i64, .str, .int .i64, .bool, .bool, .bool]⟩
def t53 : TI := ⟨.func, 1, 8, [.nilFunc], [.func], []⟩
def t54 : TI := ⟨.func, 1, 8, [.nilFunc], [.func], []⟩
def t55 : TI := ⟨.func, 1, 8, [.nilFunc], [.func], []⟩
def t56 : TI := ⟨.func, 1, 8, [.nilFunc], [.func], []⟩
def t57 : TI := ⟨.func, 1, 8, [.nilFunc], [.func], []⟩
def t58 : TI := ⟨.func, 1, 8, [.nilFunc], [.func], []⟩
def t59 : TI := ⟨.func, 1, 8, [.nilFunc], [.func], []⟩
def t60 : TI := ⟨.func, 1, 8, [.nilFunc], [.func], []⟩
def t61 : TI := ⟨.ptr 193, 1, 8, [.pointer none], [.ptr 193], []⟩
def t62 : TI := ⟨.ptr 181, 1, 8, [.pointer none], [.ptr 181], []⟩
def t63 : TI := ⟨.struct [(0, 61), (1, 29), (17, 62), (18, 9), (19, 3), (20, 3)], 21, 248, [.pointer none, .int .i64 0, .string ⟨#[]⟩, .string ⟨#[]⟩, .slice none 0 0, .int .i64 0, .int .i64 0, .float .f64 0, .float .f64 0, .float .f64 0, .string ⟨#[]⟩, .int .i64 0, .bool false, .slice none 0 0, .float .f64 0, .string ⟨#[]⟩, .string ⟨#[]⟩, .pointer none, .string ⟨#[]⟩, .int .i64 0, .int .i64 0], [.ptr 193, .int .i64, .str, .str, .slice 9, .int .i64, .int .i64, .flt .f64, .flt .f64, .flt .f64, .str, .int .i64, .bool, .slice 3, .flt .f64, .str, .str, .ptr 181, .str, .int .i64, .int .i64], []⟩
def t64 : TI := ⟨.struct [(0, 61), (1, 29), (17, 62), (18, 9), (19, 3), (20, 3)], 21, 248, [.pointer none, .int .i64 0, .string ⟨#[]⟩, .string ⟨#[]⟩, .slice none 0 0, .int .i64 0, .int .i64 0, .float .f64 0, .float .f64 0, .float .f64 0, .string ⟨#[]⟩, .int .i64 0, .bool false, .slice none 0 0, .float .f64 0, .string ⟨#[]⟩, .string ⟨#[]⟩, .pointer none, .string ⟨#[]⟩, .int .i64 0, .int .i64 0], [.ptr 193, .int .i64, .str, .str, .slice 9, .int .i64, .int .i64, .flt .f64, .flt .f64, .flt .f64, .str, .int .i64, .bool, .slice 3, .flt .f64, .str, .str, .ptr 181, .str, .int .i64, .int .i64], []⟩
def t65 : TI := ⟨.slice 46, 1, 24, [.slice none 0 0], [.slice 46], []⟩
def t66 : TI := ⟨.func, 1, 8, [.nilFunc], [.func], []⟩
def t67 : TI := ⟨.func, 1, 8, [.nilFunc], [.func], []⟩
def t68 : TI := ⟨.func, 1, 8, [.nilFunc], [.func], []⟩
def t69 : TI := ⟨.func, 1, 8, [.nilFunc], [.func], []⟩
def t70 : TI := ⟨.func, 1, 8, [.nilFunc], [.func], []⟩
def t71 : TI := ⟨.func, 1, 8, [.nilFunc], [.func], []⟩
def t72 : TI := ⟨.ptr 113, 1, 8, [.pointer none], [.ptr 113], []⟩
def t74 : TI := ⟨.func, 1, 8, [.nilFunc], [.func], []⟩
def t75 : TI := ⟨.slice 79, 1, 24, [.slice none 0 0], [.slice 79], []⟩
def t77 : TI := ⟨.func, 1, 8, [.nilFunc], [.func], []⟩
def t78 : TI := ⟨.struct [(0, 3), (1, 4), (2, 4)], 3, 16, [.int .i64 0, .bool false, .bool false], [.int .i64, .bool, .bool], [.int .i64, .bool, .bool]⟩
def t79 : TI := ⟨.struct [(0, 3), (1, 4), (2, 4)], 3, 16, [.int .i64 0, .bool false, .bool false], [.int .i64, .bool, .bool], [.int .i64, .bool, .bool]⟩
def t80 : TI := ⟨.func, 1, 8, [.nilFunc], [.func], []⟩
def t81 : TI := ⟨.func, 1, 8, [.nilFunc], [.func], []⟩
def t82 : TI := ⟨.slice 21, 1, 24, [.slice none 0 0], [.slice 21], []⟩
def t84 : TI := ⟨.func, 1, 8, [.nilFunc], [.func], []⟩
def t85 : TI := ⟨.slice 5, 1, 24, [.slice none 0 0], [.slice 5], []⟩
def t86 : TI := ⟨.func, 1, 8, [.nilFunc], [.func], []⟩
def t87 : TI := ⟨.func, 1, 8, [.nilFunc], [.func], []⟩
def t88 : TI := ⟨.func, 1, 8, [.nilFunc], [.func], []⟩
def t89 : TI := ⟨.slice 105, 1, 24, [.slice none 0 0], [.slice 105], []⟩
def t90 : TI := ⟨.slice 238, 1, 24, [.slice none 0 0], [.slice 238], []⟩
def t91 : TI := ⟨.struct [(0, 90)], 1, 24, [.slice none 0 0], [.slice 238], []⟩
def t92 : TI := ⟨.struct [(0, 90)], 1, 24, [.slice none 0 0], [.slice 238], []⟩
def t93 : TI := ⟨.slice 4, 1, 24, [.slice none 0 0], [.slice 4], []⟩
def t94 : TI := ⟨.struct [(0, 23), (1, 3)], 2, 32, [.slice none 0 0, .int .i64 0], [.slice 9, .int .i64], []⟩
def t95 : TI := ⟨.struct [(0, 23), (1, 3)], 2, 32, [.slice none 0 0, .int .i64 0], [.slice 9, .int .i64], []⟩
def t96 : TI := ⟨.slice 355, 1, 24, [.slice none 0 0], [.slice 355], []⟩
def t97 : TI := ⟨.slice 95, 1, 24, [.slice none 0 0], [.slice 95], []⟩
def t98 : TI := ⟨.struct [(0, 3), (1, 95), (3, 96), (4, 97), (5, 4), (6, 4), (7, 3), (8, 3)], 9, 112, [.int .i64 0, .slice none 0 0, .int .i64 0, .slice none 0 0, .slice none 0 0, .bool false, .bool false, .int .i64 0, .int .i64 0], [.int .i64, .slice 9, .int .i64, .slice 355, .slice 95, .bool, .bool, .int .i64, .int .i64], []⟩
def t99 : TI := ⟨.struct [(0, 3), (1, 95), (3, 96), (4, 97), (5, 4), (6, 4), (7, 3), (8, 3)], 9, 112, [.int .i64 0, .slice none 0 0, .int .i64 0, .slice none 0 0, .slice none 0 0, .bool false, .bool false, .int .i64 0, .int .i64 0], [.int .i64, .slice 9, .int .i64, .slice 355, .slice 95, .bool, .bool, .int .i64, .int .i64], []⟩
def t100 : TI := ⟨.struct [(0, 29), (16, 92), (17, 4), (18, 3), (19, 93), (20, 99), (29, 25), (30, 3)], 31, 408, [.int .i64 0, .string ⟨#[]⟩, .string ⟨#[]⟩, .slice none 0 0, .int .i64 0, .int .i64 0, .float .f64 0, .float .f64 0, .float .f64 0, .string ⟨#[]⟩, .int .i64 0, .bool false, .slice none 0 0, .float .f64 0, .string ⟨#[]⟩, .string ⟨#[]⟩, .slice none 0 0, .bool false, .int .i64 0, .slice none 0 0, .int .i64 0, .slice none 0 0, .int .i64 0, .slice none 0 0, .slice none 0 0, .bool false, .bool false, .int .i64 0, .int .i64 0, .slice none 0 0, .int .i64 0], [.int .i64, .str, .str, .slice 9, .int .i64, .int .i64, .flt .f64, .flt .f64, .flt .f64, .str, .int .i64, .bool, .slice 3, .flt .f64, .str, .str, .slice 238, .bool, .int .i64, .slice 4, .int .i64, .slice 9, .int .i64, .slice 355, .slice 95, .bool, .bool, .int .i64, .int .i64, .slice 3, .int .i64], []⟩
def t101 : TI := ⟨.struct [(0, 29), (16, 92), (17, 4), (18, 3), (19, 93), (20, 99), (29, 25), (30, 3)], 31, 408, [.int .i64 0, .string ⟨#[]⟩, .string ⟨#[]⟩, .slice none 0 0, .int .i64 0, .int .i64 0, .float .f64 0, .float .f64 0, .float .f64 0, .string ⟨#[]⟩, .int .i64 0, .bool false, .slice none 0 0, .float .f64 0, .string ⟨#[]⟩, .string ⟨#[]⟩, .slice none 0 0, .bool false, .int .i64 0, .slice none 0 0, .int .i64 0, .slice none 0 0, .int .i64 0, .slice none 0 0, .slice none 0 0, .bool false, .bool false, .int .i64 0, .int .i64 0, .slice none 0 0, .int .i64 0], [.int .i64, .str, .str, .slice 9, .int .i64, .int .i64, .flt .f64, .flt .f64, .flt .f64, .str, .int .i64, .bool, .slice 3, .flt .f64, .str, .str, .slice 238, .bool, .int .i64, .slice 4, .int .i64, .slice 9, .int .i64, .slice 355, .slice 95, .bool, .bool, .int .i64, .int .i64, .slice 3, .int .i64], []⟩
def t103 : TI := ⟨.func, 1, 8, [.nilFunc], [.func], []⟩
def t104 : TI := ⟨.struct [(0, 5), (1, 52), (7, 27)], 12, 112, [.int .u8 0, .int .i64 0, .string ⟨#[]⟩, .int .i64 0, .bool false, .bool false, .bool false, .string ⟨#[]⟩, .int .i64 0, .bool false, .slice none 0 0, .float .f64 0], [.int .u8, .int .i64, .str, .int .i64, .bool, .bool, .bool, .str, .int .i64, .bool, .slice 3, .flt .f64], []⟩
def t105 : TI := ⟨.struct [(0, 5), (1, 52), (7, 27)], 12, 112, [.int .u8 0, .int .i64 0, .string ⟨#[]⟩, .int .i64 0, .bool false, .bool false, .bool false, .string ⟨#[]⟩, .int .i64 0, .bool false, .slice none 0 0, .float .f64 0], [.int .u8, .int .i64, .str, .int .i64, .bool, .bool, .bool, .str, .int .i64, .bool, .slice 3, .flt .f64], []⟩
def t106 : TI := ⟨.func, 1, 8, [.nilFunc], [.func], []⟩
def t107 : TI := ⟨.func, 1, 8, [.nilFunc], [.func], []⟩
def t109 : TI := ⟨.func, 1, 8, [.nilFunc], [.func], []⟩
def t110 : TI := ⟨.func, 1, 8, [.nilFunc], [.func], []⟩
def t111 : TI := ⟨.func, 1, 8, [.nilFunc], [.func], []⟩
def t112 : TI := ⟨.struct [(0, 61), (1, 29), (17, 62), (18, 4), (19, 3), (20, 93), (21, 25), (22, 3)], 23, 288, [.pointer none, .int .i64 0, .string ⟨#[]⟩, .string ⟨#[]⟩, .slice none 0 0, .int .i64 0, .int .i64 0, .float .f64 0, .float .f64 0, .float .f64 0, .string ⟨#[]⟩, .int .i64 0, .bool false, .slice none 0 0, .float .f64 0, .string ⟨#[]⟩, .string ⟨#[]⟩, .pointer none, .bool false, .int .i64 0, .slice none 0 0, .slice none 0 0, .int .i64 0], [.ptr 193, .int .i64, .str, .str, .slice 9, .int .i64, .int .i64, .flt .f64, .flt .f64, .flt .f64, .str, .int .i64, .bool, .slice 3, .flt .f64, .str, .str, .ptr 181, .bool, .int .i64, .slice 4, .slice 3, .int .i64], []⟩
def t113 : TI := ⟨.struct [(0, 61), (1, 29), (17, 62), (18, 4), (19, 3), (20, 93), (21, 25), (22, 3)], 23, 288, [.pointer none, .int .i64 0, .string ⟨#[]⟩, .string ⟨#[]⟩, .slice none 0 0, .int .i64 0, .int .i64 0, .float .f64 0, .float .f64 0, .float .f64 0, .string ⟨#[]⟩, .int .i64 0, .bool false, .slice none 0 0, .float .f64 0, .string ⟨#[]⟩, .string ⟨#[]⟩, .pointer none, .bool false, .int .i64 0, .slice none 0 0, .slice none 0 0, .int .i64 0], [.ptr 193, .int .i64, .str, .str, .slice 9, .int .i64, .int .i64, .flt .f64, .flt .f64, .flt .f64, .str, .int .i64, .bool, .slice 3, .flt .f64, .str, .str, .ptr 181, .bool, .int .i64, .slice 4, .slice 3, .int .i64], []⟩
def t114 : TI := ⟨.slice 72, 1, 24, [.slice none 0 0], [.slice 72], []⟩
def t116 : TI := ⟨.func, 1, 8, [.nilFunc], [.func], []⟩
def t117 : TI := ⟨.func, 1, 8, [.nilFunc], [.func], []⟩
def t118 : TI := ⟨.func, 1, 8, [.nilFunc], [.func], []⟩
def t119 : TI := ⟨.func, 1, 8, [.nilFunc], [.func], []⟩
def t120 : TI := ⟨.func, 1, 8, [.nilFunc], [.func], []⟩
def t121 : TI := ⟨.func, 1, 8, [.nilFunc], [.func], []⟩
def t122 : TI := ⟨.func, 1, 8, [.nilFunc], [.func], []⟩
def t123 : TI := ⟨.func, 1, 8, [.nilFunc], [.func], []⟩
def t124 : TI := ⟨.func, 1, 8, [.nilFunc], [.func], []⟩
def t126 : TI := ⟨.func, 1, 8, [.nilFunc], [.func], []⟩
def t128 : TI := ⟨.func, 1, 8, [.nilFunc], [.func], []⟩
def t130 : TI := ⟨.func, 1, 8, [.nilFunc], [.func], []⟩
def t131 : TI := ⟨.func, 1, 8, [.nilFunc], [.func], []⟩
def t132 : TI := ⟨.func, 1, 8, [.nilFunc], [.func], []⟩
def t133 : TI := ⟨.func, 1, 8, [.nilFunc], [.func], []⟩
def t134 : TI := ⟨.func, 1, 8, [.nilFunc], [.func], []⟩
def t135 : TI := ⟨.func, 1, 8, [.nilFunc], [.func], []⟩
def t136 : TI := ⟨.func, 1, 8, [.nilFunc], [.func], []⟩
def t137 : TI := ⟨.func, 1, 8, [.nilFunc], [.func], []⟩
def t138 : TI := ⟨.func, 1, 8, [.nilFunc], [.func], []⟩
def t139 : TI := ⟨.func, 1, 8, [.nilFunc], [.func], []⟩
def t140 : TI := ⟨.func, 1, 8, [.nilFunc], [.func], []⟩
def t141 : TI := ⟨.func, 1, 8, [.nilFunc], [.func], []⟩
def t142 : TI := ⟨.func, 1, 8, [.nilFunc], [.func], []⟩
def t143 : TI := ⟨.int .i64, 1, 8, [.int .i64 0], [.int .i64], []⟩
def t145 : TI := ⟨.func, 1, 8, [.nilFunc], [.func], []⟩
def t146 : TI := ⟨.func, 1, 8, [.nilFunc], [.func], []⟩
def t147 : TI := ⟨.func, 1, 8, [.nilFunc], [.func], []⟩
def t148 : TI := ⟨.func, 1, 8, [.nilFunc], [.func], []⟩
def t149 : TI := ⟨.func, 1, 8, [.nilFunc], [.func], []⟩
def t150 : TI := ⟨.func, 1, 8, [.nilFunc], [.func], []⟩
def t151 : TI := ⟨.func, 1, 8, [.nilFunc], [.func], []⟩
def t152 : TI := ⟨.func, 1, 8, [.nilFunc], [.func], []⟩
def t153 : TI := ⟨.func, 1, 8, [.nilFunc], [.func], []⟩
def t155 : TI := ⟨.func, 1, 8, [.nilFunc], [.func], []⟩
def t156 : TI := ⟨.func, 1, 8, [.nilFunc], [.func], []⟩
def t157 : TI := ⟨.func, 1, 8, [.nilFunc], [.func], []⟩
def t158 : TI := ⟨.func, 1, 8, [.nilFunc], [.func], []⟩
def t159 : TI := ⟨.func, 1, 8, [.nilFunc], [.func], []⟩
def t160 : TI := ⟨.func, 1, 8, [.nilFunc], [.func], []⟩
def t161 : TI := ⟨.func, 1, 8, [.nilFunc], [.func], []⟩
def t162 : TI := ⟨.func, 1, 8, [.nilFunc], [.func], []⟩
def t163 : TI := ⟨.func, 1, 8, [.nilFunc], [.func], []⟩
def t164 : TI := ⟨.func, 1, 8, [.nilFunc], [.func], []⟩
def t165 : TI := ⟨.func, 1, 8, [.nilFunc], [.func], []⟩
def t166 : TI := ⟨.func, 1, 8, [.nilFunc], [.func], []⟩
def t167 : TI := ⟨.func, 1, 8, [.nilFunc], [.func], []⟩
def t168 : TI := ⟨.func, 1, 8, [.nilFunc], [.func], []⟩
def t169 : TI := ⟨.func, 1, 8, [.nilFunc], [.func], []⟩
def t170 : TI := ⟨.func, 1, 8, [.nilFunc], [.func], []⟩
def t171 : TI := ⟨.func, 1, 8, [.nilFunc], [.func], []⟩
def t172 : TI := ⟨.func, 1, 8, [.nilFunc], [.func], []⟩
def t173 : TI := ⟨.func, 1, 8, [.nilFunc], [.func], []⟩
def t174 : TI := ⟨.func, 1, 8, [.nilFunc], [.func], []⟩
def t175 : TI := ⟨.func, 1, 8, [.nilFunc], [.func], []⟩
def t176 : TI := ⟨.func, 1, 8, [.nilFunc], [.func], []⟩
def t177 : TI := ⟨.func, 1, 8, [.nilFunc], [.func], []⟩
def t178 : TI := ⟨.func, 1, 8, [.nilFunc], [.func], []⟩
def t179 : TI := ⟨.map 9 143, 1, 8, [.map none], [.map 9 143], []⟩
def t180 : TI := ⟨.struct [(0, 179)], 1, 8, [.map none], [.map 9 143], []⟩
def t181 : TI := ⟨.struct [(0, 179)], 1, 8, [.map none], [.map 9 143], []⟩
def t183 : TI := ⟨.func, 1, 8, [.nilFunc], [.func], []⟩
def t184 : TI := ⟨.func, 1, 8, [.nilFunc], [.func], []⟩
def t186 : TI := ⟨.func, 1, 8, [.nilFunc], [.func], []⟩
def t187 : TI := ⟨.func, 1, 8, [.nilFunc], [.func], []⟩
def t188 : TI := ⟨.func, 1, 8, [.nilFunc], [.func], []⟩
def t189 : TI := ⟨.ptr 293, 1, 8, [.pointer none], [.ptr 293], []⟩
def t190 : TI := ⟨.slice 23, 1, 24, [.slice none 0 0], [.slice 23], []⟩
def t191 : TI := ⟨.slice 217, 1, 24, [.slice none 0 0], [.slice 217], []⟩
def t192 : TI := ⟨.struct [(0, 189), (1, 190), (2, 191), (3, 4), (4, 4), (5, 3), (6, 3)], 7, 80, [.pointer none, .slice none 0 0, .slice none 0 0, .bool false, .bool false, .int .i64 0, .int .i64 0], [.ptr 293, .slice 23, .slice 217, .bool, .bool, .int .i64, .int .i64], []⟩
def t193 : TI := ⟨.struct [(0, 189), (1, 190), (2, 191), (3, 4), (4, 4), (5, 3), (6, 3)], 7, 80, [.pointer none, .slice none 0 0, .slice none 0 0, .bool false, .bool false, .int .i64 0, .int .i64 0], [.ptr 293, .slice 23, .slice 217, .bool, .bool, .int .i64, .int .i64], []⟩
def t194 : TI := ⟨.func, 1, 8, [.nilFunc], [.func], []⟩
def t196 : TI := ⟨.func, 1, 8, [.nilFunc], [.func], []⟩
def t197 : TI := ⟨.int .u64, 1, 8, [.int .u64 0], [.int .u64], []⟩
def t199 : TI := ⟨.func, 1, 8, [.nilFunc], [.func], []⟩
def t200 : TI := ⟨.func, 1, 8, [.nilFunc], [.func], []⟩
def t201 : TI := ⟨.ptr 203, 1, 8, [.pointer none], [.ptr 203], []⟩
def t202 : TI := ⟨.struct [(0, 201), (1, 85)], 2, 32, [.pointer none, .slice none 0 0], [.ptr 203, .slice 5], []⟩
def t203 : TI := ⟨.struct [(0, 201), (1, 85)], 2, 32, [.pointer none, .slice none 0 0], [.ptr 203, .slice 5], []⟩
def t204 : TI := ⟨.func, 1, 8, [.nilFunc], [.func], []⟩
def t208 : TI := ⟨.func, 1, 8, [.nilFunc], [.func], []⟩
def t209 : TI := ⟨.arr 24 5, 24, 24, [.int .u8 0, .int .u8 0, .int .u8 0, .int .u8 0, .int .u8 0, .int .u8 0, .int .u8 0, .int .u8 0, .int .u8 0, .int .u8 0, .int .u8 0, .int .u8 0, .int .u8 0, .int .u8 0, .int .u8 0, .int .u8 0, .int .u8 0, .int .u8 0, .int .u8 0, .int .u8 0, .int .u8 0, .int .u8 0, .int .u8 0, .int .u8 0], [.int .u8, .int .u8, .int .u8, .int .u8, .int .u8, .int .u8, .int .u8, .int .u8, .int .u8, .int .u8, .int .u8, .int .u8, .int .u8, .int .u8, .int .u8, .int .u8, .int .u8, .int .u8, .int .u8, .int .u8, .int .u8, .int .u8, .int .u8, .int .u8], []⟩
def t210 : TI := ⟨.int .u64, 1, 8, [.int .u64 0], [.int .u64], []⟩
def t211 : TI := ⟨.func, 1, 8, [.nilFunc], [.func], []⟩
def t212 : TI := ⟨.func, 1, 8, [.nilFunc], [.func], []⟩
def t213 : TI := ⟨.func, 1, 8, [.nilFunc], [.func], []⟩
def t214 : TI := ⟨.func, 1, 8, [.nilFunc], [.func], []⟩
def t215 : TI := ⟨.func, 1, 8, [.nilFunc], [.func], []⟩
def t216 : TI := ⟨.struct [(0, 23), (1, 3)], 2, 32, [.slice none 0 0, .int .i64 0], [.slice 9, .int .i64], []⟩
def t217 : TI := ⟨.struct [(0, 23), (1, 3)], 2, 32, [.slice none 0 0, .int .i64 0], [.slice 9, .int .i64], []⟩
def t218 : TI := ⟨.func, 1, 8, [.nilFunc], [.func], []⟩
def t219 : TI := ⟨.func, 1, 8, [.nilFunc], [.func], []⟩
def t220 : TI := ⟨.func, 1, 8, [.nilFunc], [.func], []⟩
def t221 : TI := ⟨.func, 1, 8, [.nilFunc], [.func], []⟩
def t222 : TI := ⟨.func, 1, 8, [.nilFunc], [.func], []⟩
def t223 : TI := ⟨.func, 1, 8, [.nilFunc], [.func], []⟩
def t224 : TI := ⟨.func, 1, 8, [.nilFunc], [.func], []⟩
def t225 : TI := ⟨.func, 1, 8, [.nilFunc], [.func], []⟩
def t226 : TI := ⟨.func, 1, 8, [.nilFunc], [.func], []⟩
def t227 : TI := ⟨.func, 1, 8, [.nilFunc], [.func], []⟩
def t228 : TI := ⟨.func, 1, 8, [.nilFunc], [.func], []⟩
def t229 : TI := ⟨.func, 1, 8, [.nilFunc], [.func], []⟩
def t230 : TI := ⟨.func, 1, 8, [.nilFunc], [.func], []⟩
def t231 : TI := ⟨.func, 1, 8, [.nilFunc], [.func], []⟩
def t233 : TI := ⟨.func, 1, 8, [.nilFunc], [.func], []⟩
def t234 : TI := ⟨.func, 1, 8, [.nilFunc], [.func], []⟩
def t235 : TI := ⟨.func, 1, 8, [.nilFunc], [.func], []⟩
def t236 : TI := ⟨.func, 1, 8, [.nilFunc], [.func], []⟩
def t237 : TI := ⟨.struct [(0, 9), (1, 143)], 2, 24, [.string ⟨#[]⟩, .int .i64 0], [.str, .int .i64], [.str, .int .i64]⟩
def t238 : TI := ⟨.struct [(0, 9), (1, 143)], 2, 24, [.string ⟨#[]⟩, .int .i64 0], [.str, .int .i64], [.str, .int .i64]⟩
def t239 : TI := ⟨.func, 1, 8, [.nilFunc], [.func], []⟩
def t240 : TI := ⟨.func, 1, 8, [.nilFunc], [.func], []⟩
def t241 : TI := ⟨.func, 1, 8, [.nilFunc], [.func], []⟩
def t242 : TI := ⟨.func, 1, 8, [.nilFunc], [.func], []⟩
def t244 : TI := ⟨.func, 1, 8, [.nilFunc], [.func], []⟩
def t245 : TI := ⟨.func, 1, 8, [.nilFunc], [.func], []⟩
def t246 : TI := ⟨.func, 1, 8, [.nilFunc], [.func], []⟩
def t247 : TI := ⟨.func, 1, 8, [.nilFunc], [.func], []⟩
def t248 : TI := ⟨.func, 1, 8, [.nilFunc], [.func], []⟩
def t249 : TI := ⟨.func, 1, 8, [.nilFunc], [.func], []⟩
def t250 : TI := ⟨.func, 1, 8, [.nilFunc], [.func], []⟩
def t251 : TI := ⟨.func, 1, 8, [.nilFunc], [.func], []⟩
def t252 : TI := ⟨.func, 1, 8, [.nilFunc], [.func], []⟩
def t253 : TI := ⟨.func, 1, 8, [.nilFunc], [.func], []⟩
def t254 : TI := ⟨.func, 1, 8, [.nilFunc], [.func], []⟩
def t255 : TI := ⟨.func, 1, 8, [.nilFunc], [.func], []⟩
def t257 : TI := ⟨.func, 1, 8, [.nilFunc], [.func], []⟩
def t258 : TI := ⟨.func, 1, 8, [.nilFunc], [.func], []⟩
def t260 : TI := ⟨.func, 1, 8, [.nilFunc], [.func], []⟩
def t261 : TI := ⟨.func, 1, 8, [.nilFunc], [.func], []⟩
def t262 : TI := ⟨.func, 1, 8, [.nilFunc], [.func], []⟩
def t263 : TI := ⟨.func, 1, 8, [.nilFunc], [.func], []⟩
def t264 : TI := ⟨.func, 1, 8, [.nilFunc], [.func], []⟩
def t265 : TI := ⟨.func, 1, 8, [.nilFunc], [.func], []⟩
def t266 : TI := ⟨.func, 1, 8, [.nilFunc], [.func], []⟩
def t267 : TI := ⟨.func, 1, 8, [.nilFunc], [.func], []⟩
def t268 : TI := ⟨.func, 1, 8, [.nilFunc], [.func], []⟩
def t269 : TI := ⟨.func, 1, 8, [.nilFunc], [.func], []⟩
def t270 : TI := ⟨.func, 1, 8, [.nilFunc], [.func], []⟩
def t271 : TI := ⟨.func, 1, 8, [.nilFunc], [.func], []⟩
def t272 : TI := ⟨.slice 339, 1, 24, [.slice none 0 0], [.slice 339], []⟩
def t273 : TI := ⟨.func, 1, 8, [.nilFunc], [.func], []⟩
def t274 : TI := ⟨.int .u32, 1, 4, [.int .u32 0], [.int .u32], []⟩
def t276 : TI := ⟨.func, 1, 8, [.nilFunc], [.func], []⟩
def t278 : TI := ⟨.func, 1, 8, [.nilFunc], [.func], []⟩
def t279 : TI := ⟨.ptr 5, 1, 8, [.pointer none], [.ptr 5], []⟩
def t280 : TI := ⟨.func, 1, 8, [.nilFunc], [.func], []⟩
def t281 : TI := ⟨.struct [(0, 3), (1, 3), (2, 3)], 3, 24, [.int .i64 0, .int .i64 0, .int .i64 0], [.int .i64, .int .i64, .int .i64], [.int .i64, .int .i64, .int .i64]⟩
def t282 : TI := ⟨.struct [(0, 3), (1, 3), (2, 3)], 3, 24, [.int .i64 0, .int .i64 0, .int .i64 0], [.int .i64, .int .i64, .int .i64], [.int .i64, .int .i64, .int .i64]⟩
def t284 : TI := ⟨.func, 1, 8, [.nilFunc], [.func], []⟩
def t285 : TI := ⟨.func, 1, 8, [.nilFunc], [.func], []⟩
def t286 : TI := ⟨.struct [(0, 23), (1, 85), (2, 4)], 3, 56, [.slice none 0 0, .slice none 0 0, .bool false], [.slice 9, .slice 5, .bool], []⟩
def t287 : TI := ⟨.struct [(0, 23), (1, 85), (2, 4)], 3, 56, [.slice none 0 0, .slice none 0 0, .bool false], [.slice 9, .slice 5, .bool], []⟩
def t288 : TI := ⟨.func, 1, 8, [.nilFunc], [.func], []⟩
def t289 : TI := ⟨.func, 1, 8, [.nilFunc], [.func], []⟩
def t290 : TI := ⟨.func, 1, 8, [.nilFunc], [.func], []⟩
def t291 : TI := ⟨.func, 1, 8, [.nilFunc], [.func], []⟩
def t292 : TI := ⟨.struct [(0, 3), (1, 23), (2, 3), (3, 3)], 4, 48, [.int .i64 0, .slice none 0 0, .int .i64 0, .int .i64 0], [.int .i64, .slice 9, .int .i64, .int .i64], []⟩
def t293 : TI := ⟨.struct [(0, 3), (1, 23), (2, 3), (3, 3)], 4, 48, [.int .i64 0, .slice none 0 0, .int .i64 0, .int .i64 0], [.int .i64, .slice 9, .int .i64, .int .i64], []⟩
def t294 : TI := ⟨.func, 1, 8, [.nilFunc], [.func], []⟩
def t295 : TI := ⟨.func, 1, 8, [.nilFunc], [.func], []⟩
def t296 : TI := ⟨.func, 1, 8, [.nilFunc], [.func], []⟩
def t297 : TI := ⟨.func, 1, 8, [.nilFunc], [.func], []⟩
def t298 : TI := ⟨.slice 304, 1, 24, [.slice none 0 0], [.slice 304], []⟩
def t299 : TI := ⟨.struct [(0, 3), (1, 3), (2, 25)], 3, 40, [.int .i64 0, .int .i64 0, .slice none 0 0], [.int .i64, .int .i64, .slice 3], []⟩
def t300 : TI := ⟨.struct [(0, 3), (1, 3), (2, 25)], 3, 40, [.int .i64 0, .int .i64 0, .slice none 0 0], [.int .i64, .int .i64, .slice 3], []⟩
def t302 : TI := ⟨.func, 1, 8, [.nilFunc], [.func], []⟩
def t303 : TI := ⟨.struct [(0, 300), (3, 3)], 4, 48, [.int .i64 0, .int .i64 0, .slice none 0 0, .int .i64 0], [.int .i64, .int .i64, .slice 3, .int .i64], []⟩
def t304 : TI := ⟨.struct [(0, 300), (3, 3)], 4, 48, [.int .i64 0, .int .i64 0, .slice none 0 0, .int .i64 0], [.int .i64, .int .i64, .slice 3, .int .i64], []⟩
def t305 : TI := ⟨.func, 1, 8, [.nilFunc], [.func], []⟩
def t306 : TI := ⟨.func, 1, 8, [.nilFunc], [.func], []⟩
def t307 : TI := ⟨.slice 309, 1, 24, [.slice none 0 0], [.slice 309], []⟩
def t308 : TI := ⟨.struct [(0, 4), (1, 3), (2, 3), (3, 93)], 4, 48, [.bool false, .int .i64 0, .int .i64 0, .slice none 0 0], [.bool, .int .i64, .int .i64, .slice 4], []⟩
def t309 : TI := ⟨.struct [(0, 4), (1, 3), (2, 3), (3, 93)], 4, 48, [.bool false, .int .i64 0, .int .i64 0, .slice none 0 0], [.bool, .int .i64, .int .i64, .slice 4], []⟩
def t310 : TI := ⟨.func, 1, 8, [.nilFunc], [.func], []⟩
def t311 : TI := ⟨.func, 1, 8, [.nilFunc], [.func], []⟩
def t312 : TI := ⟨.func, 1, 8, [.nilFunc], [.func], []⟩
def t313 : TI := ⟨.func, 1, 8, [.nilFunc], [.func], []⟩
def t314 : TI := ⟨.func, 1, 8, [.nilFunc], [.func], []⟩
def t315 : TI := ⟨.func, 1, 8, [.nilFunc], [.func], []⟩
def t316 : TI := ⟨.func, 1, 8, [.nilFunc], [.func], []⟩
def t317 : TI := ⟨.func, 1, 8, [.nilFunc], [.func], []⟩
def t318 : TI := ⟨.func, 1, 8, [.nilFunc], [.func], []⟩
def t319 : TI := ⟨.func, 1, 8, [.nilFunc], [.func], []⟩
def t320 : TI := ⟨.func, 1, 8, [.nilFunc], [.func], []⟩
def t321 : TI := ⟨.func, 1, 8, [.nilFunc], [.func], []⟩
def t322 : TI := ⟨.func, 1, 8, [.nilFunc], [.func], []⟩
def t323 : TI := ⟨.struct [(0, 4), (1, 4), (2, 4), (3, 4), (4, 4)], 5, 5, [.bool false, .bool false, .bool false, .bool false, .bool false], [.bool, .bool, .bool, .bool, .bool], [.bool, .bool, .bool, .bool, .bool]⟩
def t324 : TI := ⟨.struct [(0, 4), (1, 4), (2, 4), (3, 4), (4, 4)], 5, 5, [.bool false, .bool false, .bool false, .bool false, .bool false], [.bool, .bool, .bool, .bool, .bool], [.bool, .bool, .bool, .bool, .bool]⟩
def t325 : TI := ⟨.func, 1, 8, [.nilFunc], [.func], []⟩
def t326 : TI := ⟨.func, 1, 8, [.nilFunc], [.func], []⟩
def t327 : TI := ⟨.struct [(0, 3), (1, 3), (2, 3)], 3, 24, [.int .i64 0, .int .i64 0, .int .i64 0], [.int .i64, .int .i64, .int .i64], [.int .i64, .int .i64, .int .i64]⟩
def t328 : TI := ⟨.struct [(0, 3), (1, 3), (2, 3)], 3, 24, [.int .i64 0, .int .i64 0, .int .i64 0], [.int .i64, .int .i64, .int .i64], [.int .i64, .int .i64, .int .i64]⟩
def t330 : TI := ⟨.func, 1, 8, [.nilFunc], [.func], []⟩
def t331 : TI := ⟨.func, 1, 8, [.nilFunc], [.func], []⟩
def t332 : TI := ⟨.func, 1, 8, [.nilFunc], [.func], []⟩
def t333 : TI := ⟨.func, 1, 8, [.nilFunc], [.func], []⟩
def t334 : TI := ⟨.func, 1, 8, [.nilFunc], [.func], []⟩
def t335 : TI := ⟨.func, 1, 8, [.nilFunc], [.func], []⟩
def t336 : TI := ⟨.func, 1, 8, [.nilFunc], [.func], []⟩
def t337 : TI := ⟨.arr 12 3, 12, 96, [.int .i64 0, .int .i64 0, .int .i64 0, .int .i64 0, .int .i64 0, .int .i64 0, .int .i64 0, .int .i64 0, .int .i64 0, .int .i64 0, .int .i64 0, .int .i64 0], [.int .i64, .int .i64, .int .i64, .int .i64, .int .i64, .int .i64, .int .i64, .int .i64, .int .i64, .int .i64, .int .i64, .int .i64], []⟩
def t338 : TI := ⟨.struct [(0, 21), (1, 21)], 2, 8, [.int .i32 0, .int .i32 0], [.int .i32, .int .i32], [.int .i32, .int .i32]⟩
def t339 : TI := ⟨.struct [(0, 21), (1, 21)], 2, 8, [.int .i32 0, .int .i32 0], [.int .i32, .int .i32], [.int .i32, .int .i32]⟩
def t341 : TI := ⟨.func, 1, 8, [.nilFunc], [.func], []⟩
def t342 : TI := ⟨.func, 1, 8, [.nilFunc], [.func], []⟩
def t343 : TI := ⟨.func, 1, 8, [.nilFunc], [.func], []⟩
def t344 : TI := ⟨.func, 1, 8, [.nilFunc], [.func], []⟩
def t345 : TI := ⟨.ptr 287, 1, 8, [.pointer none], [.ptr 287], []⟩
def t346 : TI := ⟨.func, 1, 8, [.nilFunc], [.func], []⟩
def t347 : TI := ⟨.func, 1, 8, [.nilFunc], [.func], []⟩
def t348 : TI := ⟨.func, 1, 8, [.nilFunc], [.func], []⟩
def t349 : TI := ⟨.func, 1, 8, [.nilFunc], [.func], []⟩
def t350 : TI := ⟨.struct [(0, 4), (1, 3), (2, 25)], 3, 40, [.bool false, .int .i64 0, .slice none 0 0], [.bool, .int .i64, .slice 3], []⟩
def t351 : TI := ⟨.struct [(0, 4), (1, 3), (2, 25)], 3, 40, [.bool false, .int .i64 0, .slice none 0 0], [.bool, .int .i64, .slice 3], []⟩
def t352 : TI := ⟨.func, 1, 8, [.nilFunc], [.func], []⟩
def t353 : TI := ⟨.func, 1, 8, [.nilFunc], [.func], []⟩
def t354 : TI := ⟨.struct [(0, 23)], 1, 24, [.slice none 0 0], [.slice 9], []⟩
def t355 : TI := ⟨.struct [(0, 23)], 1, 24, [.slice none 0 0], [.slice 9], []⟩
def t356 : TI := ⟨.func, 1, 8, [.nilFunc], [.func], []⟩
def t357 : TI := ⟨.func, 1, 8, [.nilFunc], [.func], []⟩
def t358 : TI := ⟨.func, 1, 8, [.nilFunc], [.func], []⟩
def t359 : TI := ⟨.func, 1, 8, [.nilFunc], [.func], []⟩
def t360 : TI := ⟨.func, 1, 8, [.nilFunc], [.func], []⟩
def t361 : TI := ⟨.func, 1, 8, [.nilFunc], [.func], []⟩
def t362 : TI := ⟨.func, 1, 8, [.nilFunc], [.func], []⟩
def t364 : TI := ⟨.func, 1, 8, [.nilFunc], [.func], []⟩
def t365 : TI := ⟨.func, 1, 8, [.nilFunc], [.func], []⟩
def t366 : TI := ⟨.func, 1, 8, [.nilFunc], [.func], []⟩
def t367 : TI := ⟨.func, 1, 8, [.nilFunc], [.func], []⟩
def t368 : TI := ⟨.func, 1, 8, [.nilFunc], [.func], []⟩
def t369 : TI := ⟨.int .i64, 1, 8, [.int .i64 0], [.int .i64], []⟩
def t371 : TI := ⟨.func, 1, 8, [.nilFunc], [.func], []⟩
def t372 : TI := ⟨.func, 1, 8, [.nilFunc], [.func], []⟩
def t373 : TI := ⟨.func, 1, 8, [.nilFunc], [.func], []⟩
def t374 : TI := ⟨.func, 1, 8, [.nilFunc], [.func], []⟩
def t375 : TI := ⟨.func, 1, 8, [.nilFunc], [.func], []⟩
def t376 : TI := ⟨.func, 1, 8, [.nilFunc], [.func], []⟩
def t377 : TI := ⟨.func, 1, 8, [.nilFunc], [.func], []⟩
def t378 : TI := ⟨.func, 1, 8, [.nilFunc], [.func], []⟩
def t379 : TI := ⟨.func, 1, 8, [.nilFunc], [.func], []⟩
def t380 : TI := ⟨.func, 1, 8, [.nilFunc], [.func], []⟩
def t381 : TI := ⟨.func, 1, 8, [.nilFunc], [.func], []⟩
def t382 : TI := ⟨.func, 1, 8, [.nilFunc], [.func], []⟩
def t383 : TI := ⟨.func, 1, 8, [.nilFunc], [.func], []⟩
def t384 : TI := ⟨.func, 1, 8, [.nilFunc], [.func], []⟩
def t386 : TI := ⟨.func, 1, 8, [.nilFunc], [.func], []⟩
def t387 : TI := ⟨.int .u64, 1, 8, [.int .u64 0], [.int .u64], []⟩
def t388 : TI := ⟨.func, 1, 8, [.nilFunc], [.func], []⟩
def t389 : TI := ⟨.func, 1, 8, [.nilFunc], [.func], []⟩
def t390 : TI := ⟨.func, 1, 8, [.nilFunc], [.func], []⟩
def t391 : TI := ⟨.ptr 3, 1, 8, [.pointer none], [.ptr 3], []⟩
def t392 : TI := ⟨.func, 1, 8, [.nilFunc], [.func], []⟩
def t393 : TI := ⟨.func, 1, 8, [.nilFunc], [.func], []⟩
def t394 : TI := ⟨.func, 1, 8, [.nilFunc], [.func], []⟩
def t395 : TI := ⟨.func, 1, 8, [.nilFunc], [.func], []⟩
def t396 : TI := ⟨.struct [(0, 3), (1, 5), (2, 5), (3, 21)], 4, 16, [.int .i64 0, .int .u8 0, .int .u8 0, .int .i32 0], [.int .i64, .int .u8, .int .u8, .int .i32], [.int .i64, .int .u8, .int .u8, .int .i32]⟩
def t397 : TI := ⟨.struct [(0, 3), (1, 5), (2, 5), (3, 21)], 4, 16, [.int .i64 0, .int .u8 0, .int .u8 0, .int .i32 0], [.int .i64, .int .u8, .int .u8, .int .i32], [.int .i64, .int .u8, .int .u8, .int .i32]⟩
def t398 : TI := ⟨.func, 1, 8, [.nilFunc], [.func], []⟩
def t399 : TI := ⟨.ptr 387, 1, 8, [.pointer none], [.ptr 387], []⟩
def t400 : TI := ⟨.func, 1, 8, [.nilFunc], [.func], []⟩
def t401 : TI := ⟨.func, 1, 8, [.nilFunc], [.func], []⟩
def t402 : TI := ⟨.struct [(0, 17), (1, 17), (2, 17), (3, 9)], 4, 40, [.pointer none, .pointer none, .pointer none, .string ⟨#[]⟩], [.ptr 413, .ptr 413, .ptr 413, .str], []⟩
def t403 : TI := ⟨.struct [(0, 17), (1, 17), (2, 17), (3, 9)], 4, 40, [.pointer none, .pointer none, .pointer none, .string ⟨#[]⟩], [.ptr 413, .ptr 413, .ptr 413, .str], []⟩
def t407 : TI := ⟨.int .u8, 1, 1, [.int .u8 0], [.int .u8], []⟩
def t408 : TI := ⟨.int .u8, 1, 1, [.int .u8 0], [.int .u8], []⟩
def t409 : TI := ⟨.func, 1, 8, [.nilFunc], [.func], []⟩
def t410 : TI := ⟨.int .i32, 1, 4, [.int .i32 0], [.int .i32], []⟩
def t411 : TI := ⟨.int .i32, 1, 4, [.int .i32 0], [.int .i32], []⟩
def t412 : TI := ⟨.struct [(0, 12), (1, 12), (2, 274), (3, 407), (4, 5), (5, 5), (6, 408), (7, 409), (8, 279), (9, 410), (10, 411)], 11, 48, [.int .u64 0, .int .u64 0, .int .u32 0, .int .u8 0, .int .u8 0, .int .u8 0, .int .u8 0, .nilFunc, .pointer none, .int .i32 0, .int .i32 0], [.int .u64, .int .u64, .int .u32, .int .u8, .int .u8, .int .u8, .int .u8, .func, .ptr 5, .int .i32, .int .i32], []⟩
def t413 : TI := ⟨.struct [(0, 12), (1, 12), (2, 274), (3, 407), (4, 5), (5, 5), (6, 408), (7, 409), (8, 279), (9, 410), (10, 411)], 11, 48, [.int .u64 0, .int .u64 0, .int .u32 0, .int .u8 0, .int .u8 0, .int .u8 0, .int .u8 0, .nilFunc, .pointer none, .int .i32 0, .int .i32 0], [.int .u64, .int .u64, .int .u32, .int .u8, .int .u8, .int .u8, .int .u8, .func, .ptr 5, .int .i32, .int .i32], []⟩
def tab : Tab := (.node (.node (.node (.node (.node (.node (.node (.node (.node .nil 1 t1 .nil) 2 t2 .nil) 3 t3 (.node (.node .nil 4 t4 .nil) 5 t5 .nil)) 6 t6 (.node (.node (.node .nil 7 t7 .nil) 8 t8 .nil) 9 t9 (.node (.node .nil 10 t10 .nil) 11 t11 .nil))) 12 t12 (.node (.node (.node (.node .nil 13 t13 .nil) 14 t14 .nil) 15 t15 (.node (.node .nil 16 t16 .nil) 17 t17 .nil)) 18 t18 (.node (.node (.node .nil 19 t19 .nil) 21 t21 .nil) 22 t22 (.node (.node .nil 23 t23 .nil) 24 t24 .nil)))) 25 t25 (.node (.node (.node (.node (.node .nil 26 t26 .nil) 27 t27 .nil) 28 t28 (.node (.node .nil 29 t29 .nil) 30 t30 .nil)) 31 t31 (.node (.node (.node .nil 32 t32 .nil) 33 t33 .nil) 34 t34 (.node (.node .nil 35 t35 .nil) 36 t36 .nil))) 37 t37 (.node (.node (.node (.node .nil 39 t39 .nil) 41 t41 .nil) 42 t42 (.node (.node .nil 43 t43 .nil) 44 t44 .nil)) 45 t45 (.node (.node (.node .nil 46 t46 .nil) 48 t48 .nil) 49 t49 (.node .nil 50 t50 .nil))))) 51 t51 (.node (.node (.node (.node (.node (.node .nil 52 t52 .nil) 53 t53 .nil) 54 t54 (.node (.node .nil 55 t55 .nil) 56 t56 .nil)) 57 t57 (.node (.node (.node .nil 58 t58 .nil) 59 t59 .nil) 60 t60 (.node (.node .nil 61 t61 .nil) 62 t62 .nil))) 63 t63 (.node (.node (.node (.node .nil 64 t64 .nil) 65 t65 .nil) 66 t66 (.node (.node .nil 67 t67 .nil) 68 t68 .nil)) 69 t69 (.node (.node (.node .nil 70 t70 .nil) 71 t71 .nil) 72 t72 (.node (.node .nil 74 t74 .nil) 75 t75 .nil)))) 77 t77 (.node (.node (.node (.node (.node .nil 78 t78 .nil) 79 t79 .nil) 80 t80 (.node (.node .nil 81 t81 .nil) 82 t82 .nil)) 84 t84 (.node (.node (.node .nil 85 t85 .nil) 86 t86 .nil) 87 t87 (.node (.node .nil 88 t88 .nil) 89 t89 .nil))) 90 t90 (.node (.node (.node (.node .nil 91 t91 .nil) 92 t92 .nil) 93 t93 (.node (.node .nil 94 t94 .nil) 95 t95 .nil)) 96 t96 (.node (.node (.node .nil 97 t97 .nil) 98 t98 .nil) 99 t99 (.node .nil 100 t100 .nil)))))) 101 t101 (.node (.node (.node (.node (.node (.node (.node .nil 103 t103 .nil) 104 t104 .nil) 105 t105 (.node (.node .nil 106 t106 .nil) 107 t107 .nil)) 109 t109 (.node (.node (.node .nil 110 t110 .nil) 111 t111 .nil) 112 t112 (.node (.node .nil 113 t113 .nil) 114 t114 .nil))) 116 t116 (.node (.node (.node (.node .nil 117 t117 .nil) 118 t118 .nil) 119 t119 (.node (.node .nil 120 t120 .nil) 121 t121 .nil)) 122 t122 (.node (.node (.node .nil 123 t123 .nil) 124 t124 .nil) 126 t126 (.node (.node .nil 128 t128 .nil) 130 t130 .nil)))) 131 t131 (.node (.node (.node (.node (.node .nil 132 t132 .nil) 133 t133 .nil) 134 t134 (.node (.node .nil 135 t135 .nil) 136 t136 .nil)) 137 t137 (.node (.node (.node .nil 138 t138 .nil) 139 t139 .nil) 140 t140 (.node (.node .nil 141 t141 .nil) 142 t142 .nil))) 143 t143 (.node (.node (.node (.node .nil 145 t145 .nil) 146 t146 .nil) 147 t147 (.node (.node .nil 148 t148 .nil) 149 t149 .nil)) 150 t150 (.node (.node (.node .nil 151 t151 .nil) 152 t152 .nil) 153 t153 (.node .nil 155 t155 .nil))))) 156 t156 (.node (.node (.node (.node (.node (.node .nil 157 t157 .nil) 158 t158 .nil) 159 t159 (.node (.node .nil 160 t160 .nil) 161 t161 .nil)) 162 t162 (.node (.node (.node .nil 163 t163 .nil) 164 t164 .nil) 165 t165 (.node (.node .nil 166 t166 .nil) 167 t167 .nil))) 168 t168 (.node (.node (.node (.node .nil 169 t169 .nil) 170 t170 .nil) 171 t171 (.node (.node .nil 172 t172 .nil) 173 t173 .nil)) 174 t174 (.node (.node (.node .nil 175 t175 .nil) 176 t176 .nil) 177 t177 (.node (.node .nil 178 t178 .nil) 179 t179 .nil)))) 180 t180 (.node (.node (.node (.node (.node .nil 181 t181 .nil) 183 t183 .nil) 184 t184 (.node (.node .nil 186 t186 .nil) 187 t187 .nil)) 188 t188 (.node (.node (.node .nil 189 t189 .nil) 190 t190 .nil) 191 t191 (.node (.node .nil 192 t192 .nil) 193 t193 .nil))) 194 t194 (.node (.node (.node (.node .nil 196 t196 .nil) 197 t197 .nil) 199 t199 (.node (.node .nil 200 t200 .nil) 201 t201 .nil)) 202 t202 (.node (.node (.node .nil 203 t203 .nil) 204 t204 .nil) 208 t208 (.node .nil 209 t209 .nil))))))) 210 t210 (.node (.node (.node (.node (.node (.node (.node (.node .nil 211 t211 .nil) 212 t212 .nil) 213 t213 (.node (.node .nil 214 t214 .nil) 215 t215 .nil)) 216 t216 (.node (.node (.node .nil 217 t217 .nil) 218 t218 .nil) 219 t219 (.node (.node .nil 220 t220 .nil) 221 t221 .nil))) 222 t222 (.node (.node (.node (.node .nil 223 t223 .nil) 224 t224 .nil) 225 t225 (.node (.node .nil 226 t226 .nil) 227 t227 .nil)) 228 t228 (.node (.node (.node .nil 229 t229 .nil) 230 t230 .nil) 231 t231 (.node (.node .nil 233 t233 .nil) 234 t234 .nil)))) 235 t235 (.node (.node (.node (.node (.node .nil 236 t236 .nil) 237 t237 .nil) 238 t238 (.node (.node .nil 239 t239 .nil) 240 t240 .nil)) 241 t241 (.node (.node (.node .nil 242 t242 .nil) 244 t244 .nil) 245 t245 (.node (.node .nil 246 t246 .nil) 247 t247 .nil))) 248 t248 (.node (.node (.node (.node .nil 249 t249 .nil) 250 t250 .nil) 251 t251 (.node (.node .nil 252 t252 .nil) 253 t253 .nil)) 254 t254 (.node (.node (.node .nil 255 t255 .nil) 257 t257 .nil) 258 t258 (.node .nil 260 t260 .nil))))) 261 t261 (.node (.node (.node (.node (.node (.node .nil 262 t262 .nil) 263 t263 .nil) 264 t264 (.node (.node .nil 265 t265 .nil) 266 t266 .nil)) 267 t267 (.node (.node (.node .nil 268 t268 .nil) 269 t269 .nil) 270 t270 (.node (.node .nil 271 t271 .nil) 272 t272 .nil))) 273 t273 (.node (.node (.node (.node .nil 274 t274 .nil) 276 t276 .nil) 278 t278 (.node (.node .nil 279 t279 .nil) 280 t280 .nil)) 281 t281 (.node (.node (.node .nil 282 t282 .nil) 284 t284 .nil) 285 t285 (.node (.node .nil 286 t286 .nil) 287 t287 .nil)))) 288 t288 (.node (.node (.node (.node (.node .nil 289 t289 .nil) 290 t290 .nil) 291 t291 (.node (.node .nil 292 t292 .nil) 293 t293 .nil)) 294 t294 (.node (.node (.node .nil 295 t295 .nil) 296 t296 .nil) 297 t297 (.node (.node .nil 298 t298 .nil) 299 t299 .nil))) 300 t300 (.node (.node (.node (.node .nil 302 t302 .nil) 303 t303 .nil) 304 t304 (.node (.node .nil 305 t305 .nil) 306 t306 .nil)) 307 t307 (.node (.node (.node .nil 308 t308 .nil) 309 t309 .nil) 310 t310 (.node .nil 311 t311 .nil)))))) 312 t312 (.node (.node (.node (.node (.node (.node (.node .nil 313 t313 .nil) 314 t314 .nil) 315 t315 (.node (.node .nil 316 t316 .nil) 317 t317 .nil)) 318 t318 (.node (.node (.node .nil 319 t319 .nil) 320 t320 .nil) 321 t321 (.node (.node .nil 322 t322 .nil) 323 t323 .nil))) 324 t324 (.node (.node (.node (.node .nil 325 t325 .nil) 326 t326 .nil) 327 t327 (.node (.node .nil 328 t328 .nil) 330 t330 .nil)) 331 t331 (.node (.node (.node .nil 332 t332 .nil) 333 t333 .nil) 334 t334 (.node (.node .nil 335 t335 .nil) 336 t336 .nil)))) 337 t337 (.node (.node (.node (.node (.node .nil 338 t338 .nil) 339 t339 .nil) 341 t341 (.node (.node .nil 342 t342 .nil) 343 t343 .nil)) 344 t344 (.node (.node (.node .nil 345 t345 .nil) 346 t346 .nil) 347 t347 (.node (.node .nil 348 t348 .nil) 349 t349 .nil))) 350 t350 (.node (.node (.node (.node .nil 351 t351 .nil) 352 t352 .nil) 353 t353 (.node (.node .nil 354 t354 .nil) 355 t355 .nil)) 356 t356 (.node (.node (.node .nil 357 t357 .nil) 358 t358 .nil) 359 t359 (.node .nil 360 t360 .nil))))) 361 t361 (.node (.node (.node (.node (.node (.node .nil 362 t362 .nil) 364 t364 .nil) 365 t365 (.node (.node .nil 366 t366 .nil) 367 t367 .nil)) 368 t368 (.node (.node (.node .nil 369 t369 .nil) 371 t371 .nil) 372 t372 (.node (.node .nil 373 t373 .nil) 374 t374 .nil))) 375 t375 (.node (.node (.node (.node .nil 376 t376 .nil) 377 t377 .nil) 378 t378 (.node (.node .nil 379 t379 .nil) 380 t380 .nil)) 381 t381 (.node (.node (.node .nil 382 t382 .nil) 383 t383 .nil) 384 t384 (.node (.node .nil 386 t386 .nil) 387 t387 .nil)))) 388 t388 (.node (.node (.node (.node (.node .nil 389 t389 .nil) 390 t390 .nil) 391 t391 (.node (.node .nil 392 t392 .nil) 393 t393 .nil)) 394 t394 (.node (.node (.node .nil 395 t395 .nil) 396 t396 .nil) 397 t397 (.node (.node .nil 398 t398 .nil) 399 t399 .nil))) 400 t400 (.node (.node (.node (.node .nil 401 t401 .nil) 402 t402 .nil) 403 t403 (.node (.node .nil 407 t407 .nil) 408 t408 .nil)) 409 t409 (.node (.node (.node .nil 410 t410 .nil) 411 t411 .nil) 412 t412 (.node .nil 413 t413 .nil))))))))
theorem tab_b : tabB Tryz.prog tab = true := by kernel_rfl
theorem tab_ok : TabOk Tryz.prog tab := tabOk_of tab_b
theorem nm0 : (Tryz.f0.name == "runtime.NumGoroutine") = false := by kernel_rfl
theorem nm1 : (Tryz.f1.name == "runtime.NumGoroutine") = false := by kernel_rfl
theorem nm2 : (Tryz.f2.name == "runtime.NumGoroutine") = false := by kernel_rfl
theorem nm3 : (Tryz.f3.name == "runtime.NumGoroutine") = false := by kernel_rfl
theorem nm4 : (Tryz.f4.name == "runtime.NumGoroutine") = false := by kernel_rfl
theorem nm5 : (Tryz.f5.name == "runtime.NumGoroutine") = false := by kernel_rfl
theorem nm6 : (Tryz.f6.name == "runtime.NumGoroutine") = false := by kernel_rfl
theorem nm7 : (Tryz.f7.name == "runtime.NumGoroutine") = false := by kernel_rfl
theorem nm8 : (Tryz.f8.name == "runtime.NumGoroutine") = false := by kernel_rfl
theorem nm9 : (Tryz.f9.name == "runtime.NumGoroutine") = false := by kernel_rfl
theorem nm10 : (Tryz.f10.name == "runtime.NumGoroutine") = false := by kernel_rfl
theorem nm11 : (Tryz.f11.name == "runtime.NumGoroutine") = false := by kernel_rfl
theorem nm12 : (Tryz.f12.name == "runtime.NumGoroutine") = false := by kernel_rfl
theorem nm13 : (Tryz.f13.name == "runtime.NumGoroutine") = false := by kernel_rfl
theorem nm14 : (Tryz.f14.name == "runtime.NumGoroutine") = false := by kernel_rfl
theorem nm15 : (Tryz.f15.name == "runtime.NumGoroutine") = false := by kernel_rfl
theorem nm16 : (Tryz.f16.name == "runtime.NumGoroutine") = false := by kernel_rfl
theorem nm17 : (Tryz.f17.name == "runtime.NumGoroutine") = false := by kernel_rfl
theorem nm18 : (Tryz.f18.name == "runtime.NumGoroutine") = false := by kernel_rfl
theorem nm19 : (Tryz.f19.name == "runtime.NumGoroutine") = false := by kernel_rfl
theorem nm20 : (Tryz.f20.name == "runtime.NumGoroutine") = false := by kernel_rfl
theorem nm21 : (Tryz.f21.name == "runtime.NumGoroutine") = false := by kernel_rfl
theorem nm22 : (Tryz.f22.name == "runtime.NumGoroutine") = false := by kernel_rfl
theorem nm23 : (Tryz.f23.name == "runtime.NumGoroutine") = false := by kernel_rfl
theorem nm24 : (Tryz.f24.name == "runtime.NumGoroutine") = false := by kernel_rfl
theorem nm25 : (Tryz.f25.name == "runtime.NumGoroutine") = false := by kernel_rfl
theorem nm26 : (Tryz.f26.name == "runtime.NumGoroutine") = false := by kernel_rfl
theorem nm27 : (Tryz.f27.name == "runtime.NumGoroutine") = false := by kernel_rfl
theorem nm28 : (Tryz.f28.name == "runtime.NumGoroutine") = false := by kernel_rfl
theorem nm29 : (Tryz.f29.name == "runtime.NumGoroutine") = false := by kernel_rfl
theorem nm30 : (Tryz.f30.name == "runtime.NumGoroutine") = false := by kernel_rfl
theorem nm31 : (Tryz.f31.name == "runtime.NumGoroutine") = false := by kernel_rfl
theorem nm32 : (Tryz.f32.name == "runtime.NumGoroutine") = false := by kernel_rfl
theorem nm33 : (Tryz.f33.name == "runtime.NumGoroutine") = false := by kernel_rfl
theorem nm34 : (Tryz.f34.name == "runtime.NumGoroutine") = false := by kernel_rfl
theorem nm35 : (Tryz.f35.name == "runtime.NumGoroutine") = false := by kernel_rfl
theorem nm36 : (Tryz.f36.name == "runtime.NumGoroutine") = false := by kernel_rfl
theorem nm37 : (Tryz.f37.name == "runtime.NumGoroutine") = false := by kernel_rfl
theorem nm38 : (Tryz.f38.name == "runtime.NumGoroutine") = false := by kernel_rfl
theorem nm39 : (Tryz.f39.name == "runtime.NumGoroutine") = false := by kernel_rfl
theorem nm40 : (Tryz.f40.name == "runtime.NumGoroutine") = false := by kernel_rfl
theorem nm41 : (Tryz.f41.name == "runtime.NumGoroutine") = false := by kernel_rfl
theorem nm42 : (Tryz.f42.name == "runtime.NumGoroutine") = false := by kernel_rfl
theorem nm43 : (Tryz.f43.name == "runtime.NumGoroutine") = false := by kernel_rfl
theorem nm44 : (Tryz.f44.name == "runtime.NumGoroutine") = false := by kernel_rfl
theorem nm45 : (Tryz.f45.name == "runtime.NumGoroutine") = false := by kernel_rfl
theorem nm46 : (Tryz.f46.name == "runtime.NumGoroutine") = false := by kernel_rfl
theorem nm47 : (Tryz.f47.name == "runtime.NumGoroutine") = false := by kernel_rfl
theorem nm48 : (Tryz.f48.name == "runtime.NumGoroutine") = false := by kernel_rfl
theorem nm49 : (Tryz.f49.name == "runtime.NumGoroutine") = false := by kernel_rfl
theorem nm50 : (Tryz.f50.name == "runtime.NumGoroutine") = false := by kernel_rfl
theorem nm51 : (Tryz.f51.name == "runtime.NumGoroutine") = false := by kernel_rfl
theorem nm52 : (Tryz.f52.name == "runtime.NumGoroutine") = false := by kernel_rfl
theorem nm53 : (Tryz.f53.name == "runtime.NumGoroutine") = false := by kernel_rfl
theorem nm54 : (Tryz.f54.name == "runtime.NumGoroutine") = false := by kernel_rfl
theorem nm55 : (Tryz.f55.name == "runtime.NumGoroutine") = false := by kernel_rfl
theorem nm56 : (Tryz.f56.name == "runtime.NumGoroutine") = false := by kernel_rfl
theorem nm57 : (Tryz.f57.name == "runtime.NumGoroutine") = false := by kernel_rfl
theorem nm58 : (Tryz.f58.name == "runtime.NumGoroutine") = false := by kernel_rfl
theorem nm59 : (Tryz.f59.name == "runtime.NumGoroutine") = false := by kernel_rfl
theorem nm60 : (Tryz.f60.name == "runtime.NumGoroutine") = false := by kernel_rfl
theorem nm61 : (Tryz.f61.name == "runtime.NumGoroutine") = false := by kernel_rfl
theorem nm62 : (Tryz.f62.name == "runtime.NumGoroutine") = false := by kernel_rfl
theorem nm63 : (Tryz.f63.name == "runtime.NumGoroutine") = false := by kernel_rfl
theorem nm64 : (Tryz.f64.name == "runtime.NumGoroutine") = false := by kernel_rfl
theorem nm65 : (Tryz.f65.name == "runtime.NumGoroutine") = false := by kernel_rfl
theorem nm66 : (Tryz.f66.name == "runtime.NumGoroutine") = false := by kernel_rfl
theorem nm67 : (Tryz.f67.name == "runtime.NumGoroutine") = false := by kernel_rfl
theorem nm68 : (Tryz.f68.name == "runtime.NumGoroutine") = false := by kernel_rfl
theorem nm69 : (Tryz.f69.name == "runtime.NumGoroutine") = false := by kernel_rfl
theorem nm70 : (Tryz.f70.name == "runtime.NumGoroutine") = false := by kernel_rfl
theorem nm71 : (Tryz.f71.name == "runtime.NumGoroutine") = false := by kernel_rfl
theorem nm72 : (Tryz.f72.name == "runtime.NumGoroutine") = false := by kernel_rfl
theorem nm73 : (Tryz.f73.name == "runtime.NumGoroutine") = false := by kernel_rfl
theorem nm74 : (Tryz.f74.name == "runtime.NumGoroutine") = false := by kernel_rfl
theorem nm75 : (Tryz.f75.name == "runtime.NumGoroutine") = false := by kernel_rfl
theorem nm76 : (Tryz.f76.name == "runtime.NumGoroutine") = false := by kernel_rfl
theorem nm77 : (Tryz.f77.name == "runtime.NumGoroutine") = false := by kernel_rfl
theorem nm78 : (Tryz.f78.name == "runtime.NumGoroutine") = false := by kernel_rfl
theorem nm79 : (Tryz.f79.name == "runtime.NumGoroutine") = false := by kernel_rfl
theorem nm80 : (Tryz.f80.name == "runtime.NumGoroutine") = false := by kernel_rfl
theorem nm81 : (Tryz.f81.name == "runtime.NumGoroutine") = false := by kernel_rfl
theorem nm82 : (Tryz.f82.name == "runtime.NumGoroutine") = false := by kernel_rfl
theorem nm83 : (Tryz.f83.name == "runtime.NumGoroutine") = false := by kernel_rfl
theorem nm84 : (Tryz.f84.name == "runtime.NumGoroutine") = false := by kernel_rfl
theorem nm85 : (Tryz.f85.name == "runtime.NumGoroutine") = false := by kernel_rfl
theorem nm86 : (Tryz.f86.name == "runtime.NumGoroutine") = false := by kernel_rfl
theorem nm87 : (Tryz.f87.name == "runtime.NumGoroutine") = false := by kernel_rfl
theorem nm88 : (Tryz.f88.name == "runtime.NumGoroutine") = false := by kernel_rfl
theorem nm89 : (Tryz.f89.name == "runtime.NumGoroutine") = false := by kernel_rfl
theorem nm90 : (Tryz.f90.name == "runtime.NumGoroutine") = false := by kernel_rfl
theorem nm91 : (Tryz.f91.name == "runtime.NumGoroutine") = false := by kernel_rfl
theorem nm92 : (Tryz.f92.name == "runtime.NumGoroutine") = false := by kernel_rfl
theorem nm93 : (Tryz.f93.name == "runtime.NumGoroutine") = false := by kernel_rfl
theorem nm94 : (Tryz.f94.name == "runtime.NumGoroutine") = false := by kernel_rfl
theorem nm95 : (Tryz.f95.name == "runtime.NumGoroutine") = false := by kernel_rfl
theorem nm96 : (Tryz.f96.name == "runtime.NumGoroutine") = false := by kernel_rfl
theorem nm97 : (Tryz.f97.name == "runtime.NumGoroutine") = false := by kernel_rfl
theorem nm98 : (Tryz.f98.name == "runtime.NumGoroutine") = false := by kernel_rfl
theorem nm99 : (Tryz.f99.name == "runtime.NumGoroutine") = false := by kernel_rfl
theorem nm100 : (Tryz.f100.name == "runtime.NumGoroutine") = false := by kernel_rfl
theorem nm101 : (Tryz.f101.name == "runtime.NumGoroutine") = false := by kernel_rfl
theorem nm102 : (Tryz.f102.name == "runtime.NumGoroutine") = false := by kernel_rfl
theorem nm103 : (Tryz.f103.name == "runtime.NumGoroutine") = false := by kernel_rfl
theorem nm104 : (Tryz.f104.name == "runtime.NumGoroutine") = false := by kernel_rfl
theorem nm105 : (Tryz.f105.name == "runtime.NumGoroutine") = false := by kernel_rfl
theorem nm106 : (Tryz.f106.name == "runtime.NumGoroutine") = false := by kernel_rfl
theorem nm107 : (Tryz.f107.name == "runtime.NumGoroutine") = false := by kernel_rfl
theorem nm108 : (Tryz.f108.name == "runtime.NumGoroutine") = false := by kernel_rfl
theorem nm109 : (Tryz.f109.name == "runtime.NumGoroutine") = false := by kernel_rfl
theorem nm110 : (Tryz.f110.name == "runtime.NumGoroutine") = false := by kernel_rfl
theorem nm111 : (Tryz.f111.name == "runtime.NumGoroutine") = false := by kernel_rfl
theorem nm112 : (Tryz.f112.name == "runtime.NumGoroutine") = false := by kernel_rfl
theorem nm113 : (Tryz.f113.name == "runtime.NumGoroutine") = false := by kernel_rfl
theorem nm114 : (Tryz.f114.name == "runtime.NumGoroutine") = false := by kernel_rfl
theorem nm115 : (Tryz.f115.name == "runtime.NumGoroutine") = false := by kernel_rfl
theorem nm116 : (Tryz.f116.name == "runtime.NumGoroutine") = false := by kernel_rfl
theorem nm117 : (Tryz.f117.name == "runtime.NumGoroutine") = false := by kernel_rfl
theorem nm118 : (Tryz.f118.name == "runtime.NumGoroutine") = false := by kernel_rfl
theorem nm119 : (Tryz.f119.name == "runtime.NumGoroutine") = false := by kernel_rfl
theorem nm120 : (Tryz.f120.name == "runtime.NumGoroutine") = false := by kernel_rfl
theorem nm121 : (Tryz.f121.name == "runtime.NumGoroutine") = false := by kernel_rfl
theorem nm122 : (Tryz.f122.name == "runtime.NumGoroutine") = false := by kernel_rfl
theorem nm123 : (Tryz.f123.name == "runtime.NumGoroutine") = false := by kernel_rfl
theorem nm124 : (Tryz.f124.name == "runtime.NumGoroutine") = false := by kernel_rfl
theorem nm125 : (Tryz.f125.name == "runtime.NumGoroutine") = false := by kernel_rfl
theorem nm126 : (Tryz.f126.name == "runtime.NumGoroutine") = false := by kernel_rfl
theorem nm127 : (Tryz.f127.name == "runtime.NumGoroutine") = false := by kernel_rfl
theorem nm128 : (Tryz.f128.name == "runtime.NumGoroutine") = false := by kernel_rfl
theorem nm129 : (Tryz.f129.name == "runtime.NumGoroutine") = false := by kernel_rfl
theorem nm130 : (Tryz.f130.name == "runtime.NumGoroutine") = false := by kernel_rfl
theorem nm131 : (Tryz.f131.name == "runtime.NumGoroutine") = false := by kernel_rfl
theorem nm132 : (Tryz.f132.name == "runtime.NumGoroutine") = false := by kernel_rfl
theorem nm133 : (Tryz.f133.name == "runtime.NumGoroutine") = false := by kernel_rfl
theorem nm134 : (Tryz.f134.name == "runtime.NumGoroutine") = false := by kernel_rfl
theorem nm135 : (Tryz.f135.name == "runtime.NumGoroutine") = false := by kernel_rfl
theorem nm136 : (Tryz.f136.name == "runtime.NumGoroutine") = false := by kernel_rfl
theorem nm137 : (Tryz.f137.name == "runtime.NumGoroutine") = false := by kernel_rfl
theorem nm138 : (Tryz.f138.name == "runtime.NumGoroutine") = false := by kernel_rfl
theorem nm139 : (Tryz.f139.name == "runtime.NumGoroutine") = false := by kernel_rfl
theorem nm140 : (Tryz.f140.name == "runtime.NumGoroutine") = false := by kernel_rfl
theorem nm141 : (Tryz.f141.name == "runtime.NumGoroutine") = false := by kernel_rfl
theorem nm142 : (Tryz.f142.name == "runtime.NumGoroutine") = false := by kernel_rfl
theorem nm143 : (Tryz.f143.name == "runtime.NumGoroutine") = false := by kernel_rfl
theorem nm144 : (Tryz.f144.name == "runtime.NumGoroutine") = false := by kernel_rfl
theorem nm145 : (Tryz.f145.name == "runtime.NumGoroutine") = false := by kernel_rfl
theorem nm146 : (Tryz.f146.name == "runtime.NumGoroutine") = false := by kernel_rfl
theorem nm147 : (Tryz.f147.name == "runtime.NumGoroutine") = false := by kernel_rfl
theorem nm148 : (Tryz.f148.name == "runtime.NumGoroutine") = false := by kernel_rfl
theorem nm149 : (Tryz.f149.name == "runtime.NumGoroutine") = false := by kernel_rfl
theorem nm150 : (Tryz.f150.name == "runtime.NumGoroutine") = false := by kernel_rfl
theorem nm151 : (Tryz.f151.name == "runtime.NumGoroutine") = false := by kernel_rfl
theorem nm152 : (Tryz.f152.name == "runtime.NumGoroutine") = false := by kernel_rfl
theorem nm153 : (Tryz.f153.name == "runtime.NumGoroutine") = false := by kernel_rfl
theorem nm154 : (Tryz.f154.name == "runtime.NumGoroutine") = false := by kernel_rfl
theorem nm155 : (Tryz.f155.name == "runtime.NumGoroutine") = false := by kernel_rfl
theorem nm156 : (Tryz.f156.name == "runtime.NumGoroutine") = false := by kernel_rfl
theorem nm157 : (Tryz.f157.name == "runtime.NumGoroutine") = false := by kernel_rfl
theorem nm158 : (Tryz.f158.name == "runtime.NumGoroutine") = false := by kernel_rfl
theorem nm159 : (Tryz.f159.name == "runtime.NumGoroutine") = false := by kernel_rfl
theorem nm160 : (Tryz.f160.name == "runtime.NumGoroutine") = false := by kernel_rfl
theorem nm161 : (Tryz.f161.name == "runtime.NumGoroutine") = false := by kernel_rfl
theorem nm162 : (Tryz.f162.name == "runtime.NumGoroutine") = false := by kernel_rfl
theorem nm163 : (Tryz.f163.name == "runtime.NumGoroutine") = false := by kernel_rfl
theorem nm164 : (Tryz.f164.name == "runtime.NumGoroutine") = false := by kernel_rfl
theorem nm165 : (Tryz.f165.name == "runtime.NumGoroutine") = false := by kernel_rfl
theorem nm166 : (Tryz.f166.name == "runtime.NumGoroutine") = false := by kernel_rfl
theorem nm167 : (Tryz.f167.name == "runtime.NumGoroutine") = false := by kernel_rfl
theorem nm168 : (Tryz.f168.name == "runtime.NumGoroutine") = false := by kernel_rfl
theorem nm169 : (Tryz.f169.name == "runtime.NumGoroutine") = false := by kernel_rfl
theorem nm170 : (Tryz.f170.name == "runtime.NumGoroutine") = false := by kernel_rfl
theorem nm171 : (Tryz.f171.name == "runtime.NumGoroutine") = false := by kernel_rfl
theorem nm172 : (Tryz.f172.name == "runtime.NumGoroutine") = false := by kernel_rfl
theorem nm173 : (Tryz.f173.name == "runtime.NumGoroutine") = false := by kernel_rfl
theorem nm174 : (Tryz.f174.name == "runtime.NumGoroutine") = false := by kernel_rfl
theorem nm175 : (Tryz.f175.name == "runtime.NumGoroutine") = false := by kernel_rfl
theorem nm176 : (Tryz.f176.name == "runtime.NumGoroutine") = false := by kernel_rfl
theorem nm177 : (Tryz.f177.name == "runtime.NumGoroutine") = false := by kernel_rfl
theorem nm178 : (Tryz.f178.name == "runtime.NumGoroutine") = false := by kernel_rfl
theorem nm179 : (Tryz.f179.name == "runtime.NumGoroutine") = false := by kernel_rfl
theorem nm180 : (Tryz.f180.name == "runtime.NumGoroutine") = false := by kernel_rfl
theorem nm181 : (Tryz.f181.name == "runtime.NumGoroutine") = false := by kernel_rfl
theorem nm182 : (Tryz.f182.name == "runtime.NumGoroutine") = false := by kernel_rfl
theorem nm183 : (Tryz.f183.name == "runtime.NumGoroutine") = false := by kernel_rfl
theorem nm184 : (Tryz.f184.name == "runtime.NumGoroutine") = false := by kernel_rfl
theorem nm185 : (Tryz.f185.name == "runtime.NumGoroutine") = false := by kernel_rfl
theorem nm186 : (Tryz.f186.name == "runtime.NumGoroutine") = false := by kernel_rfl
theorem nm187 : (Tryz.f187.name == "runtime.NumGoroutine") = false := by kernel_rfl
theorem nm188 : (Tryz.f188.name == "runtime.NumGoroutine") = false := by kernel_rfl
theorem nm189 : (Tryz.f189.name == "runtime.NumGoroutine") = false := by kernel_rfl
theorem nm190 : (Tryz.f190.name == "runtime.NumGoroutine") = false := by kernel_rfl
theorem nm191 : (Tryz.f191.name == "runtime.NumGoroutine") = false := by kernel_rfl
theorem nm192 : (Tryz.f192.name == "runtime.NumGoroutine") = false := by kernel_rfl
theorem nm193 : (Tryz.f193.name == "runtime.NumGoroutine") = false := by kernel_rfl
theorem nm194 : (Tryz.f194.name == "runtime.NumGoroutine") = false := by kernel_rfl
theorem nm195 : (Tryz.f195.name == "runtime.NumGoroutine") = false := by kernel_rfl
theorem nm196 : (Tryz.f196.name == "runtime.NumGoroutine") = false := by kernel_rfl
theorem nm197 : (Tryz.f197.name == "runtime.NumGoroutine") = false := by kernel_rfl
theorem nm198 : (Tryz.f198.name == "runtime.NumGoroutine") = false := by kernel_rfl
theorem nm199 : (Tryz.f199.name == "runtime.NumGoroutine") = false := by kernel_rfl
theorem nm200 : (Tryz.f200.name == "runtime.NumGoroutine") = false := by kernel_rfl
theorem nm201 : (Tryz.f201.name == "runtime.NumGoroutine") = false := by kernel_rfl
theorem nm202 : (Tryz.f202.name == "runtime.NumGoroutine") = false := by kernel_rfl
theorem nm203 : (Tryz.f203.name == "runtime.NumGoroutine") = false := by kernel_rfl
theorem nm204 : (Tryz.f204.name == "runtime.NumGoroutine") = false := by kernel_rfl
theorem nm205 : (Tryz.f205.name == "runtime.NumGoroutine") = false := by kernel_rfl
theorem nm206 : (Tryz.f206.name == "runtime.NumGoroutine") = false := by kernel_rfl
theorem nm207 : (Tryz.f207.name == "runtime.NumGoroutine") = false := by kernel_rfl
theorem nm208 : (Tryz.f208.name == "runtime.NumGoroutine") = false := by kernel_rfl
theorem nm209 : (Tryz.f209.name == "runtime.NumGoroutine") = false := by kernel_rfl
theorem nm210 : (Tryz.f210.name == "runtime.NumGoroutine") = false := by kernel_rfl
theorem nm211 : (Tryz.f211.name == "runtime.NumGoroutine") = false := by kernel_rfl
theorem nm212 : (Tryz.f212.name == "runtime.NumGoroutine") = false := by kernel_rfl
theorem nm213 : (Tryz.f213.name == "runtime.NumGoroutine") = false := by kernel_rfl
theorem nm214 : (Tryz.f214.name == "runtime.NumGoroutine") = false := by kernel_rfl
theorem nm215 : (Tryz.f215.name == "runtime.NumGoroutine") = false := by kernel_rfl
theorem nm216 : (Tryz.f216.name == "runtime.NumGoroutine") = false := by kernel_rfl
theorem nm217 : (Tryz.f217.name == "runtime.NumGoroutine") = false := by kernel_rfl
theorem nm218 : (Tryz.f218.name == "runtime.NumGoroutine") = false := by kernel_rfl
theorem nm219 : (Tryz.f219.name == "runtime.NumGoroutine") = false := by kernel_rfl
theorem nm220 : (Tryz.f220.name == "runtime.NumGoroutine") = false := by kernel_rfl
theorem nm221 : (Tryz.f221.name == "runtime.NumGoroutine") = false := by kernel_rfl
theorem nm222 : (Tryz.f222.name == "runtime.NumGoroutine") = false := by kernel_rfl
theorem nm223 : (Tryz.f223.name == "runtime.NumGoroutine") = false := by kernel_rfl
theorem nm224 : (Tryz.f224.name == "runtime.NumGoroutine") = false := by kernel_rfl
theorem nm225 : (Tryz.f225.name == "runtime.NumGoroutine") = false := by kernel_rfl
theorem nm226 : (Tryz.f226.name == "runtime.NumGoroutine") = false := by kernel_rfl
theorem nm227 : (Tryz.f227.name == "runtime.NumGoroutine") = false := by kernel_rfl
theorem nm228 : (Tryz.f228.name == "runtime.NumGoroutine") = false := by kernel_rfl
theorem nm229 : (Tryz.f229.name == "runtime.NumGoroutine") = false := by kernel_rfl
theorem nm230 : (Tryz.f230.name == "runtime.NumGoroutine") = false := by kernel_rfl
theorem nm231 : (Tryz.f231.name == "runtime.NumGoroutine") = false := by kernel_rfl
theorem nm232 : (Tryz.f232.name == "runtime.NumGoroutine") = false := by kernel_rfl
theorem nm233 : (Tryz.f233.name == "runtime.NumGoroutine") = false := by kernel_rfl
theorem nm234 : (Tryz.f234.name == "runtime.NumGoroutine") = false := by kernel_rfl
theorem nm235 : (Tryz.f235.name == "runtime.NumGoroutine") = false := by kernel_rfl
theorem nm236 : (Tryz.f236.name == "runtime.NumGoroutine") = false := by kernel_rfl
theorem nm237 : (Tryz.f237.name == "runtime.NumGoroutine") = false := by kernel_rfl
theorem nm238 : (Tryz.f238.name == "runtime.NumGoroutine") = false := by kernel_rfl
theorem nm239 : (Tryz.f239.name == "runtime.NumGoroutine") = false := by kernel_rfl
theorem nm240 : (Tryz.f240.name == "runtime.NumGoroutine") = false := by kernel_rfl
theorem nm241 : (Tryz.f241.name == "runtime.NumGoroutine") = false := by kernel_rfl
theorem nm242 : (Tryz.f242.name == "runtime.NumGoroutine") = false := by kernel_rfl
theorem nm243 : (Tryz.f243.name == "runtime.NumGoroutine") = false := by kernel_rfl
theorem nm244 : (Tryz.f244.name == "runtime.NumGoroutine") = false := by kernel_rfl
theorem nm245 : (Tryz.f245.name == "runtime.NumGoroutine") = false := by kernel_rfl
theorem nm246 : (Tryz.f246.name == "runtime.NumGoroutine") = false := by kernel_rfl
theorem nm247 : (Tryz.f247.name == "runtime.NumGoroutine") = false := by kernel_rfl
theorem nm248 : (Tryz.f248.name == "runtime.NumGoroutine") = false := by kernel_rfl
theorem nm249 : (Tryz.f249.name == "runtime.NumGoroutine") = false := by kernel_rfl
theorem nm250 : (Tryz.f250.name == "runtime.NumGoroutine") = false := by kernel_rfl
theorem nm251 : (Tryz.f251.name == "runtime.NumGoroutine") = false := by kernel_rfl
theorem nm252 : (Tryz.f252.name == "runtime.NumGoroutine") = false := by kernel_rfl
theorem nm253 : (Tryz.f253.name == "runtime.NumGoroutine") = false := by kernel_rfl
theorem nm254 : (Tryz.f254.name == "runtime.NumGoroutine") = false := by kernel_rfl
theorem nm255 : (Tryz.f255.name == "runtime.NumGoroutine") = false := by kernel_rfl
theorem nm256 : (Tryz.f256.name == "runtime.NumGoroutine") = false := by kernel_rfl
theorem nm257 : (Tryz.f257.name == "runtime.NumGoroutine") = false := by kernel_rfl
theorem nm258 : (Tryz.f258.name == "runtime.NumGoroutine") = false := by kernel_rfl
theorem nm259 : (Tryz.f259.name == "runtime.NumGoroutine") = false := by kernel_rfl
theorem nm260 : (Tryz.f260.name == "runtime.NumGoroutine") = false := by kernel_rfl
theorem nm261 : (Tryz.f261.name == "runtime.NumGoroutine") = false := by kernel_rfl
theorem nm262 : (Tryz.f262.name == "runtime.NumGoroutine") = false := by kernel_rfl
theorem nm263 : (Tryz.f263.name == "runtime.NumGoroutine") = false := by kernel_rfl
theorem nm264 : (Tryz.f264.name == "runtime.NumGoroutine") = false := by kernel_rfl
theorem nm265 : (Tryz.f265.name == "runtime.NumGoroutine") = false := by kernel_rfl
theorem nm266 : (Tryz.f266.name == "runtime.NumGoroutine") = false := by kernel_rfl
theorem nm267 : (Tryz.f267.name == "runtime.NumGoroutine") = false := by kernel_rfl
theorem nm268 : (Tryz.f268.name == "runtime.NumGoroutine") = false := by kernel_rfl
theorem nm269 : (Tryz.f269.name == "runtime.NumGoroutine") = false := by kernel_rfl
theorem nm270 : (Tryz.f270.name == "runtime.NumGoroutine") = false := by kernel_rfl
theorem nm271 : (Tryz.f271.name == "runtime.NumGoroutine") = false := by kernel_rfl
theorem nm272 : (Tryz.f272.name == "runtime.NumGoroutine") = false := by kernel_rfl
theorem nm273 : (Tryz.f273.name == "runtime.NumGoroutine") = false := by kernel_rfl
theorem nm274 : (Tryz.f274.name == "runtime.NumGoroutine") = false := by kernel_rfl
theorem nm275 : (Tryz.f275.name == "runtime.NumGoroutine") = false := by kernel_rfl
theorem nm276 : (Tryz.f276.name == "runtime.NumGoroutine") = false := by kernel_rfl
theorem nm277 : (Tryz.f277.name == "runtime.NumGoroutine") = false := by kernel_rfl
theorem nm278 : (Tryz.f278.name == "runtime.NumGoroutine") = false := by kernel_rfl
theorem nm279 : (Tryz.f279.name == "runtime.NumGoroutine") = false := by kernel_rfl
theorem nm280 : (Tryz.f280.name == "runtime.NumGoroutine") = false := by kernel_rfl
theorem nm281 : (Tryz.f281.name == "runtime.NumGoroutine") = false := by kernel_rfl
theorem nm282 : (Tryz.f282.name == "runtime.NumGoroutine") = false := by kernel_rfl
theorem nm283 : (Tryz.f283.name == "runtime.NumGoroutine") = false := by kernel_rfl
theorem nm284 : (Tryz.f284.name == "runtime.NumGoroutine") = false := by kernel_rfl
theorem nm285 : (Tryz.f285.name == "runtime.NumGoroutine") = false := by kernel_rfl
theorem nm286 : (Tryz.f286.name == "runtime.NumGoroutine") = false := by kernel_rfl
theorem nm287 : (Tryz.f287.name == "runtime.NumGoroutine") = false := by kernel_rfl
theorem nm288 : (Tryz.f288.name == "runtime.NumGoroutine") = false := by kernel_rfl
theorem nm289 : (Tryz.f289.name == "runtime.NumGoroutine") = false := by kernel_rfl
theorem nm290 : (Tryz.f290.name == "runtime.NumGoroutine") = false := by kernel_rfl
theorem nm291 : (Tryz.f291.name == "runtime.NumGoroutine") = false := by kernel_rfl
theorem nm292 : (Tryz.f292.name == "runtime.NumGoroutine") = false := by kernel_rfl
theorem nm293 : (Tryz.f293.name == "runtime.NumGoroutine") = false := by kernel_rfl
theorem nm294 : (Tryz.f294.name == "runtime.NumGoroutine") = false := by kernel_rfl
theorem nm295 : (Tryz.f295.name == "runtime.NumGoroutine") = false := by kernel_rfl
theorem nm296 : (Tryz.f296.name == "runtime.NumGoroutine") = false := by kernel_rfl
theorem nm297 : (Tryz.f297.name == "runtime.NumGoroutine") = false := by kernel_rfl
theorem nm298 : (Tryz.f298.name == "runtime.NumGoroutine") = false := by kernel_rfl
theorem nm299 : (Tryz.f299.name == "runtime.NumGoroutine") = false := by kernel_rfl
theorem nm300 : (Tryz.f300.name == "runtime.NumGoroutine") = false := by kernel_rfl
theorem nm301 : (Tryz.f301.name == "runtime.NumGoroutine") = false := by kernel_rfl
theorem nm302 : (Tryz.f302.name == "runtime.NumGoroutine") = false := by kernel_rfl
theorem nm303 : (Tryz.f303.name == "runtime.NumGoroutine") = false := by kernel_rfl
theorem nm304 : (Tryz.f304.name == "runtime.NumGoroutine") = false := by kernel_rfl
theorem nm305 : (Tryz.f305.name == "runtime.NumGoroutine") = false := by kernel_rfl
theorem nm306 : (Tryz.f306.name == "runtime.NumGoroutine") = false := by kernel_rfl
theorem nm307 : (Tryz.f307.name == "runtime.NumGoroutine") = false := by kernel_rfl
theorem nm308 : (Tryz.f308.name == "runtime.NumGoroutine") = false := by kernel_rfl
theorem nm309 : (Tryz.f309.name == "runtime.NumGoroutine") = false := by kernel_rfl
theorem nm310 : (Tryz.f310.name == "runtime.NumGoroutine") = false := by kernel_rfl
theorem nm311 : (Tryz.f311.name == "runtime.NumGoroutine") = false := by kernel_rfl
theorem nm312 : (Tryz.f312.name == "runtime.NumGoroutine") = false := by kernel_rfl
theorem nm313 : (Tryz.f313.name == "runtime.NumGoroutine") = false := by kernel_rfl
theorem nm314 : (Tryz.f314.name == "runtime.NumGoroutine") = false := by kernel_rfl
theorem nm315 : (Tryz.f315.name == "runtime.NumGoroutine") = false := by kernel_rfl
theorem nm316 : (Tryz.f316.name == "runtime.NumGoroutine") = false := by kernel_rfl
theorem nm317 : (Tryz.f317.name == "runtime.NumGoroutine") = false := by kernel_rfl
theorem nm318 : (Tryz.f318.name == "runtime.NumGoroutine") = false := by kernel_rfl
theorem nm319 : (Tryz.f319.name == "runtime.NumGoroutine") = false := by kernel_rfl
theorem nm320 : (Tryz.f320.name == "runtime.NumGoroutine") = false := by kernel_rfl
theorem nm321 : (Tryz.f321.name == "runtime.NumGoroutine") = false := by kernel_rfl
theorem nm322 : (Tryz.f322.name == "runtime.NumGoroutine") = false := by kernel_rfl
theorem nm323 : (Tryz.f323.name == "runtime.NumGoroutine") = false := by kernel_rfl
theorem nm324 : (Tryz.f324.name == "runtime.NumGoroutine") = false := by kernel_rfl
theorem nm325 : (Tryz.f325.name == "runtime.NumGoroutine") = false := by kernel_rfl
theorem nm326 : (Tryz.f326.name == "runtime.NumGoroutine") = false := by kernel_rfl
theorem nm327 : (Tryz.f327.name == "runtime.NumGoroutine") = false := by kernel_rfl
theorem nm328 : (Tryz.f328.name == "runtime.NumGoroutine") = false := by kernel_rfl
theorem nm329 : (Tryz.f329.name == "runtime.NumGoroutine") = false := by kernel_rfl
theorem nm330 : (Tryz.f330.name == "runtime.NumGoroutine") = false := by kernel_rfl
theorem nm331 : (Tryz.f331.name == "runtime.NumGoroutine") = false := by kernel_rfl
theorem nm332 : (Tryz.f332.name == "runtime.NumGoroutine") = false := by kernel_rfl
theorem nm333 : (Tryz.f333.name == "runtime.NumGoroutine") = false := by kernel_rfl
theorem nm334 : (Tryz.f334.name == "runtime.NumGoroutine") = false := by kernel_rfl
theorem nm335 : (Tryz.f335.name == "runtime.NumGoroutine") = false := by kernel_rfl
theorem nm336 : (Tryz.f336.name == "runtime.NumGoroutine") = false := by kernel_rfl
theorem nm337 : (Tryz.f337.name == "runtime.NumGoroutine") = false := by kernel_rfl
theorem nm338 : (Tryz.f338.name == "runtime.NumGoroutine") = false := by kernel_rfl
theorem nm339 : (Tryz.f339.name == "runtime.NumGoroutine") = false := by kernel_rfl
theorem nm340 : (Tryz.f340.name == "runtime.NumGoroutine") = false := by kernel_rfl
theorem nm341 : (Tryz.f341.name == "runtime.NumGoroutine") = false := by kernel_rfl
theorem nm342 : (Tryz.f342.name == "runtime.NumGoroutine") = false := by kernel_rfl
theorem nm343 : (Tryz.f343.name == "runtime.NumGoroutine") = false := by kernel_rfl
theorem nm344 : (Tryz.f344.name == "runtime.NumGoroutine") = false := by kernel_rfl
theorem nm345 : (Tryz.f345.name == "runtime.NumGoroutine") = false := by kernel_rfl
theorem nm346 : (Tryz.f346.name == "runtime.NumGoroutine") = false := by kernel_rfl
theorem nm347 : (Tryz.f347.name == "runtime.NumGoroutine") = false := by kernel_rfl
theorem nm348 : (Tryz.f348.name == "runtime.NumGoroutine") = false := by kernel_rfl
theorem nm349 : (Tryz.f349.name == "runtime.NumGoroutine") = false := by kernel_rfl
theorem nm350 : (Tryz.f350.name == "runtime.NumGoroutine") = false := by kernel_rfl
theorem nm351 : (Tryz.f351.name == "runtime.NumGoroutine") = false := by kernel_rfl
theorem nm352 : (Tryz.f352.name == "runtime.NumGoroutine") = false := by kernel_rfl
theorem nm353 : (Tryz.f353.name == "runtime.NumGoroutine") = false := by kernel_rfl
theorem nm354 : (Tryz.f354.name == "runtime.NumGoroutine") = false := by kernel_rfl
theorem nm355 : (Tryz.f355.name == "runtime.NumGoroutine") = false := by kernel_rfl
theorem nm356 : (Tryz.f356.name == "runtime.NumGoroutine") = false := by kernel_rfl
theorem nm357 : (Tryz.f357.name == "runtime.NumGoroutine") = false := by kernel_rfl
theorem nm358 : (Tryz.f358.name == "runtime.NumGoroutine") = false := by kernel_rfl
theorem nm359 : (Tryz.f359.name == "runtime.NumGoroutine") = false := by kernel_rfl
theorem nm360 : (Tryz.f360.name == "runtime.NumGoroutine") = false := by kernel_rfl
theorem nm361 : (Tryz.f361.name == "runtime.NumGoroutine") = false := by kernel_rfl
theorem nm362 : (Tryz.f362.name == "runtime.NumGoroutine") = false := by kernel_rfl
theorem nm363 : (Tryz.f363.name == "runtime.NumGoroutine") = false := by kernel_rfl
theorem nm364 : (Tryz.f364.name == "runtime.NumGoroutine") = false := by kernel_rfl
theorem nm365 : (Tryz.f365.name == "runtime.NumGoroutine") = false := by kernel_rfl
theorem nm366 : (Tryz.f366.name == "runtime.NumGoroutine") = false := by kernel_rfl
theorem nm367 : (Tryz.f367.name == "runtime.NumGoroutine") = false := by kernel_rfl
theorem nm368 : (Tryz.f368.name == "runtime.NumGoroutine") = false := by kernel_rfl
theorem nm369 : (Tryz.f369.name == "runtime.NumGoroutine") = false := by kernel_rfl
theorem nm370 : (Tryz.f370.name == "runtime.NumGoroutine") = false := by kernel_rfl
theorem nm371 : (Tryz.f371.name == "runtime.NumGoroutine") = false := by kernel_rfl
theorem nm372 : (Tryz.f372.name == "runtime.NumGoroutine") = false := by kernel_rfl
theorem nm373 : (Tryz.f373.name == "runtime.NumGoroutine") = false := by kernel_rfl
theorem nm374 : (Tryz.f374.name == "runtime.NumGoroutine") = false := by kernel_rfl
theorem nm375 : (Tryz.f375.name == "runtime.NumGoroutine") = false := by kernel_rfl
theorem nm376 : (Tryz.f376.name == "runtime.NumGoroutine") = false := by kernel_rfl
theorem nm377 : (Tryz.f377.name == "runtime.NumGoroutine") = false := by kernel_rfl
theorem nm378 : (Tryz.f378.name == "runtime.NumGoroutine") = false := by kernel_rfl
theorem nm379 : (Tryz.f379.name == "runtime.NumGoroutine") = false := by kernel_rfl
theorem nm380 : (Tryz.f380.name == "runtime.NumGoroutine") = false := by kernel_rfl
theorem nm381 : (Tryz.f381.name == "runtime.NumGoroutine") = false := by kernel_rfl
theorem nm382 : (Tryz.f382.name == "runtime.NumGoroutine") = false := by kernel_rfl
theorem nm383 : (Tryz.f383.name == "runtime.NumGoroutine") = false := by kernel_rfl
theorem nm384 : (Tryz.f384.name == "runtime.NumGoroutine") = false := by kernel_rfl
theorem nm385 : (Tryz.f385.name == "runtime.NumGoroutine") = false := by kernel_rfl
theorem nm386 : (Tryz.f386.name == "runtime.NumGoroutine") = false := by kernel_rfl
theorem nm387 : (Tryz.f387.name == "runtime.NumGoroutine") = false := by kernel_rfl
theorem nm388 : (Tryz.f388.name == "runtime.NumGoroutine") = false := by kernel_rfl
theorem nm389 : (Tryz.f389.name == "runtime.NumGoroutine") = false := by kernel_rfl
theorem nm390 : (Tryz.f390.name == "runtime.NumGoroutine") = false := by kernel_rfl
theorem nm391 : (Tryz.f391.name == "runtime.NumGoroutine") = false := by kernel_rfl
theorem nm392 : (Tryz.f392.name == "runtime.NumGoroutine") = false := by kernel_rfl
theorem nm393 : (Tryz.f393.name == "runtime.NumGoroutine") = false := by kernel_rfl
theorem nm394 : (Tryz.f394.name == "runtime.NumGoroutine") = false := by kernel_rfl
theorem nm395 : (Tryz.f395.name == "runtime.NumGoroutine") = false := by kernel_rfl
theorem nm396 : (Tryz.f396.name == "runtime.NumGoroutine") = false := by kernel_rfl
theorem nm397 : (Tryz.f397.name == "runtime.NumGoroutine") = false := by kernel_rfl
theorem nm398 : (Tryz.f398.name == "runtime.NumGoroutine") = false := by kernel_rfl
theorem nm399 : (Tryz.f399.name == "runtime.NumGoroutine") = false := by kernel_rfl
theorem nm400 : (Tryz.f400.name == "runtime.NumGoroutine") = false := by kernel_rfl
theorem nm401 : (Tryz.f401.name == "runtime.NumGoroutine") = false := by kernel_rfl
theorem nm402 : (Tryz.f402.name == "runtime.NumGoroutine") = false := by kernel_rfl
theorem nm403 : (Tryz.f403.name == "runtime.NumGoroutine") = false := by kernel_rfl
theorem nm404 : (Tryz.f404.name == "runtime.NumGoroutine") = false := by kernel_rfl
theorem nm405 : (Tryz.f405.name == "runtime.NumGoroutine") = false := by kernel_rfl
theorem nm406 : (Tryz.f406.name == "runtime.NumGoroutine") = false := by kernel_rfl
theorem nm407 : (Tryz.f407.name == "runtime.NumGoroutine") = false := by kernel_rfl
theorem nm408 : (Tryz.f408.name == "runtime.NumGoroutine") = false := by kernel_rfl
theorem nm409 : (Tryz.f409.name == "runtime.NumGoroutine") = false := by kernel_rfl
theorem nm410 : (Tryz.f410.name == "runtime.NumGoroutine") = false := by kernel_rfl
theorem nm411 : (Tryz.f411.name == "runtime.NumGoroutine") = false := by kernel_rfl
theorem nm412 : (Tryz.f412.name == "runtime.NumGoroutine") = false := by kernel_rfl
theorem nm413 : (Tryz.f413.name == "runtime.NumGoroutine") = false := by kernel_rfl
theorem nm414 : (Tryz.f414.name == "runtime.NumGoroutine") = false := by kernel_rfl
theorem nm415 : (Tryz.f415.name == "runtime.NumGoroutine") = false := by kernel_rfl
theorem nm416 : (Tryz.f416.name == "runtime.NumGoroutine") = false := by kernel_rfl
theorem nm417 : (Tryz.f417.name == "runtime.NumGoroutine") = false := by kernel_rfl
theorem nm418 : (Tryz.f418.name == "runtime.NumGoroutine") = false := by kernel_rfl
theorem nm419 : (Tryz.f419.name == "runtime.NumGoroutine") = false := by kernel_rfl
theorem nm420 : (Tryz.f420.name == "runtime.NumGoroutine") = false := by kernel_rfl
theorem nm421 : (Tryz.f421.name == "runtime.NumGoroutine") = false := by kernel_rfl
theorem nm422 : (Tryz.f422.name == "runtime.NumGoroutine") = false := by kernel_rfl
theorem nm423 : (Tryz.f423.name == "runtime.NumGoroutine") = false := by kernel_rfl
theorem nm424 : (Tryz.f424.name == "runtime.NumGoroutine") = false := by kernel_rfl
theorem nm425 : (Tryz.f425.name == "runtime.NumGoroutine") = false := by kernel_rfl
theorem nm426 : (Tryz.f426.name == "runtime.NumGoroutine") = false := by kernel_rfl
theorem nm427 : (Tryz.f427.name == "runtime.NumGoroutine") = false := by kernel_rfl
theorem nm428 : (Tryz.f428.name == "runtime.NumGoroutine") = false := by kernel_rfl
theorem nm429 : (Tryz.f429.name == "runtime.NumGoroutine") = false := by kernel_rfl
theorem nm430 : (Tryz.f430.name == "runtime.NumGoroutine") = false := by kernel_rfl
theorem nm431 : (Tryz.f431.name == "runtime.NumGoroutine") = false := by kernel_rfl
theorem nm432 : (Tryz.f432.name == "runtime.NumGoroutine") = false := by kernel_rfl
theorem nm433 : (Tryz.f433.name == "runtime.NumGoroutine") = false := by kernel_rfl
theorem nm434 : (Tryz.f434.name == "runtime.NumGoroutine") = false := by kernel_rfl
theorem nm435 : (Tryz.f435.name == "runtime.NumGoroutine") = false := by kernel_rfl
noncomputable def ft : Tr Func := (.node (.node (.node (.node (.node (.node (.node (.node (.node .nil 0 Tryz.f0 .nil) 1 Tryz.f1 (.node .nil 2 Tryz.f2 .nil)) 3 Tryz.f3 (.node (.node .nil 4 Tryz.f4 .nil) 5 Tryz.f5 .nil)) 6 Tryz.f6 (.node (.node (.node .nil 7 Tryz.f7 .nil) 8 Tryz.f8 (.node .nil 9 Tryz.f9 .nil)) 10 Tryz.f10 (.node (.node .nil 11 Tryz.f11 .nil) 12 Tryz.f12 .nil))) 13 Tryz.f13 (.node (.node (.node (.node .nil 14 Tryz.f14 .nil) 15 Tryz.f15 (.node .nil 16 Tryz.f16 .nil)) 17 Tryz.f17 (.node (.node .nil 18 Tryz.f18 .nil) 19 Tryz.f19 .nil)) 20 Tryz.f20 (.node (.node (.node .nil 21 Tryz.f21 .nil) 22 Tryz.f22 (.node .nil 23 Tryz.f23 .nil)) 24 Tryz.f24 (.node (.node .nil 25 Tryz.f25 .nil) 26 Tryz.f26 .nil)))) 27 Tryz.f27 (.node (.node (.node (.node (.node .nil 28 Tryz.f28 .nil) 29 Tryz.f29 (.node .nil 30 Tryz.f30 .nil)) 31 Tryz.f31 (.node (.node .nil 32 Tryz.f32 .nil) 33 Tryz.f33 .nil)) 34 Tryz.f34 (.node (.node (.node .nil 35 Tryz.f35 .nil) 36 Tryz.f36 (.node .nil 37 Tryz.f37 .nil)) 38 Tryz.f38 (.node (.node .nil 39 Tryz.f39 .nil) 40 Tryz.f40 .nil))) 41 Tryz.f41 (.node (.node (.node (.node .nil 42 Tryz.f42 .nil) 43 Tryz.f43 (.node .nil 44 Tryz.f44 .nil)) 45 Tryz.f45 (.node (.node .nil 46 Tryz.f46 .nil) 47 Tryz.f47 .nil)) 48 Tryz.f48 (.node (.node (.node .nil 49 Tryz.f49 .nil) 50 Tryz.f50 .nil) 51 Tryz.f51 (.node (.node .nil 52 Tryz.f52 .nil) 53 Tryz.f53 .nil))))) 54 Tryz.f54 (.node (.node (.node (.node (.node (.node .nil 55 Tryz.f55 .nil) 56 Tryz.f56 (.node .nil 57 Tryz.f57 .nil)) 58 Tryz.f58 (.node (.node .nil 59 Tryz.f59 .nil) 60 Tryz.f60 .nil)) 61 Tryz.f61 (.node (.node (.node .nil 62 Tryz.f62 .nil) 63 Tryz.f63 (.node .nil 64 Tryz.f64 .nil)) 65 Tryz.f65 (.node (.node .nil 66 Tryz.f66 .nil) 67 Tryz.f67 .nil))) 68 Tryz.f68 (.node (.node (.node (.node .nil 69 Tryz.f69 .nil) 70 Tryz.f70 (.node .nil 71 Tryz.f71 .nil)) 72 Tryz.f72 (.node (.node .nil 73 Tryz.f73 .nil) 74 Tryz.f74 .nil)) 75 Tryz.f75 (.node (.node (.node .nil 76 Tryz.f76 .nil) 77 Tryz.f77 (.node .nil 78 Tryz.f78 .nil)) 79 Tryz.f79 (.node (.node .nil 80 Tryz.f80 .nil) 81 Tryz.f81 .nil)))) 82 Tryz.f82 (.node (.node (.node (.node (.node .nil 83 Tryz.f83 .nil) 84 Tryz.f84 (.node .nil 85 Tryz.f85 .nil)) 86 Tryz.f86 (.node (.node .nil 87 Tryz.f87 .nil) 88 Tryz.f88 .nil)) 89 Tryz.f89 (.node (.node (.node .nil 90 Tryz.f90 .nil) 91 Tryz.f91 (.node .nil 92 Tryz.f92 .nil)) 93 Tryz.f93 (.node (.node .nil 94 Tryz.f94 .nil) 95 Tryz.f95 .nil))) 96 Tryz.f96 (.node (.node (.node (.node .nil 97 Tryz.f97 .nil) 98 Tryz.f98 (.node .nil 99 Tryz.f99 .nil)) 100 Tryz.f100 (.node (.node .nil 101 Tryz.f101 .nil) 102 Tryz.f102 .nil)) 103 Tryz.f103 (.node (.node (.node .nil 104 Tryz.f104 .nil) 105 Tryz.f105 .nil) 106 Tryz.f106 (.node (.node .nil 107 Tryz.f107 .nil) 108 Tryz.f108 .nil)))))) 109 Tryz.f109 (.node (.node (.node (.node (.node (.node (.node .nil 110 Tryz.f110 .nil) 111 Tryz.f111 (.node .nil 112 Tryz.f112 .nil)) 113 Tryz.f113 (.node (.node .nil 114 Tryz.f114 .nil) 115 Tryz.f115 .nil)) 116 Tryz.f116 (.node (.node (.node .nil 117 Tryz.f117 .nil) 118 Tryz.f118 (.node .nil 119 Tryz.f119 .nil)) 120 Tryz.f120 (.node (.node .nil 121 Tryz.f121 .nil) 122 Tryz.f122 .nil))) 123 Tryz.f123 (.node (.node (.node (.node .nil 124 Tryz.f124 .nil) 125 Tryz.f125 (.node .nil 126 Tryz.f126 .nil)) 127 Tryz.f127 (.node (.node .nil 128 Tryz.f128 .nil) 129 Tryz.f129 .nil)) 130 Tryz.f130 (.node (.node (.node .nil 131 Tryz.f131 .nil) 132 Tryz.f132 (.node .nil 133 Tryz.f133 .nil)) 134 Tryz.f134 (.node (.node .nil 135 Tryz.f135 .nil) 136 Tryz.f136 .nil)))) 137 Tryz.f137 (.node (.node (.node (.node (.node .nil 138 Tryz.f138 .nil) 139 Tryz.f139 (.node .nil 140 Tryz.f140 .nil)) 141 Tryz.f141 (.node (.node .nil 142 Tryz.f142 .nil) 143 Tryz.f143 .nil)) 144 Tryz.f144 (.node (.node (.node .nil 145 Tryz.f145 .nil) 146 Tryz.f146 (.node .nil 147 Tryz.f147 .nil)) 148 Tryz.f148 (.node (.node .nil 149 Tryz.f149 .nil) 150 Tryz.f150 .nil))) 151 Tryz.f151 (.node (.node (.node (.node .nil 152 Tryz.f152 .nil) 153 Tryz.f153 (.node .nil 154 Tryz.f154 .nil)) 155 Tryz.f155 (.node (.node .nil 156 Tryz.f156 .nil) 157 Tryz.f157 .nil)) 158 Tryz.f158 (.node (.node (.node .nil 159 Tryz.f159 .nil) 160 Tryz.f160 .nil) 161 Tryz.f161 (.node (.node .nil 162 Tryz.f162 .nil) 163 Tryz.f163 .nil))))) 164 Tryz.f164 (.node (.node (.node (.node (.node (.node .nil 165 Tryz.f165 .nil) 166 Tryz.f166 (.node .nil 167 Tryz.f167 .nil)) 168 Tryz.f168 (.node (.node .nil 169 Tryz.f169 .nil) 170 Tryz.f170 .nil)) 171 Tryz.f171 (.node (.node (.node .nil 172 Tryz.f172 .nil) 173 Tryz.f173 (.node .nil 174 Tryz.f174 .nil)) 175 Tryz.f175 (.node (.node .nil 176 Tryz.f176 .nil) 177 Tryz.f177 .nil))) 178 Tryz.f178 (.node (.node (.node (.node .nil 179 Tryz.f179 .nil) 180 Tryz.f180 (.node .nil 181 Tryz.f181 .nil)) 182 Tryz.f182 (.node (.node .nil 183 Tryz.f183 .nil) 184 Tryz.f184 .nil)) 185 Tryz.f185 (.node (.node (.node .nil 186 Tryz.f186 .nil) 187 Tryz.f187 .nil) 188 Tryz.f188 (.node (.node .nil 189 Tryz.f189 .nil) 190 Tryz.f190 .nil)))) 191 Tryz.f191 (.node (.node (.node (.node (.node .nil 192 Tryz.f192 .nil) 193 Tryz.f193 (.node .nil 194 Tryz.f194 .nil)) 195 Tryz.f195 (.node (.node .nil 196 Tryz.f196 .nil) 197 Tryz.f197 .nil)) 198 Tryz.f198 (.node (.node (.node .nil 199 Tryz.f199 .nil) 200 Tryz.f200 (.node .nil 201 Tryz.f201 .nil)) 202 Tryz.f202 (.node (.node .nil 203 Tryz.f203 .nil) 204 Tryz.f204 .nil))) 205 Tryz.f205 (.node (.node (.node (.node .nil 206 Tryz.f206 .nil) 207 Tryz.f207 (.node .nil 208 Tryz.f208 .nil)) 209 Tryz.f209 (.node (.node .nil 210 Tryz.f210 .nil) 211 Tryz.f211 .nil)) 212 Tryz.f212 (.node (.node (.node .nil 213 Tryz.f213 .nil) 214 Tryz.f214 .nil) 215 Tryz.f215 (.node (.node .nil 216 Tryz.f216 .nil) 217 Tryz.f217 .nil))))))) 218 Tryz.f218 (.node (.node (.node (.node (.node (.node (.node (.node .nil 219 Tryz.f219 .nil) 220 Tryz.f220 (.node .nil 221 Tryz.f221 .nil)) 222 Tryz.f222 (.node (.node .nil 223 Tryz.f223 .nil) 224 Tryz.f224 .nil)) 225 Tryz.f225 (.node (.node (.node .nil 226 Tryz.f226 .nil) 227 Tryz.f227 (.node .nil 228 Tryz.f228 .nil)) 229 Tryz.f229 (.node (.node .nil 230 Tryz.f230 .nil) 231 Tryz.f231 .nil))) 232 Tryz.f232 (.node (.node (.node (.node .nil 233 Tryz.f233 .nil) 234 Tryz.f234 (.node .nil 235 Tryz.f235 .nil)) 236 Tryz.f236 (.node (.node .nil 237 Tryz.f237 .nil) 238 Tryz.f238 .nil)) 239 Tryz.f239 (.node (.node (.node .nil 240 Tryz.f240 .nil) 241 Tryz.f241 (.node .nil 242 Tryz.f242 .nil)) 243 Tryz.f243 (.node (.node .nil 244 Tryz.f244 .nil) 245 Tryz.f245 .nil)))) 246 Tryz.f246 (.node (.node (.node (.node (.node .nil 247 Tryz.f247 .nil) 248 Tryz.f248 (.node .nil 249 Tryz.f249 .nil)) 250 Tryz.f250 (.node (.node .nil 251 Tryz.f251 .nil) 252 Tryz.f252 .nil)) 253 Tryz.f253 (.node (.node (.node .nil 254 Tryz.f254 .nil) 255 Tryz.f255 (.node .nil 256 Tryz.f256 .nil)) 257 Tryz.f257 (.node (.node .nil 258 Tryz.f258 .nil) 259 Tryz.f259 .nil))) 260 Tryz.f260 (.node (.node (.node (.node .nil 261 Tryz.f261 .nil) 262 Tryz.f262 (.node .nil 263 Tryz.f263 .nil)) 264 Tryz.f264 (.node (.node .nil 265 Tryz.f265 .nil) 266 Tryz.f266 .nil)) 267 Tryz.f267 (.node (.node (.node .nil 268 Tryz.f268 .nil) 269 Tryz.f269 .nil) 270 Tryz.f270 (.node (.node .nil 271 Tryz.f271 .nil) 272 Tryz.f272 .nil))))) 273 Tryz.f273 (.node (.node (.node (.node (.node (.node .nil 274 Tryz.f274 .nil) 275 Tryz.f275 (.node .nil 276 Tryz.f276 .nil)) 277 Tryz.f277 (.node (.node .nil 278 Tryz.f278 .nil) 279 Tryz.f279 .nil)) 280 Tryz.f280 (.node (.node (.node .nil 281 Tryz.f281 .nil) 282 Tryz.f282 (.node .nil 283 Tryz.f283 .nil)) 284 Tryz.f284 (.node (.node .nil 285 Tryz.f285 .nil) 286 Tryz.f286 .nil))) 287 Tryz.f287 (.node (.node (.node (.node .nil 288 Tryz.f288 .nil) 289 Tryz.f289 (.node .nil 290 Tryz.f290 .nil)) 291 Tryz.f291 (.node (.node .nil 292 Tryz.f292 .nil) 293 Tryz.f293 .nil)) 294 Tryz.f294 (.node (.node (.node .nil 295 Tryz.f295 .nil) 296 Tryz.f296 .nil) 297 Tryz.f297 (.node (.node .nil 298 Tryz.f298 .nil) 299 Tryz.f299 .nil)))) 300 Tryz.f300 (.node (.node (.node (.node (.node .nil 301 Tryz.f301 .nil) 302 Tryz.f302 (.node .nil 303 Tryz.f303 .nil)) 304 Tryz.f304 (.node (.node .nil 305 Tryz.f305 .nil) 306 Tryz.f306 .nil)) 307 Tryz.f307 (.node (.node (.node .nil 308 Tryz.f308 .nil) 309 Tryz.f309 (.node .nil 310 Tryz.f310 .nil)) 311 Tryz.f311 (.node (.node .nil 312 Tryz.f312 .nil) 313 Tryz.f313 .nil))) 314 Tryz.f314 (.node (.node (.node (.node .nil 315 Tryz.f315 .nil) 316 Tryz.f316 (.node .nil 317 Tryz.f317 .nil)) 318 Tryz.f318 (.node (.node .nil 319 Tryz.f319 .nil) 320 Tryz.f320 .nil)) 321 Tryz.f321 (.node (.node (.node .nil 322 Tryz.f322 .nil) 323 Tryz.f323 .nil) 324 Tryz.f324 (.node (.node .nil 325 Tryz.f325 .nil) 326 Tryz.f326 .nil)))))) 327 Tryz.f327 (.node (.node (.node (.node (.node (.node (.node .nil 328 Tryz.f328 .nil) 329 Tryz.f329 (.node .nil 330 Tryz.f330 .nil)) 331 Tryz.f331 (.node (.node .nil 332 Tryz.f332 .nil) 333 Tryz.f333 .nil)) 334 Tryz.f334 (.node (.node (.node .nil 335 Tryz.f335 .nil) 336 Tryz.f336 (.node .nil 337 Tryz.f337 .nil)) 338 Tryz.f338 (.node (.node .nil 339 Tryz.f339 .nil) 340 Tryz.f340 .nil))) 341 Tryz.f341 (.node (.node (.node (.node .nil 342 Tryz.f342 .nil) 343 Tryz.f343 (.node .nil 344 Tryz.f344 .nil)) 345 Tryz.f345 (.node (.node .nil 346 Tryz.f346 .nil) 347 Tryz.f347 .nil)) 348 Tryz.f348 (.node (.node (.node .nil 349 Tryz.f349 .nil) 350 Tryz.f350 (.node .nil 351 Tryz.f351 .nil)) 352 Tryz.f352 (.node (.node .nil 353 Tryz.f353 .nil) 354 Tryz.f354 .nil)))) 355 Tryz.f355 (.node (.node (.node (.node (.node .nil 356 Tryz.f356 .nil) 357 Tryz.f357 (.node .nil 358 Tryz.f358 .nil)) 359 Tryz.f359 (.node (.node .nil 360 Tryz.f360 .nil) 361 Tryz.f361 .nil)) 362 Tryz.f362 (.node (.node (.node .nil 363 Tryz.f363 .nil) 364 Tryz.f364 (.node .nil 365 Tryz.f365 .nil)) 366 Tryz.f366 (.node (.node .nil 367 Tryz.f367 .nil) 368 Tryz.f368 .nil))) 369 Tryz.f369 (.node (.node (.node (.node .nil 370 Tryz.f370 .nil) 371 Tryz.f371 (.node .nil 372 Tryz.f372 .nil)) 373 Tryz.f373 (.node (.node .nil 374 Tryz.f374 .nil) 375 Tryz.f375 .nil)) 376 Tryz.f376 (.node (.node (.node .nil 377 Tryz.f377 .nil) 378 Tryz.f378 .nil) 379 Tryz.f379 (.node (.node .nil 380 Tryz.f380 .nil) 381 Tryz.f381 .nil))))) 382 Tryz.f382 (.node (.node (.node (.node (.node (.node .nil 383 Tryz.f383 .nil) 384 Tryz.f384 (.node .nil 385 Tryz.f385 .nil)) 386 Tryz.f386 (.node (.node .nil 387 Tryz.f387 .nil) 388 Tryz.f388 .nil)) 389 Tryz.f389 (.node (.node (.node .nil 390 Tryz.f390 .nil) 391 Tryz.f391 (.node .nil 392 Tryz.f392 .nil)) 393 Tryz.f393 (.node (.node .nil 394 Tryz.f394 .nil) 395 Tryz.f395 .nil))) 396 Tryz.f396 (.node (.node (.node (.node .nil 397 Tryz.f397 .nil) 398 Tryz.f398 (.node .nil 399 Tryz.f399 .nil)) 400 Tryz.f400 (.node (.node .nil 401 Tryz.f401 .nil) 402 Tryz.f402 .nil)) 403 Tryz.f403 (.node (.node (.node .nil 404 Tryz.f404 .nil) 405 Tryz.f405 .nil) 406 Tryz.f406 (.node (.node .nil 407 Tryz.f407 .nil) 408 Tryz.f408 .nil)))) 409 Tryz.f409 (.node (.node (.node (.node (.node .nil 410 Tryz.f410 .nil) 411 Tryz.f411 (.node .nil 412 Tryz.f412 .nil)) 413 Tryz.f413 (.node (.node .nil 414 Tryz.f414 .nil) 415 Tryz.f415 .nil)) 416 Tryz.f416 (.node (.node (.node .nil 417 Tryz.f417 .nil) 418 Tryz.f418 (.node .nil 419 Tryz.f419 .nil)) 420 Tryz.f420 (.node (.node .nil 421 Tryz.f421 .nil) 422 Tryz.f422 .nil))) 423 Tryz.f423 (.node (.node (.node (.node .nil 424 Tryz.f424 .nil) 425 Tryz.f425 (.node .nil 426 Tryz.f426 .nil)) 427 Tryz.f427 (.node (.node .nil 428 Tryz.f428 .nil) 429 Tryz.f429 .nil)) 430 Tryz.f430 (.node (.node (.node .nil 431 Tryz.f431 .nil) 432 Tryz.f432 .nil) 433 Tryz.f433 (.node (.node .nil 434 Tryz.f434 .nil) 435 Tryz.f435 .nil))))))))
theorem ft_ok : FTOk Tryz.prog ft := (ft_node (ft_node (ft_node (ft_node (ft_node (ft_node (ft_node (ft_node (ft_node ft_nil ft_nil Tryz.func0 nm0) (ft_node ft_nil ft_nil Tryz.func2 nm2) Tryz.func1 nm1) (ft_node (ft_node ft_nil ft_nil Tryz.func4 nm4) ft_nil Tryz.func5 nm5) Tryz.func3 nm3) (ft_node (ft_node (ft_node ft_nil ft_nil Tryz.func7 nm7) (ft_node ft_nil ft_nil Tryz.func9 nm9) Tryz.func8 nm8) (ft_node (ft_node ft_nil ft_nil Tryz.func11 nm11) ft_nil Tryz.func12 nm12) Tryz.func10 nm10) Tryz.func6 nm6) (ft_node (ft_node (ft_node (ft_node ft_nil ft_nil Tryz.func14 nm14) (ft_node ft_nil ft_nil Tryz.func16 nm16) Tryz.func15 nm15) (ft_node (ft_node ft_nil ft_nil Tryz.func18 nm18) ft_nil Tryz.func19 nm19) Tryz.func17 nm17) (ft_node (ft_node (ft_node ft_nil ft_nil Tryz.func21 nm21) (ft_node ft_nil ft_nil Tryz.func23 nm23) Tryz.func22 nm22) (ft_node (ft_node ft_nil ft_nil Tryz.func25 nm25) ft_nil Tryz.func26 nm26) Tryz.func24 nm24) Tryz.func20 nm20) Tryz.func13 nm13) (ft_node (ft_node (ft_node (ft_node (ft_node ft_nil ft_nil Tryz.func28 nm28) (ft_node ft_nil ft_nil Tryz.func30 nm30) Tryz.func29 nm29) (ft_node (ft_node ft_nil ft_nil Tryz.func32 nm32) ft_nil Tryz.func33 nm33) Tryz.func31 nm31) (ft_node (ft_node (ft_node ft_nil ft_nil Tryz.func35 nm35) (ft_node ft_nil ft_nil Tryz.func37 nm37) Tryz.func36 nm36) (ft_node (ft_node ft_nil ft_nil Tryz.func39 nm39) ft_nil Tryz.func40 nm40) Tryz.func38 nm38) Tryz.func34 nm34) (ft_node (ft_node (ft_node (ft_node ft_nil ft_nil Tryz.func42 nm42) (ft_node ft_nil ft_nil Tryz.func44 nm44) Tryz.func43 nm43) (ft_node (ft_node ft_nil ft_nil Tryz.func46 nm46) ft_nil Tryz.func47 nm47) Tryz.func45 nm45) (ft_node (ft_node (ft_node ft_nil ft_nil Tryz.func49 nm49) ft_nil Tryz.func50 nm50) (ft_node (ft_node ft_nil ft_nil Tryz.func52 nm52) ft_nil Tryz.func53 nm53) Tryz.func51 nm51) Tryz.func48 nm48) Tryz.func41 nm41) Tryz.func27 nm27) (ft_node (ft_node (ft_node (ft_node (ft_node (ft_node ft_nil ft_nil Tryz.func55 nm55) (ft_node ft_nil ft_nil Tryz.func57 nm57) Tryz.func56 nm56) (ft_node (ft_node ft_nil ft_nil Tryz.func59 nm59) ft_nil Tryz.func60 nm60) Tryz.func58 nm58) (ft_node (ft_node (ft_node ft_nil ft_nil Tryz.func62 nm62) (ft_node ft_nil ft_nil Tryz.func64 nm64) Tryz.func63 nm63) (ft_node (ft_node ft_nil ft_nil Tryz.func66 nm66) ft_nil Tryz.func67 nm67) Tryz.func65 nm65) Tryz.func61 nm61) (ft_node (ft_node (ft_node (ft_node ft_nil ft_nil Tryz.func69 nm69) (ft_node ft_nil ft_nil Tryz.func71 nm71) Tryz.func70 nm70) (ft_node (ft_node ft_nil ft_nil Tryz.func73 nm73) ft_nil Tryz.func74 nm74) Tryz.func72 nm72) (ft_node (ft_node (ft_node ft_nil ft_nil Tryz.func76 nm76) (ft_node ft_nil ft_nil Tryz.func78 nm78) Tryz.func77 nm77) (ft_node (ft_node ft_nil ft_nil Tryz.func80 nm80) ft_nil Tryz.func81 nm81) Tryz.func79 nm79) Tryz.func75 nm75) Tryz.func68 nm68) (ft_node (ft_node (ft_node (ft_node (ft_node ft_nil ft_nil Tryz.func83 nm83) (ft_node ft_nil ft_nil Tryz.func85 nm85) Tryz.func84 nm84) (ft_node (ft_node ft_nil ft_nil Tryz.func87 nm87) ft_nil Tryz.func88 nm88) Tryz.func86 nm86) (ft_node (ft_node (ft_node ft_nil ft_nil Tryz.func90 nm90) (ft_node ft_nil ft_nil Tryz.func92 nm92) Tryz.func91 nm91) (ft_node (ft_node ft_nil ft_nil Tryz.func94 nm94) ft_nil Tryz.func95 nm95) Tryz.func93 nm93) Tryz.func89 nm89) (ft_node (ft_node (ft_node (ft_node ft_nil ft_nil Tryz.func97 nm97) (ft_node ft_nil ft_nil Tryz.func99 nm99) Tryz.func98 nm98) (ft_node (ft_node ft_nil ft_nil Tryz.func101 nm101) ft_nil Tryz.func102 nm102) Tryz.func100 nm100) (ft_node (ft_node (ft_node ft_nil ft_nil Tryz.func104 nm104) ft_nil Tryz.func105 nm105) (ft_node (ft_node ft_nil ft_nil Tryz.func107 nm107) ft_nil Tryz.func108 nm108) Tryz.func106 nm106) Tryz.func103 nm103) Tryz.func96 nm96) Tryz.func82 nm82) Tryz.func54 nm54) (ft_node (ft_node (ft_node (ft_node (ft_node (ft_node (ft_node ft_nil ft_nil Tryz.func110 nm110) (ft_node ft_nil ft_nil Tryz.func112 nm112) Tryz.func111 nm111) (ft_node (ft_node ft_nil ft_nil Tryz.func114 nm114) ft_nil Tryz.func115 nm115) Tryz.func113 nm113) (ft_node (ft_node (ft_node ft_nil ft_nil Tryz.func117 nm117) (ft_node ft_nil ft_nil Tryz.func119 nm119) Tryz.func118 nm118) (ft_node (ft_node ft_nil ft_nil Tryz.func121 nm121) ft_nil Tryz.func122 nm122) Tryz.func120 nm120) Tryz.func116 nm116) (ft_node (ft_node (ft_node (ft_node ft_nil ft_nil Tryz.func124 nm124) (ft_node ft_nil ft_nil Tryz.func126 nm126) Tryz.func125 nm125) (ft_node (ft_node ft_nil ft_nil Tryz.func128 nm128) ft_nil Tryz.func129 nm129) Tryz.func127 nm127) (ft_node (ft_node (ft_node ft_nil ft_nil Tryz.func131 nm131) (ft_node ft_nil ft_nil Tryz.func133 nm133) Tryz.func132 nm132) (ft_node (ft_node ft_nil ft_nil Tryz.func135 nm135) ft_nil Tryz.func136 nm136) Tryz.func134 nm134) Tryz.func130 nm130) Tryz.func123 nm123) (ft_node (ft_node (ft_node (ft_node (ft_node ft_nil ft_nil Tryz.func138 nm138) (ft_node ft_nil ft_nil Tryz.func140 nm140) Tryz.func139 nm139) (ft_node (ft_node ft_nil ft_nil Tryz.func142 nm142) ft_nil Tryz.func143 nm143) Tryz.func141 nm141) (ft_node (ft_node (ft_node ft_nil ft_nil Tryz.func145 nm145) (ft_node ft_nil ft_nil Tryz.func147 nm147) Tryz.func146 nm146) (ft_node (ft_node ft_nil ft_nil Tryz.func149 nm149) ft_nil Tryz.func150 nm150) Tryz.func148 nm148) Tryz.func144 nm144) (ft_node (ft_node (ft_node (ft_node ft_nil ft_nil Tryz.func152 nm152) (ft_node ft_nil ft_nil Tryz.func154 nm154) Tryz.func153 nm153) (ft_node (ft_node ft_nil ft_nil Tryz.func156 nm156) ft_nil Tryz.func157 nm157) Tryz.func155 nm155) (ft_node (ft_node (ft_node ft_nil ft_nil Tryz.func159 nm159) ft_nil Tryz.func160 nm160) (ft_node (ft_node ft_nil ft_nil Tryz.func162 nm162) ft_nil Tryz.func163 nm163) Tryz.func161 nm161) Tryz.func158 nm158) Tryz.func151 nm151) Tryz.func137 nm137) (ft_node (ft_node (ft_node (ft_node (ft_node (ft_node ft_nil ft_nil Tryz.func165 nm165) (ft_node ft_nil ft_nil Tryz.func167 nm167) Tryz.func166 nm166) (ft_node (ft_node ft_nil ft_nil Tryz.func169 nm169) ft_nil Tryz.func170 nm170) Tryz.func168 nm168) (ft_node (ft_node (ft_node ft_nil ft_nil Tryz.func172 nm172) (ft_node ft_nil ft_nil Tryz.func174 nm174) Tryz.func173 nm173) (ft_node (ft_node ft_nil ft_nil Tryz.func176 nm176) ft_nil Tryz.func177 nm177) Tryz.func175 nm175) Tryz.func171 nm171) (ft_node (ft_node (ft_node (ft_node ft_nil ft_nil Tryz.func179 nm179) (ft_node ft_nil ft_nil Tryz.func181 nm181) Tryz.func180 nm180) (ft_node (ft_node ft_nil ft_nil Tryz.func183 nm183) ft_nil Tryz.func184 nm184) Tryz.func182 nm182) (ft_node (ft_node (ft_node ft_nil ft_nil Tryz.func186 nm186) ft_nil Tryz.func187 nm187) (ft_node (ft_node ft_nil ft_nil Tryz.func189 nm189) ft_nil Tryz.func190 nm190) Tryz.func188 nm188) Tryz.func185 nm185) Tryz.func178 nm178) (ft_node (ft_node (ft_node (ft_node (ft_node ft_nil ft_nil Tryz.func192 nm192) (ft_node ft_nil ft_nil Tryz.func194 nm194) Tryz.func193 nm193) (ft_node (ft_node ft_nil ft_nil Tryz.func196 nm196) ft_nil Tryz.func197 nm197) Tryz.func195 nm195) (ft_node (ft_node (ft_node ft_nil ft_nil Tryz.func199 nm199) (ft_node ft_nil ft_nil Tryz.func201 nm201) Tryz.func200 nm200) (ft_node (ft_node ft_nil ft_nil Tryz.func203 nm203) ft_nil Tryz.func204 nm204) Tryz.func202 nm202) Tryz.func198 nm198) (ft_node (ft_node (ft_node (ft_node ft_nil ft_nil Tryz.func206 nm206) (ft_node ft_nil ft_nil Tryz.func208 nm208) Tryz.func207 nm207) (ft_node (ft_node ft_nil ft_nil Tryz.func210 nm210) ft_nil Tryz.func211 nm211) Tryz.func209 nm209) (ft_node (ft_node (ft_node ft_nil ft_nil Tryz.func213 nm213) ft_nil Tryz.func214 nm214) (ft_node (ft_node ft_nil ft_nil Tryz.func216 nm216) ft_nil Tryz.func217 nm217) Tryz.func215 nm215) Tryz.func212 nm212) Tryz.func205 nm205) Tryz.func191 nm191) Tryz.func164 nm164) Tryz.func109 nm109) (ft_node (ft_node (ft_node (ft_node (ft_node (ft_node (ft_node (ft_node ft_nil ft_nil Tryz.func219 nm219) (ft_node ft_nil ft_nil Tryz.func221 nm221) Tryz.func220 nm220) (ft_node (ft_node ft_nil ft_nil Tryz.func223 nm223) ft_nil Tryz.func224 nm224) Tryz.func222 nm222) (ft_node (ft_node (ft_node ft_nil ft_nil Tryz.func226 nm226) (ft_node ft_nil ft_nil Tryz.func228 nm228) Tryz.func227 nm227) (ft_node (ft_node ft_nil ft_nil Tryz.func230 nm230) ft_nil Tryz.func231 nm231) Tryz.func229 nm229) Tryz.func225 nm225) (ft_node (ft_node (ft_node (ft_node ft_nil ft_nil Tryz.func233 nm233) (ft_node ft_nil ft_nil Tryz.func235 nm235) Tryz.func234 nm234) (ft_node (ft_node ft_nil ft_nil Tryz.func237 nm237) ft_nil Tryz.func238 nm238) Tryz.func236 nm236) (ft_node (ft_node (ft_node ft_nil ft_nil Tryz.func240 nm240) (ft_node ft_nil ft_nil Tryz.func242 nm242) Tryz.func241 nm241) (ft_node (ft_node ft_nil ft_nil Tryz.func244 nm244) ft_nil Tryz.func245 nm245) Tryz.func243 nm243) Tryz.func239 nm239) Tryz.func232 nm232) (ft_node (ft_node (ft_node (ft_node (ft_node ft_nil ft_nil Tryz.func247 nm247) (ft_node ft_nil ft_nil Tryz.func249 nm249) Tryz.func248 nm248) (ft_node (ft_node ft_nil ft_nil Tryz.func251 nm251) ft_nil Tryz.func252 nm252) Tryz.func250 nm250) (ft_node (ft_node (ft_node ft_nil ft_nil Tryz.func254 nm254) (ft_node ft_nil ft_nil Tryz.func256 nm256) Tryz.func255 nm255) (ft_node (ft_node ft_nil ft_nil Tryz.func258 nm258) ft_nil Tryz.func259 nm259) Tryz.func257 nm257) Tryz.func253 nm253) (ft_node (ft_node (ft_node (ft_node ft_nil ft_nil Tryz.func261 nm261) (ft_node ft_nil ft_nil Tryz.func263 nm263) Tryz.func262 nm262) (ft_node (ft_node ft_nil ft_nil Tryz.func265 nm265) ft_nil Tryz.func266 nm266) Tryz.func264 nm264) (ft_node (ft_node (ft_node ft_nil ft_nil Tryz.func268 nm268) ft_nil Tryz.func269 nm269) (ft_node (ft_node ft_nil ft_nil Tryz.func271 nm271) ft_nil Tryz.func272 nm272) Tryz.func270 nm270) Tryz.func267 nm267) Tryz.func260 nm260) Tryz.func246 nm246) (ft_node (ft_node (ft_node (ft_node (ft_node (ft_node ft_nil ft_nil Tryz.func274 nm274) (ft_node ft_nil ft_nil Tryz.func276 nm276) Tryz.func275 nm275) (ft_node (ft_node ft_nil ft_nil Tryz.func278 nm278) ft_nil Tryz.func279 nm279) Tryz.func277 nm277) (ft_node (ft_node (ft_node ft_nil ft_nil Tryz.func281 nm281) (ft_node ft_nil ft_nil Tryz.func283 nm283) Tryz.func282 nm282) (ft_node (ft_node ft_nil ft_nil Tryz.func285 nm285) ft_nil Tryz.func286 nm286) Tryz.func284 nm284) Tryz.func280 nm280) (ft_node (ft_node (ft_node (ft_node ft_nil ft_nil Tryz.func288 nm288) (ft_node ft_nil ft_nil Tryz.func290 nm290) Tryz.func289 nm289) (ft_node (ft_node ft_nil ft_nil Tryz.func292 nm292) ft_nil Tryz.func293 nm293) Tryz.func291 nm291) (ft_node (ft_node (ft_node ft_nil ft_nil Tryz.func295 nm295) ft_nil Tryz.func296 nm296) (ft_node (ft_node ft_nil ft_nil Tryz.func298 nm298) ft_nil Tryz.func299 nm299) Tryz.func297 nm297) Tryz.func294 nm294) Tryz.func287 nm287) (ft_node (ft_node (ft_node (ft_node (ft_node ft_nil ft_nil Tryz.func301 nm301) (ft_node ft_nil ft_nil Tryz.func303 nm303) Tryz.func302 nm302) (ft_node (ft_node ft_nil ft_nil Tryz.func305 nm305) ft_nil Tryz.func306 nm306) Tryz.func304 nm304) (ft_node (ft_node (ft_node ft_nil ft_nil Tryz.func308 nm308) (ft_node ft_nil ft_nil Tryz.func310 nm310) Tryz.func309 nm309) (ft_node (ft_node ft_nil ft_nil Tryz.func312 nm312) ft_nil Tryz.func313 nm313) Tryz.func311 nm311) Tryz.func307 nm307) (ft_node (ft_node (ft_node (ft_node ft_nil ft_nil Tryz.func315 nm315) (ft_node ft_nil ft_nil Tryz.func317 nm317) Tryz.func316 nm316) (ft_node (ft_node ft_nil ft_nil Tryz.func319 nm319) ft_nil Tryz.func320 nm320) Tryz.func318 nm318) (ft_node (ft_node (ft_node ft_nil ft_nil Tryz.func322 nm322) ft_nil Tryz.func323 nm323) (ft_node (ft_node ft_nil ft_nil Tryz.func325 nm325) ft_nil Tryz.func326 nm326) Tryz.func324 nm324) Tryz.func321 nm321) Tryz.func314 nm314) Tryz.func300 nm300) Tryz.func273 nm273) (ft_node (ft_node (ft_node (ft_node (ft_node (ft_node (ft_node ft_nil ft_nil Tryz.func328 nm328) (ft_node ft_nil ft_nil Tryz.func330 nm330) Tryz.func329 nm329) (ft_node (ft_node ft_nil ft_nil Tryz.func332 nm332) ft_nil Tryz.func333 nm333) Tryz.func331 nm331) (ft_node (ft_node (ft_node ft_nil ft_nil Tryz.func335 nm335) (ft_node ft_nil ft_nil Tryz.func337 nm337) Tryz.func336 nm336) (ft_node (ft_node ft_nil ft_nil Tryz.func339 nm339) ft_nil Tryz.func340 nm340) Tryz.func338 nm338) Tryz.func334 nm334) (ft_node (ft_node (ft_node (ft_node ft_nil ft_nil Tryz.func342 nm342) (ft_node ft_nil ft_nil Tryz.func344 nm344) Tryz.func343 nm343) (ft_node (ft_node ft_nil ft_nil Tryz.func346 nm346) ft_nil Tryz.func347 nm347) Tryz.func345 nm345) (ft_node (ft_node (ft_node ft_nil ft_nil Tryz.func349 nm349) (ft_node ft_nil ft_nil Tryz.func351 nm351) Tryz.func350 nm350) (ft_node (ft_node ft_nil ft_nil Tryz.func353 nm353) ft_nil Tryz.func354 nm354) Tryz.func352 nm352) Tryz.func348 nm348) Tryz.func341 nm341) (ft_node (ft_node (ft_node (ft_node (ft_node ft_nil ft_nil Tryz.func356 nm356) (ft_node ft_nil ft_nil Tryz.func358 nm358) Tryz.func357 nm357) (ft_node (ft_node ft_nil ft_nil Tryz.func360 nm360) ft_nil Tryz.func361 nm361) Tryz.func359 nm359) (ft_node (ft_node (ft_node ft_nil ft_nil Tryz.func363 nm363) (ft_node ft_nil ft_nil Tryz.func365 nm365) Tryz.func364 nm364) (ft_node (ft_node ft_nil ft_nil Tryz.func367 nm367) ft_nil Tryz.func368 nm368) Tryz.func366 nm366) Tryz.func362 nm362) (ft_node (ft_node (ft_node (ft_node ft_nil ft_nil Tryz.func370 nm370) (ft_node ft_nil ft_nil Tryz.func372 nm372) Tryz.func371 nm371) (ft_node (ft_node ft_nil ft_nil Tryz.func374 nm374) ft_nil Tryz.func375 nm375) Tryz.func373 nm373) (ft_node (ft_node (ft_node ft_nil ft_nil Tryz.func377 nm377) ft_nil Tryz.func378 nm378) (ft_node (ft_node ft_nil ft_nil Tryz.func380 nm380) ft_nil Tryz.func381 nm381) Tryz.func379 nm379) Tryz.func376 nm376) Tryz.func369 nm369) Tryz.func355 nm355) (ft_node (ft_node (ft_node (ft_node (ft_node (ft_node ft_nil ft_nil Tryz.func383 nm383) (ft_node ft_nil ft_nil Tryz.func385 nm385) Tryz.func384 nm384) (ft_node (ft_node ft_nil ft_nil Tryz.func387 nm387) ft_nil Tryz.func388 nm388) Tryz.func386 nm386) (ft_node (ft_node (ft_node ft_nil ft_nil Tryz.func390 nm390) (ft_node ft_nil ft_nil Tryz.func392 nm392) Tryz.func391 nm391) (ft_node (ft_node ft_nil ft_nil Tryz.func394 nm394) ft_nil Tryz.func395 nm395) Tryz.func393 nm393) Tryz.func389 nm389) (ft_node (ft_node (ft_node (ft_node ft_nil ft_nil Tryz.func397 nm397) (ft_node ft_nil ft_nil Tryz.func399 nm399) Tryz.func398 nm398) (ft_node (ft_node ft_nil ft_nil Tryz.func401 nm401) ft_nil Tryz.func402 nm402) Tryz.func400 nm400) (ft_node (ft_node (ft_node ft_nil ft_nil Tryz.func404 nm404) ft_nil Tryz.func405 nm405) (ft_node (ft_node ft_nil ft_nil Tryz.func407 nm407) ft_nil Tryz.func408 nm408) Tryz.func406 nm406) Tryz.func403 nm403) Tryz.func396 nm396) (ft_node (ft_node (ft_node (ft_node (ft_node ft_nil ft_nil Tryz.func410 nm410) (ft_node ft_nil ft_nil Tryz.func412 nm412) Tryz.func411 nm411) (ft_node (ft_node ft_nil ft_nil Tryz.func414 nm414) ft_nil Tryz.func415 nm415) Tryz.func413 nm413) (ft_node (ft_node (ft_node ft_nil ft_nil Tryz.func417 nm417) (ft_node ft_nil ft_nil Tryz.func419 nm419) Tryz.func418 nm418) (ft_node (ft_node ft_nil ft_nil Tryz.func421 nm421) ft_nil Tryz.func422 nm422) Tryz.func420 nm420) Tryz.func416 nm416) (ft_node (ft_node (ft_node (ft_node ft_nil ft_nil Tryz.func424 nm424) (ft_node ft_nil ft_nil Tryz.func426 nm426) Tryz.func425 nm425) (ft_node (ft_node ft_nil ft_nil Tryz.func428 nm428) ft_nil Tryz.func429 nm429) Tryz.func427 nm427) (ft_node (ft_node (ft_node ft_nil ft_nil Tryz.func431 nm431) ft_nil Tryz.func432 nm432) (ft_node (ft_node ft_nil ft_nil Tryz.func434 nm434) ft_nil Tryz.func435 nm435) Tryz.func433 nm433) Tryz.func430 nm430) Tryz.func423 nm423) Tryz.func409 nm409) Tryz.func382 nm382) Tryz.func327 nm327) Tryz.func218 nm218)
theorem mix_ok : Tryz.prog.follows .mixedOrders = true := by kernel_rfl
noncomputable def envC (Δ : List Eng.CS) (wr : Bool) (cuts : List (Nat × Nat)) : Env := { T := tab, Γ := [], Δ := Δ, FT := ft, inv := fun _ _ _ => none, wr := fun _ => wr, cut := R.inL cuts }
theorem envC_ok {Δ : List Eng.CS} {wr : Bool} {cuts : List (Nat × Nat)} (h' : CSsOk Tryz.prog Δ) : EnvOk Tryz.prog (envC Δ wr cuts) := ⟨mix_ok, tab_ok, specs_nil, h', ft_ok⟩
end Go.Proofs.YtbbhfadmfadklaaGreat
