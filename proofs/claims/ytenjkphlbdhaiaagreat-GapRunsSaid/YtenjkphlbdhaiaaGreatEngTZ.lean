/-
  Texts that the law leans on. Nothing here is trusted.
-/
import Derived.Test.YtenjkphlbdhaiaaGreatEngRd
import Derived.Test.YtenjkphlbdhaiaaGreatProg
set_option linter.unusedVariables false
set_option linter.unusedSimpArgs false
namespace Go.Proofs.YtenjkphlbdhaiaaGreat
open Go Go.Eng
def t1 : TI := ⟨.func, 1, 8, [.nilFunc], [.func], []⟩
def t2 : TI := ⟨.int .i64, 1, 8, [.int .i64 0], [.int .i64], []⟩
def t3 : TI := ⟨.int .i64, 1, 8, [.int .i64 0], [.int .i64], []⟩
def t4 : TI := ⟨.bool, 1, 1, [.bool false], [.bool], []⟩
def t5 : TI := ⟨.int .u8, 1, 1, [.int .u8 0], [.int .u8], []⟩
def t6 : TI := ⟨.int .u8, 1, 1, [.int .u8 0], [.int .u8], []⟩
def t7 : TI := ⟨.struct [(0, 2), (1, 3), (2, 4), (3, 6)], 4, 24, [.int .i64 0, .int .i64 0, .bool false, .int .u8 0], [.int .i64, .int .i64, .bool, .int .u8], []⟩
def t8 : TI := ⟨.struct [(0, 2), (1, 3), (2, 4), (3, 6)], 4, 24, [.int .i64 0, .int .i64 0, .bool false, .int .u8 0], [.int .i64, .int .i64, .bool, .int .u8], []⟩
def t9 : TI := ⟨.str, 1, 16, [.string ⟨#[]⟩], [.str], []⟩
def t10 : TI := ⟨.str, 1, 16, [.string ⟨#[]⟩], [.str], []⟩
def t11 : TI := ⟨.str, 1, 16, [.string ⟨#[]⟩], [.str], []⟩
def t12 : TI := ⟨.int .u64, 1, 8, [.int .u64 0], [.int .u64], []⟩
def t13 : TI := ⟨.struct [(0, 9), (1, 12)], 2, 24, [.string ⟨#[]⟩, .int .u64 0], [.str, .int .u64], []⟩
def t14 : TI := ⟨.struct [(0, 9), (1, 12)], 2, 24, [.string ⟨#[]⟩, .int .u64 0], [.str, .int .u64], []⟩
def t15 : TI := ⟨.ptr 139, 1, 8, [.pointer none], [.ptr 139], []⟩
def t16 : TI := ⟨.ptr 142, 1, 8, [.pointer none], [.ptr 142], []⟩
def t17 : TI := ⟨.ptr 150, 1, 8, [.pointer none], [.ptr 150], []⟩
def t18 : TI := ⟨.struct [(0, 17)], 1, 8, [.pointer none], [.ptr 150], []⟩
def t19 : TI := ⟨.struct [(0, 17)], 1, 8, [.pointer none], [.ptr 150], []⟩
def t21 : TI := ⟨.int .i32, 1, 4, [.int .i32 0], [.int .i32], []⟩
def t22 : TI := ⟨.slice 34, 1, 24, [.slice none 0 0], [.slice 34], []⟩
def t23 : TI := ⟨.ptr 41, 1, 8, [.pointer none], [.ptr 41], []⟩
def t24 : TI := ⟨.int .i64, 1, 8, [.int .i64 0], [.int .i64], []⟩
def t26 : TI := ⟨.func, 1, 8, [.nilFunc], [.func], []⟩
def t27 : TI := ⟨.slice 9, 1, 24, [.slice none 0 0], [.slice 9], []⟩
def t28 : TI := ⟨.struct [(0, 27), (1, 3), (2, 3)], 3, 40, [.slice none 0 0, .int .i64 0, .int .i64 0], [.slice 9, .int .i64, .int .i64], []⟩
def t29 : TI := ⟨.struct [(0, 27), (1, 3), (2, 3)], 3, 40, [.slice none 0 0, .int .i64 0, .int .i64 0], [.slice 9, .int .i64, .int .i64], []⟩
def t31 : TI := ⟨.func, 1, 8, [.nilFunc], [.func], []⟩
def t32 : TI := ⟨.func, 1, 8, [.nilFunc], [.func], []⟩
def t33 : TI := ⟨.struct [(0, 5), (1, 3), (2, 3), (3, 27)], 4, 48, [.int .u8 0, .int .i64 0, .int .i64 0, .slice none 0 0], [.int .u8, .int .i64, .int .i64, .slice 9], []⟩
def t34 : TI := ⟨.struct [(0, 5), (1, 3), (2, 3), (3, 27)], 4, 48, [.int .u8 0, .int .i64 0, .int .i64 0, .slice none 0 0], [.int .u8, .int .i64, .int .i64, .slice 9], []⟩
def t35 : TI := ⟨.func, 1, 8, [.nilFunc], [.func], []⟩
def t37 : TI := ⟨.func, 1, 8, [.nilFunc], [.func], []⟩
def t38 : TI := ⟨.func, 1, 8, [.nilFunc], [.func], []⟩
def t39 : TI := ⟨.func, 1, 8, [.nilFunc], [.func], []⟩
def t40 : TI := ⟨.struct [(0, 3), (1, 27), (2, 3), (3, 3)], 4, 48, [.int .i64 0, .slice none 0 0, .int .i64 0, .int .i64 0], [.int .i64, .slice 9, .int .i64, .int .i64], []⟩
def t41 : TI := ⟨.struct [(0, 3), (1, 27), (2, 3), (3, 3)], 4, 48, [.int .i64 0, .slice none 0 0, .int .i64 0, .int .i64 0], [.int .i64, .slice 9, .int .i64, .int .i64], []⟩
def t42 : TI := ⟨.func, 1, 8, [.nilFunc], [.func], []⟩
def t43 : TI := ⟨.func, 1, 8, [.nilFunc], [.func], []⟩
def t44 : TI := ⟨.func, 1, 8, [.nilFunc], [.func], []⟩
def t45 : TI := ⟨.func, 1, 8, [.nilFunc], [.func], []⟩
def t46 : TI := ⟨.func, 1, 8, [.nilFunc], [.func], []⟩
def t47 : TI := ⟨.func, 1, 8, [.nilFunc], [.func], []⟩
def t48 : TI := ⟨.func, 1, 8, [.nilFunc], [.func], []⟩
def t50 : TI := ⟨.func, 1, 8, [.nilFunc], [.func], []⟩
def t52 : TI := ⟨.func, 1, 8, [.nilFunc], [.func], []⟩
def t53 : TI := ⟨.func, 1, 8, [.nilFunc], [.func], []⟩
def t54 : TI := ⟨.func, 1, 8, [.nilFunc], [.func], []⟩
def t55 : TI := ⟨.func, 1, 8, [.nilFunc], [.func], []⟩
def t57 : TI := ⟨.func, 1, 8, [.nilFunc], [.func], []⟩
def t58 : TI := ⟨.func, 1, 8, [.nilFunc], [.func], []⟩
def t59 : TI := ⟨.func, 1, 8, [.nilFunc], [.func], []⟩
def t61 : TI := ⟨.func, 1, 8, [.nilFunc], [.func], []⟩
def t62 : TI := ⟨.func, 1, 8, [.nilFunc], [.func], []⟩
def t63 : TI := ⟨.slice 3, 1, 24, [.slice none 0 0], [.slice 3], []⟩
def t65 : TI := ⟨.func, 1, 8, [.nilFunc], [.func], []⟩
def t66 : TI := ⟨.func, 1, 8, [.nilFunc], [.func], []⟩
def t67 : TI := ⟨.func, 1, 8, [.nilFunc], [.func], []⟩
def t68 : TI := ⟨.func, 1, 8, [.nilFunc], [.func], []⟩
def t70 : TI := ⟨.func, 1, 8, [.nilFunc], [.func], []⟩
def t71 : TI := ⟨.func, 1, 8, [.nilFunc], [.func], []⟩
def t72 : TI := ⟨.func, 1, 8, [.nilFunc], [.func], []⟩
def t73 : TI := ⟨.func, 1, 8, [.nilFunc], [.func], []⟩
def t74 : TI := ⟨.func, 1, 8, [.nilFunc], [.func], []⟩
def t75 : TI := ⟨.func, 1, 8, [.nilFunc], [.func], []⟩
def t76 : TI := ⟨.func, 1, 8, [.nilFunc], [.func], []⟩
def t77 : TI := ⟨.func, 1, 8, [.nilFunc], [.func], []⟩
def t78 : TI := ⟨.func, 1, 8, [.nilFunc], [.func], []⟩
def t79 : TI := ⟨.ptr 82, 1, 8, [.pointer none], [.ptr 82], []⟩
def t80 : TI := ⟨.slice 5, 1, 24, [.slice none 0 0], [.slice 5], []⟩
def t81 : TI := ⟨.struct [(0, 79), (1, 80)], 2, 32, [.pointer none, .slice none 0 0], [.ptr 82, .slice 5], []⟩
def t82 : TI := ⟨.struct [(0, 79), (1, 80)], 2, 32, [.pointer none, .slice none 0 0], [.ptr 82, .slice 5], []⟩
def t86 : TI := ⟨.func, 1, 8, [.nilFunc], [.func], []⟩
def t87 : TI := ⟨.func, 1, 8, [.nilFunc], [.func], []⟩
def t88 : TI := ⟨.func, 1, 8, [.nilFunc], [.func], []⟩
def t89 : TI := ⟨.func, 1, 8, [.nilFunc], [.func], []⟩
def t90 : TI := ⟨.func, 1, 8, [.nilFunc], [.func], []⟩
def t91 : TI := ⟨.func, 1, 8, [.nilFunc], [.func], []⟩
def t92 : TI := ⟨.func, 1, 8, [.nilFunc], [.func], []⟩
def t93 : TI := ⟨.func, 1, 8, [.nilFunc], [.func], []⟩
def t94 : TI := ⟨.ptr 5, 1, 8, [.pointer none], [.ptr 5], []⟩
def t95 : TI := ⟨.func, 1, 8, [.nilFunc], [.func], []⟩
def t96 : TI := ⟨.slice 21, 1, 24, [.slice none 0 0], [.slice 21], []⟩
def t98 : TI := ⟨.func, 1, 8, [.nilFunc], [.func], []⟩
def t99 : TI := ⟨.func, 1, 8, [.nilFunc], [.func], []⟩
def t100 : TI := ⟨.struct [(0, 27), (1, 80), (2, 4)], 3, 56, [.slice none 0 0, .slice none 0 0, .bool false], [.slice 9, .slice 5, .bool], []⟩
def t101 : TI := ⟨.struct [(0, 27), (1, 80), (2, 4)], 3, 56, [.slice none 0 0, .slice none 0 0, .bool false], [.slice 9, .slice 5, .bool], []⟩
def t102 : TI := ⟨.func, 1, 8, [.nilFunc], [.func], []⟩
def t103 : TI := ⟨.func, 1, 8, [.nilFunc], [.func], []⟩
def t104 : TI := ⟨.func, 1, 8, [.nilFunc], [.func], []⟩
def t105 : TI := ⟨.func, 1, 8, [.nilFunc], [.func], []⟩
def t106 : TI := ⟨.func, 1, 8, [.nilFunc], [.func], []⟩
def t108 : TI := ⟨.func, 1, 8, [.nilFunc], [.func], []⟩
def t109 : TI := ⟨.func, 1, 8, [.nilFunc], [.func], []⟩
def t111 : TI := ⟨.func, 1, 8, [.nilFunc], [.func], []⟩
def t112 : TI := ⟨.func, 1, 8, [.nilFunc], [.func], []⟩
def t113 : TI := ⟨.ptr 101, 1, 8, [.pointer none], [.ptr 101], []⟩
def t114 : TI := ⟨.func, 1, 8, [.nilFunc], [.func], []⟩
def t115 : TI := ⟨.func, 1, 8, [.nilFunc], [.func], []⟩
def t116 : TI := ⟨.func, 1, 8, [.nilFunc], [.func], []⟩
def t117 : TI := ⟨.func, 1, 8, [.nilFunc], [.func], []⟩
def t118 : TI := ⟨.func, 1, 8, [.nilFunc], [.func], []⟩
def t119 : TI := ⟨.func, 1, 8, [.nilFunc], [.func], []⟩
def t120 : TI := ⟨.func, 1, 8, [.nilFunc], [.func], []⟩
def t121 : TI := ⟨.func, 1, 8, [.nilFunc], [.func], []⟩
def t122 : TI := ⟨.func, 1, 8, [.nilFunc], [.func], []⟩
def t123 : TI := ⟨.slice 133, 1, 24, [.slice none 0 0], [.slice 133], []⟩
def t124 : TI := ⟨.func, 1, 8, [.nilFunc], [.func], []⟩
def t125 : TI := ⟨.func, 1, 8, [.nilFunc], [.func], []⟩
def t127 : TI := ⟨.func, 1, 8, [.nilFunc], [.func], []⟩
def t128 : TI := ⟨.int .u64, 1, 8, [.int .u64 0], [.int .u64], []⟩
def t129 : TI := ⟨.func, 1, 8, [.nilFunc], [.func], []⟩
def t130 : TI := ⟨.func, 1, 8, [.nilFunc], [.func], []⟩
def t131 : TI := ⟨.func, 1, 8, [.nilFunc], [.func], []⟩
def t132 : TI := ⟨.struct [(0, 21), (1, 21)], 2, 8, [.int .i32 0, .int .i32 0], [.int .i32, .int .i32], [.int .i32, .int .i32]⟩
def t133 : TI := ⟨.struct [(0, 21), (1, 21)], 2, 8, [.int .i32 0, .int .i32 0], [.int .i32, .int .i32], [.int .i32, .int .i32]⟩
def t134 : TI := ⟨.func, 1, 8, [.nilFunc], [.func], []⟩
def t135 : TI := ⟨.struct [(0, 3), (1, 5), (2, 5), (3, 21)], 4, 16, [.int .i64 0, .int .u8 0, .int .u8 0, .int .i32 0], [.int .i64, .int .u8, .int .u8, .int .i32], [.int .i64, .int .u8, .int .u8, .int .i32]⟩
def t136 : TI := ⟨.struct [(0, 3), (1, 5), (2, 5), (3, 21)], 4, 16, [.int .i64 0, .int .u8 0, .int .u8 0, .int .i32 0], [.int .i64, .int .u8, .int .u8, .int .i32], [.int .i64, .int .u8, .int .u8, .int .i32]⟩
def t137 : TI := ⟨.func, 1, 8, [.nilFunc], [.func], []⟩
def t138 : TI := ⟨.struct [(0, 17), (1, 17), (2, 17), (3, 9)], 4, 40, [.pointer none, .pointer none, .pointer none, .string ⟨#[]⟩], [.ptr 150, .ptr 150, .ptr 150, .str], []⟩
def t139 : TI := ⟨.struct [(0, 17), (1, 17), (2, 17), (3, 9)], 4, 40, [.pointer none, .pointer none, .pointer none, .string ⟨#[]⟩], [.ptr 150, .ptr 150, .ptr 150, .str], []⟩
def t143 : TI := ⟨.int .u32, 1, 4, [.int .u32 0], [.int .u32], []⟩
def t144 : TI := ⟨.int .u8, 1, 1, [.int .u8 0], [.int .u8], []⟩
def t145 : TI := ⟨.int .u8, 1, 1, [.int .u8 0], [.int .u8], []⟩
def t146 : TI := ⟨.func, 1, 8, [.nilFunc], [.func], []⟩
def t147 : TI := ⟨.int .i32, 1, 4, [.int .i32 0], [.int .i32], []⟩
def t148 : TI := ⟨.int .i32, 1, 4, [.int .i32 0], [.int .i32], []⟩
def t149 : TI := ⟨.struct [(0, 12), (1, 12), (2, 143), (3, 144), (4, 5), (5, 5), (6, 145), (7, 146), (8, 94), (9, 147), (10, 148)], 11, 48, [.int .u64 0, .int .u64 0, .int .u32 0, .int .u8 0, .int .u8 0, .int .u8 0, .int .u8 0, .nilFunc, .pointer none, .int .i32 0, .int .i32 0], [.int .u64, .int .u64, .int .u32, .int .u8, .int .u8, .int .u8, .int .u8, .func, .ptr 5, .int .i32, .int .i32], []⟩
def t150 : TI := ⟨.struct [(0, 12), (1, 12), (2, 143), (3, 144), (4, 5), (5, 5), (6, 145), (7, 146), (8, 94), (9, 147), (10, 148)], 11, 48, [.int .u64 0, .int .u64 0, .int .u32 0, .int .u8 0, .int .u8 0, .int .u8 0, .int .u8 0, .nilFunc, .pointer none, .int .i32 0, .int .i32 0], [.int .u64, .int .u64, .int .u32, .int .u8, .int .u8, .int .u8, .int .u8, .func, .ptr 5, .int .i32, .int .i32], []⟩
def tab : Tab := (.node (.node (.node (.node (.node (.node (.node (.node .nil 1 t1 .nil) 2 t2 .nil) 3 t3 (.node .nil 4 t4 .nil)) 5 t5 (.node (.node .nil 6 t6 .nil) 7 t7 (.node .nil 8 t8 .nil))) 9 t9 (.node (.node (.node .nil 10 t10 .nil) 11 t11 (.node .nil 12 t12 .nil)) 13 t13 (.node (.node .nil 14 t14 .nil) 15 t15 (.node .nil 16 t16 .nil)))) 17 t17 (.node (.node (.node (.node .nil 18 t18 .nil) 19 t19 (.node .nil 21 t21 .nil)) 22 t22 (.node (.node .nil 23 t23 .nil) 24 t24 (.node .nil 26 t26 .nil))) 27 t27 (.node (.node (.node .nil 28 t28 .nil) 29 t29 (.node .nil 31 t31 .nil)) 32 t32 (.node (.node .nil 33 t33 .nil) 34 t34 (.node .nil 35 t35 .nil))))) 37 t37 (.node (.node (.node (.node (.node (.node .nil 38 t38 .nil) 39 t39 .nil) 40 t40 (.node .nil 41 t41 .nil)) 42 t42 (.node (.node .nil 43 t43 .nil) 44 t44 (.node .nil 45 t45 .nil))) 46 t46 (.node (.node (.node .nil 47 t47 .nil) 48 t48 (.node .nil 50 t50 .nil)) 52 t52 (.node (.node .nil 53 t53 .nil) 54 t54 (.node .nil 55 t55 .nil)))) 57 t57 (.node (.node (.node (.node .nil 58 t58 .nil) 59 t59 (.node .nil 61 t61 .nil)) 62 t62 (.node (.node .nil 63 t63 .nil) 65 t65 (.node .nil 66 t66 .nil))) 67 t67 (.node (.node (.node .nil 68 t68 .nil) 70 t70 (.node .nil 71 t71 .nil)) 72 t72 (.node (.node .nil 73 t73 .nil) 74 t74 (.node .nil 75 t75 .nil)))))) 76 t76 (.node (.node (.node (.node (.node (.node (.node .nil 77 t77 .nil) 78 t78 .nil) 79 t79 (.node .nil 80 t80 .nil)) 81 t81 (.node (.node .nil 82 t82 .nil) 86 t86 (.node .nil 87 t87 .nil))) 88 t88 (.node (.node (.node .nil 89 t89 .nil) 90 t90 (.node .nil 91 t91 .nil)) 92 t92 (.node (.node .nil 93 t93 .nil) 94 t94 (.node .nil 95 t95 .nil)))) 96 t96 (.node (.node (.node (.node .nil 98 t98 .nil) 99 t99 (.node .nil 100 t100 .nil)) 101 t101 (.node (.node .nil 102 t102 .nil) 103 t103 (.node .nil 104 t104 .nil))) 105 t105 (.node (.node (.node .nil 106 t106 .nil) 108 t108 (.node .nil 109 t109 .nil)) 111 t111 (.node (.node .nil 112 t112 .nil) 113 t113 (.node .nil 114 t114 .nil))))) 115 t115 (.node (.node (.node (.node (.node .nil 116 t116 .nil) 117 t117 (.node .nil 118 t118 .nil)) 119 t119 (.node (.node .nil 120 t120 .nil) 121 t121 (.node .nil 122 t122 .nil))) 123 t123 (.node (.node (.node .nil 124 t124 .nil) 125 t125 (.node .nil 127 t127 .nil)) 128 t128 (.node (.node .nil 129 t129 .nil) 130 t130 (.node .nil 131 t131 .nil)))) 132 t132 (.node (.node (.node (.node .nil 133 t133 .nil) 134 t134 (.node .nil 135 t135 .nil)) 136 t136 (.node (.node .nil 137 t137 .nil) 138 t138 (.node .nil 139 t139 .nil))) 143 t143 (.node (.node (.node .nil 144 t144 .nil) 145 t145 (.node .nil 146 t146 .nil)) 147 t147 (.node (.node .nil 148 t148 .nil) 149 t149 (.node .nil 150 t150 .nil)))))))
theorem tab_b : tabB Tryz.prog tab = true := by kernel_rfl
theorem tab_ok : TabOk Tryz.prog tab := tabOk_of tab_b
theorem nm0 : (Tryz.f0.name == "runtime.NumGoroutine") = false := by kernel_rfl
theorem nm1 : (Tryz.f1.name == "runtime.NumGoroutine") = false := by kernel_rfl
theorem nm2 : (Tryz.f2.name == "runtime.NumGoroutine") = false := by kernel_rfl
theorem nm3 : (Tryz.f3.name == "runtime.NumGoroutine") = false := by kernel_rfl
theorem nm4 : (Tryz.f4.name == "runtime.NumGoroutine") = false := by kernel_rfl
theorem nm5 : (Tryz.f5.name == "runtime.NumGoroutine") = false := by kernel_rfl
theorem nm6 : (Tryz.f6.name == "runtime.NumGoroutine") = false := by kernel_rfl
theorem nm7 : (Tryz.f7.name == "runtime.NumGoroutine") = false := by kernel_rfl
theorem nm8 : (Tryz.f8.name == "runtime.NumGoroutine") = false := by kernel_rfl
theorem nm9 : (Tryz.f9.name == "runtime.NumGoroutine") = false := by kernel_rfl
theorem nm10 : (Tryz.f10.name == "runtime.NumGoroutine") = false := by kernel_rfl
theorem nm11 : (Tryz.f11.name == "runtime.NumGoroutine") = false := by kernel_rfl
theorem nm12 : (Tryz.f12.name == "runtime.NumGoroutine") = false := by kernel_rfl
theorem nm13 : (Tryz.f13.name == "runtime.NumGoroutine") = false := by kernel_rfl
theorem nm14 : (Tryz.f14.name == "runtime.NumGoroutine") = false := by kernel_rfl
theorem nm15 : (Tryz.f15.name == "runtime.NumGoroutine") = false := by kernel_rfl
theorem nm16 : (Tryz.f16.name == "runtime.NumGoroutine") = false := by kernel_rfl
theorem nm17 : (Tryz.f17.name == "runtime.NumGoroutine") = false := by kernel_rfl
theorem nm18 : (Tryz.f18.name == "runtime.NumGoroutine") = false := by kernel_rfl
theorem nm19 : (Tryz.f19.name == "runtime.NumGoroutine") = false := by kernel_rfl
theorem nm20 : (Tryz.f20.name == "runtime.NumGoroutine") = false := by kernel_rfl
theorem nm21 : (Tryz.f21.name == "runtime.NumGoroutine") = false := by kernel_rfl
theorem nm22 : (Tryz.f22.name == "runtime.NumGoroutine") = false := by kernel_rfl
theorem nm23 : (Tryz.f23.name == "runtime.NumGoroutine") = false := by kernel_rfl
theorem nm24 : (Tryz.f24.name == "runtime.NumGoroutine") = false := by kernel_rfl
theorem nm25 : (Tryz.f25.name == "runtime.NumGoroutine") = false := by kernel_rfl
theorem nm26 : (Tryz.f26.name == "runtime.NumGoroutine") = false := by kernel_rfl
theorem nm27 : (Tryz.f27.name == "runtime.NumGoroutine") = false := by kernel_rfl
theorem nm28 : (Tryz.f28.name == "runtime.NumGoroutine") = false := by kernel_rfl
theorem nm29 : (Tryz.f29.name == "runtime.NumGoroutine") = false := by kernel_rfl
theorem nm30 : (Tryz.f30.name == "runtime.NumGoroutine") = false := by kernel_rfl
theorem nm31 : (Tryz.f31.name == "runtime.NumGoroutine") = false := by kernel_rfl
theorem nm32 : (Tryz.f32.name == "runtime.NumGoroutine") = false := by kernel_rfl
theorem nm33 : (Tryz.f33.name == "runtime.NumGoroutine") = false := by kernel_rfl
theorem nm34 : (Tryz.f34.name == "runtime.NumGoroutine") = false := by kernel_rfl
theorem nm35 : (Tryz.f35.name == "runtime.NumGoroutine") = false := by kernel_rfl
theorem nm36 : (Tryz.f36.name == "runtime.NumGoroutine") = false := by kernel_rfl
theorem nm37 : (Tryz.f37.name == "runtime.NumGoroutine") = false := by kernel_rfl
theorem nm38 : (Tryz.f38.name == "runtime.NumGoroutine") = false := by kernel_rfl
theorem nm39 : (Tryz.f39.name == "runtime.NumGoroutine") = false := by kernel_rfl
theorem nm40 : (Tryz.f40.name == "runtime.NumGoroutine") = false := by kernel_rfl
theorem nm41 : (Tryz.f41.name == "runtime.NumGoroutine") = false := by kernel_rfl
theorem nm42 : (Tryz.f42.name == "runtime.NumGoroutine") = false := by kernel_rfl
theorem nm43 : (Tryz.f43.name == "runtime.NumGoroutine") = false := by kernel_rfl
theorem nm44 : (Tryz.f44.name == "runtime.NumGoroutine") = false := by kernel_rfl
theorem nm45 : (Tryz.f45.name == "runtime.NumGoroutine") = false := by kernel_rfl
theorem nm46 : (Tryz.f46.name == "runtime.NumGoroutine") = false := by kernel_rfl
theorem nm47 : (Tryz.f47.name == "runtime.NumGoroutine") = false := by kernel_rfl
theorem nm48 : (Tryz.f48.name == "runtime.NumGoroutine") = false := by kernel_rfl
theorem nm49 : (Tryz.f49.name == "runtime.NumGoroutine") = false := by kernel_rfl
theorem nm50 : (Tryz.f50.name == "runtime.NumGoroutine") = false := by kernel_rfl
theorem nm51 : (Tryz.f51.name == "runtime.NumGoroutine") = false := by kernel_rfl
theorem nm52 : (Tryz.f52.name == "runtime.NumGoroutine") = false := by kernel_rfl
theorem nm53 : (Tryz.f53.name == "runtime.NumGoroutine") = false := by kernel_rfl
theorem nm54 : (Tryz.f54.name == "runtime.NumGoroutine") = false := by kernel_rfl
theorem nm55 : (Tryz.f55.name == "runtime.NumGoroutine") = false := by kernel_rfl
theorem nm56 : (Tryz.f56.name == "runtime.NumGoroutine") = false := by kernel_rfl
theorem nm57 : (Tryz.f57.name == "runtime.NumGoroutine") = false := by kernel_rfl
theorem nm58 : (Tryz.f58.name == "runtime.NumGoroutine") = false := by kernel_rfl
theorem nm59 : (Tryz.f59.name == "runtime.NumGoroutine") = false := by kernel_rfl
theorem nm60 : (Tryz.f60.name == "runtime.NumGoroutine") = false := by kernel_rfl
theorem nm61 : (Tryz.f61.name == "runtime.NumGoroutine") = false := by kernel_rfl
theorem nm62 : (Tryz.f62.name == "runtime.NumGoroutine") = false := by kernel_rfl
theorem nm63 : (Tryz.f63.name == "runtime.NumGoroutine") = false := by kernel_rfl
theorem nm64 : (Tryz.f64.name == "runtime.NumGoroutine") = false := by kernel_rfl
theorem nm65 : (Tryz.f65.name == "runtime.NumGoroutine") = false := by kernel_rfl
theorem nm66 : (Tryz.f66.name == "runtime.NumGoroutine") = false := by kernel_rfl
theorem nm67 : (Tryz.f67.name == "runtime.NumGoroutine") = false := by kernel_rfl
theorem nm68 : (Tryz.f68.name == "runtime.NumGoroutine") = false := by kernel_rfl
theorem nm69 : (Tryz.f69.name == "runtime.NumGoroutine") = false := by kernel_rfl
theorem nm70 : (Tryz.f70.name == "runtime.NumGoroutine") = false := by kernel_rfl
theorem nm71 : (Tryz.f71.name == "runtime.NumGoroutine") = false := by kernel_rfl
theorem nm72 : (Tryz.f72.name == "runtime.NumGoroutine") = false := by kernel_rfl
theorem nm73 : (Tryz.f73.name == "runtime.NumGoroutine") = false := by kernel_rfl
theorem nm74 : (Tryz.f74.name == "runtime.NumGoroutine") = false := by kernel_rfl
theorem nm75 : (Tryz.f75.name == "runtime.NumGoroutine") = false := by kernel_rfl
theorem nm76 : (Tryz.f76.name == "runtime.NumGoroutine") = false := by kernel_rfl
theorem nm77 : (Tryz.f77.name == "runtime.NumGoroutine") = false := by kernel_rfl
theorem nm78 : (Tryz.f78.name == "runtime.NumGoroutine") = false := by kernel_rfl
theorem nm79 : (Tryz.f79.name == "runtime.NumGoroutine") = false := by kernel_rfl
theorem nm80 : (Tryz.f80.name == "runtime.NumGoroutine") = false := by kernel_rfl
theorem nm81 : (Tryz.f81.name == "runtime.NumGoroutine") = false := by kernel_rfl
theorem nm82 : (Tryz.f82.name == "runtime.NumGoroutine") = false := by kernel_rfl
theorem nm83 : (Tryz.f83.name == "runtime.NumGoroutine") = false := by kernel_rfl
theorem nm84 : (Tryz.f84.name == "runtime.NumGoroutine") = false := by kernel_rfl
theorem nm85 : (Tryz.f85.name == "runtime.NumGoroutine") = false := by kernel_rfl
theorem nm86 : (Tryz.f86.name == "runtime.NumGoroutine") = false := by kernel_rfl
theorem nm87 : (Tryz.f87.name == "runtime.NumGoroutine") = false := by kernel_rfl
theorem nm88 : (Tryz.f88.name == "runtime.NumGoroutine") = false := by kernel_rfl
theorem nm89 : (Tryz.f89.name == "runtime.NumGoroutine") = false := by kernel_rfl
theorem nm90 : (Tryz.f90.name == "runtime.NumGoroutine") = false := by kernel_rfl
theorem nm91 : (Tryz.f91.name == "runtime.NumGoroutine") = false := by kernel_rfl
theorem nm92 : (Tryz.f92.name == "runtime.NumGoroutine") = false := by kernel_rfl
theorem nm93 : (Tryz.f93.name == "runtime.NumGoroutine") = false := by kernel_rfl
theorem nm94 : (Tryz.f94.name == "runtime.NumGoroutine") = false := by kernel_rfl
theorem nm95 : (Tryz.f95.name == "runtime.NumGoroutine") = false := by kernel_rfl
theorem nm96 : (Tryz.f96.name == "runtime.NumGoroutine") = false := by kernel_rfl
theorem nm97 : (Tryz.f97.name == "runtime.NumGoroutine") = false := by kernel_rfl
theorem nm98 : (Tryz.f98.name == "runtime.NumGoroutine") = false := by kernel_rfl
theorem nm99 : (Tryz.f99.name == "runtime.NumGoroutine") = false := by kernel_rfl
theorem nm100 : (Tryz.f100.name == "runtime.NumGoroutine") = false := by kernel_rfl
theorem nm101 : (Tryz.f101.name == "runtime.NumGoroutine") = false := by kernel_rfl
theorem nm102 : (Tryz.f102.name == "runtime.NumGoroutine") = false := by kernel_rfl
theorem nm103 : (Tryz.f103.name == "runtime.NumGoroutine") = false := by kernel_rfl
theorem nm104 : (Tryz.f104.name == "runtime.NumGoroutine") = false := by kernel_rfl
theorem nm105 : (Tryz.f105.name == "runtime.NumGoroutine") = false := by kernel_rfl
theorem nm106 : (Tryz.f106.name == "runtime.NumGoroutine") = false := by kernel_rfl
theorem nm107 : (Tryz.f107.name == "runtime.NumGoroutine") = false := by kernel_rfl
theorem nm108 : (Tryz.f108.name == "runtime.NumGoroutine") = false := by kernel_rfl
theorem nm109 : (Tryz.f109.name == "runtime.NumGoroutine") = false := by kernel_rfl
theorem nm110 : (Tryz.f110.name == "runtime.NumGoroutine") = false := by kernel_rfl
theorem nm111 : (Tryz.f111.name == "runtime.NumGoroutine") = false := by kernel_rfl
theorem nm112 : (Tryz.f112.name == "runtime.NumGoroutine") = false := by kernel_rfl
theorem nm113 : (Tryz.f113.name == "runtime.NumGoroutine") = false := by kernel_rfl
theorem nm114 : (Tryz.f114.name == "runtime.NumGoroutine") = false := by kernel_rfl
theorem nm115 : (Tryz.f115.name == "runtime.NumGoroutine") = false := by kernel_rfl
theorem nm116 : (Tryz.f116.name == "runtime.NumGoroutine") = false := by kernel_rfl
theorem nm117 : (Tryz.f117.name == "runtime.NumGoroutine") = false := by kernel_rfl
theorem nm118 : (Tryz.f118.name == "runtime.NumGoroutine") = false := by kernel_rfl
theorem nm119 : (Tryz.f119.name == "runtime.NumGoroutine") = false := by kernel_rfl
theorem nm120 : (Tryz.f120.name == "runtime.NumGoroutine") = false := by kernel_rfl
theorem nm121 : (Tryz.f121.name == "runtime.NumGoroutine") = false := by kernel_rfl
theorem nm122 : (Tryz.f122.name == "runtime.NumGoroutine") = false := by kernel_rfl
noncomputable def ft : Tr Func := (.node (.node (.node (.node (.node (.node (.node .nil 0 Tryz.f0 .nil) 1 Tryz.f1 (.node .nil 2 Tryz.f2 .nil)) 3 Tryz.f3 (.node (.node .nil 4 Tryz.f4 .nil) 5 Tryz.f5 (.node .nil 6 Tryz.f6 .nil))) 7 Tryz.f7 (.node (.node (.node .nil 8 Tryz.f8 .nil) 9 Tryz.f9 (.node .nil 10 Tryz.f10 .nil)) 11 Tryz.f11 (.node (.node .nil 12 Tryz.f12 .nil) 13 Tryz.f13 (.node .nil 14 Tryz.f14 .nil)))) 15 Tryz.f15 (.node (.node (.node (.node .nil 16 Tryz.f16 .nil) 17 Tryz.f17 (.node .nil 18 Tryz.f18 .nil)) 19 Tryz.f19 (.node (.node .nil 20 Tryz.f20 .nil) 21 Tryz.f21 (.node .nil 22 Tryz.f22 .nil))) 23 Tryz.f23 (.node (.node (.node .nil 24 Tryz.f24 .nil) 25 Tryz.f25 (.node .nil 26 Tryz.f26 .nil)) 27 Tryz.f27 (.node (.node .nil 28 Tryz.f28 .nil) 29 Tryz.f29 .nil)))) 30 Tryz.f30 (.node (.node (.node (.node (.node .nil 31 Tryz.f31 .nil) 32 Tryz.f32 (.node .nil 33 Tryz.f33 .nil)) 34 Tryz.f34 (.node (.node .nil 35 Tryz.f35 .nil) 36 Tryz.f36 (.node .nil 37 Tryz.f37 .nil))) 38 Tryz.f38 (.node (.node (.node .nil 39 Tryz.f39 .nil) 40 Tryz.f40 (.node .nil 41 Tryz.f41 .nil)) 42 Tryz.f42 (.node (.node .nil 43 Tryz.f43 .nil) 44 Tryz.f44 (.node .nil 45 Tryz.f45 .nil)))) 46 Tryz.f46 (.node (.node (.node (.node .nil 47 Tryz.f47 .nil) 48 Tryz.f48 (.node .nil 49 Tryz.f49 .nil)) 50 Tryz.f50 (.node (.node .nil 51 Tryz.f51 .nil) 52 Tryz.f52 (.node .nil 53 Tryz.f53 .nil))) 54 Tryz.f54 (.node (.node (.node .nil 55 Tryz.f55 .nil) 56 Tryz.f56 (.node .nil 57 Tryz.f57 .nil)) 58 Tryz.f58 (.node (.node .nil 59 Tryz.f59 .nil) 60 Tryz.f60 .nil))))) 61 Tryz.f61 (.node (.node (.node (.node (.node (.node .nil 62 Tryz.f62 .nil) 63 Tryz.f63 (.node .nil 64 Tryz.f64 .nil)) 65 Tryz.f65 (.node (.node .nil 66 Tryz.f66 .nil) 67 Tryz.f67 (.node .nil 68 Tryz.f68 .nil))) 69 Tryz.f69 (.node (.node (.node .nil 70 Tryz.f70 .nil) 71 Tryz.f71 (.node .nil 72 Tryz.f72 .nil)) 73 Tryz.f73 (.node (.node .nil 74 Tryz.f74 .nil) 75 Tryz.f75 (.node .nil 76 Tryz.f76 .nil)))) 77 Tryz.f77 (.node (.node (.node (.node .nil 78 Tryz.f78 .nil) 79 Tryz.f79 (.node .nil 80 Tryz.f80 .nil)) 81 Tryz.f81 (.node (.node .nil 82 Tryz.f82 .nil) 83 Tryz.f83 (.node .nil 84 Tryz.f84 .nil))) 85 Tryz.f85 (.node (.node (.node .nil 86 Tryz.f86 .nil) 87 Tryz.f87 (.node .nil 88 Tryz.f88 .nil)) 89 Tryz.f89 (.node (.node .nil 90 Tryz.f90 .nil) 91 Tryz.f91 .nil)))) 92 Tryz.f92 (.node (.node (.node (.node (.node .nil 93 Tryz.f93 .nil) 94 Tryz.f94 (.node .nil 95 Tryz.f95 .nil)) 96 Tryz.f96 (.node (.node .nil 97 Tryz.f97 .nil) 98 Tryz.f98 (.node .nil 99 Tryz.f99 .nil))) 100 Tryz.f100 (.node (.node (.node .nil 101 Tryz.f101 .nil) 102 Tryz.f102 (.node .nil 103 Tryz.f103 .nil)) 104 Tryz.f104 (.node (.node .nil 105 Tryz.f105 .nil) 106 Tryz.f106 (.node .nil 107 Tryz.f107 .nil)))) 108 Tryz.f108 (.node (.node (.node (.node .nil 109 Tryz.f109 .nil) 110 Tryz.f110 (.node .nil 111 Tryz.f111 .nil)) 112 Tryz.f112 (.node (.node .nil 113 Tryz.f113 .nil) 114 Tryz.f114 (.node .nil 115 Tryz.f115 .nil))) 116 Tryz.f116 (.node (.node (.node .nil 117 Tryz.f117 .nil) 118 Tryz.f118 (.node .nil 119 Tryz.f119 .nil)) 120 Tryz.f120 (.node (.node .nil 121 Tryz.f121 .nil) 122 Tryz.f122 .nil))))))
theorem ft_ok : FTOk Tryz.prog ft := (ft_node (ft_node (ft_node (ft_node (ft_node (ft_node (ft_node ft_nil ft_nil Tryz.func0 nm0) (ft_node ft_nil ft_nil Tryz.func2 nm2) Tryz.func1 nm1) (ft_node (ft_node ft_nil ft_nil Tryz.func4 nm4) (ft_node ft_nil ft_nil Tryz.func6 nm6) Tryz.func5 nm5) Tryz.func3 nm3) (ft_node (ft_node (ft_node ft_nil ft_nil Tryz.func8 nm8) (ft_node ft_nil ft_nil Tryz.func10 nm10) Tryz.func9 nm9) (ft_node (ft_node ft_nil ft_nil Tryz.func12 nm12) (ft_node ft_nil ft_nil Tryz.func14 nm14) Tryz.func13 nm13) Tryz.func11 nm11) Tryz.func7 nm7) (ft_node (ft_node (ft_node (ft_node ft_nil ft_nil Tryz.func16 nm16) (ft_node ft_nil ft_nil Tryz.func18 nm18) Tryz.func17 nm17) (ft_node (ft_node ft_nil ft_nil Tryz.func20 nm20) (ft_node ft_nil ft_nil Tryz.func22 nm22) Tryz.func21 nm21) Tryz.func19 nm19) (ft_node (ft_node (ft_node ft_nil ft_nil Tryz.func24 nm24) (ft_node ft_nil ft_nil Tryz.func26 nm26) Tryz.func25 nm25) (ft_node (ft_node ft_nil ft_nil Tryz.func28 nm28) ft_nil Tryz.func29 nm29) Tryz.func27 nm27) Tryz.func23 nm23) Tryz.func15 nm15) (ft_node (ft_node (ft_node (ft_node (ft_node ft_nil ft_nil Tryz.func31 nm31) (ft_node ft_nil ft_nil Tryz.func33 nm33) Tryz.func32 nm32) (ft_node (ft_node ft_nil ft_nil Tryz.func35 nm35) (ft_node ft_nil ft_nil Tryz.func37 nm37) Tryz.func36 nm36) Tryz.func34 nm34) (ft_node (ft_node (ft_node ft_nil ft_nil Tryz.func39 nm39) (ft_node ft_nil ft_nil Tryz.func41 nm41) Tryz.func40 nm40) (ft_node (ft_node ft_nil ft_nil Tryz.func43 nm43) (ft_node ft_nil ft_nil Tryz.func45 nm45) Tryz.func44 nm44) Tryz.func42 nm42) Tryz.func38 nm38) (ft_node (ft_node (ft_node (ft_node ft_nil ft_nil Tryz.func47 nm47) (ft_node ft_nil ft_nil Tryz.func49 nm49) Tryz.func48 nm48) (ft_node (ft_node ft_nil ft_nil Tryz.func51 nm51) (ft_node ft_nil ft_nil Tryz.func53 nm53) Tryz.func52 nm52) Tryz.func50 nm50) (ft_node (ft_node (ft_node ft_nil ft_nil Tryz.func55 nm55) (ft_node ft_nil ft_nil Tryz.func57 nm57) Tryz.func56 nm56) (ft_node (ft_node ft_nil ft_nil Tryz.func59 nm59) ft_nil Tryz.func60 nm60) Tryz.func58 nm58) Tryz.func54 nm54) Tryz.func46 nm46) Tryz.func30 nm30) (ft_node (ft_node (ft_node (ft_node (ft_node (ft_node ft_nil ft_nil Tryz.func62 nm62) (ft_node ft_nil ft_nil Tryz.func64 nm64) Tryz.func63 nm63) (ft_node (ft_node ft_nil ft_nil Tryz.func66 nm66) (ft_node ft_nil ft_nil Tryz.func68 nm68) Tryz.func67 nm67) Tryz.func65 nm65) (ft_node (ft_node (ft_node ft_nil ft_nil Tryz.func70 nm70) (ft_node ft_nil ft_nil Tryz.func72 nm72) Tryz.func71 nm71) (ft_node (ft_node ft_nil ft_nil Tryz.func74 nm74) (ft_node ft_nil ft_nil Tryz.func76 nm76) Tryz.func75 nm75) Tryz.func73 nm73) Tryz.func69 nm69) (ft_node (ft_node (ft_node (ft_node ft_nil ft_nil Tryz.func78 nm78) (ft_node ft_nil ft_nil Tryz.func80 nm80) Tryz.func79 nm79) (ft_node (ft_node ft_nil ft_nil Tryz.func82 nm82) (ft_node ft_nil ft_nil Tryz.func84 nm84) Tryz.func83 nm83) Tryz.func81 nm81) (ft_node (ft_node (ft_node ft_nil ft_nil Tryz.func86 nm86) (ft_node ft_nil ft_nil Tryz.func88 nm88) Tryz.func87 nm87) (ft_node (ft_node ft_nil ft_nil Tryz.func90 nm90) ft_nil Tryz.func91 nm91) Tryz.func89 nm89) Tryz.func85 nm85) Tryz.func77 nm77) (ft_node (ft_node (ft_node (ft_node (ft_node ft_nil ft_nil Tryz.func93 nm93) (ft_node ft_nil ft_nil Tryz.func95 nm95) Tryz.func94 nm94) (ft_node (ft_node ft_nil ft_nil Tryz.func97 nm97) (ft_node ft_nil ft_nil Tryz.func99 nm99) Tryz.func98 nm98) Tryz.func96 nm96) (ft_node (ft_node (ft_node ft_nil ft_nil Tryz.func101 nm101) (ft_node ft_nil ft_nil Tryz.func103 nm103) Tryz.func102 nm102) (ft_node (ft_node ft_nil ft_nil Tryz.func105 nm105) (ft_node ft_nil ft_nil Tryz.func107 nm107) Tryz.func106 nm106) Tryz.func104 nm104) Tryz.func100 nm100) (ft_node (ft_node (ft_node (ft_node ft_nil ft_nil Tryz.func109 nm109) (ft_node ft_nil ft_nil Tryz.func111 nm111) Tryz.func110 nm110) (ft_node (ft_node ft_nil ft_nil Tryz.func113 nm113) (ft_node ft_nil ft_nil Tryz.func115 nm115) Tryz.func114 nm114) Tryz.func112 nm112) (ft_node (ft_node (ft_node ft_nil ft_nil Tryz.func117 nm117) (ft_node ft_nil ft_nil Tryz.func119 nm119) Tryz.func118 nm118) (ft_node (ft_node ft_nil ft_nil Tryz.func121 nm121) ft_nil Tryz.func122 nm122) Tryz.func120 nm120) Tryz.func116 nm116) Tryz.func108 nm108) Tryz.func92 nm92) Tryz.func61 nm61)
theorem mix_ok : Tryz.prog.follows .mixedOrders = true := by kernel_rfl
noncomputable def envC (Δ : List Eng.CS) (wr : Bool) (cuts : List (Nat × Nat)) : Env := { T := tab, Γ := [], Δ := Δ, FT := ft, inv := fun _ _ _ => none, wr := fun _ => wr, cut := R.inL cuts }
theorem envC_ok {Δ : List Eng.CS} {wr : Bool} {cuts : List (Nat × Nat)} (h' : CSsOk Tryz.prog Δ) : EnvOk Tryz.prog (envC Δ wr cuts) := ⟨mix_ok, tab_ok, specs_nil, h', ft_ok⟩
end Go.Proofs.YtenjkphlbdhaiaaGreat
