/- Proved: the law 'ViewNobody' answers true whatever it is called with, and leaves what it is called with as it was. Conditions: none beyond the row's own. -/
import Derived.Test.YtnlglgafokjhnaaGreatRows
import Derived.Test.YtnlglgafokjhnaaGreatJoinVNb
import Derived.Test.YtnlglgafokjhnaaGreatVN4
import Derived.Test.YtnlglgafokjhnaaGreatVN5
import Derived.Test.YtnlglgafokjhnaaGreatEngLd
import Derived.WalkKit
import Derived.ProofKit
import Derived.OpenShut
import Derived.ShutString
import Derived.ChangeOld
import Derived.Below
import Derived.Deep.Slices
namespace Go.Proofs.YtnlglgafokjhnaaGreat.viewNobody
open Go.Eng
open Go.ChangeShapes Go.WideShapes Go.ChangeAt Go.RowKit
open Go.ChangeMaps (open_string shut_string)
set_option linter.unusedVariables false

theorem own : ownKnob Tryz.prog.godebug = none := by kernel_rfl
theorem laidOut : laidOutB Tryz.prog = true := by kernel_rfl
theorem trod_flt {H : Type} {enc : TypeId × Value → H} {P : Program} {w : World} {base : Nat} {sp : Nat → Bool} {held : Bool} {fuel : Nat} {t : TypeId} {cs : List Value} {x : DataW H × List MemPlace} {k : FloatKind} (ht : P.underlying t = some (.float k)) (h : DataW.trod enc P w base sp held fuel t cs = some x) : ∃ n, cs = [.float k n] ∧ (Lit.float k n).wf = true := by
  cases fuel with
  | zero => simp [DataW.trod] at h
  | succ m =>
    unfold DataW.trod at h
    rw [ht] at h
    split at h <;> simp_all
theorem dec9 {H : Type} {enc : TypeId × Value → H} {w : World} {sp : Nat → Bool} {held : Bool} : ∀ n cs (y : DataW H × List MemPlace), DataW.trod enc Tryz.prog w 0 sp held n 9 cs = some y → ∃ a : ByteArray, cs = [.string a] ∧ a.size ≤ maxLen := by
  intro n cs y h
  obtain ⟨v, rfl, _, hw⟩ := DataW.trod_string Tryz.underlying9 h
  exact ⟨v, rfl, hw⟩
theorem dec3 {H : Type} {enc : TypeId × Value → H} {w : World} {sp : Nat → Bool} {held : Bool} : ∀ n cs (y : DataW H × List MemPlace), DataW.trod enc Tryz.prog w 0 sp held n 3 cs = some y → ∃ a : Int, cs = [.int .i64 a] ∧ inR .i64 a := by
  intro n cs y h
  obtain ⟨v, rfl, _, hw⟩ := DataW.trod_int Tryz.underlying3 h
  exact ⟨v, rfl, wf_in hw⟩
theorem ecN3 : ∀ l : List Int, ec (fun a : Int => [Value.int .i64 a]) l = ei .i64 l
  | [] => rfl
  | x :: t => congrArg (List.cons (Value.int .i64 x)) (ecN3 t)
def c53 (p : (ByteArray × Int × Bool × ((Option Addr × Nat) × List Int) × Nat)) : List Value := [.string p.1, .int .i64 p.2.1, .bool p.2.2.1, .slice p.2.2.2.1.1.1 p.2.2.2.1.2.length p.2.2.2.1.1.2, .float .f64 p.2.2.2.2]
set_option maxRecDepth 100000 in
theorem dec53 {H : Type} {enc : TypeId × Value → H} {w : World} {sp : Nat → Bool} {held : Bool} : ∀ n cs (y : DataW H × List MemPlace), DataW.trod enc Tryz.prog w 0 sp held n 53 cs = some y → ∃ a : (ByteArray × Int × Bool × ((Option Addr × Nat) × List Int) × Nat), cs = c53 a ∧ (a.1.size ≤ maxLen ∧ inR .i64 a.2.1 ∧ True ∧ SlIn (fun a : Int => [Value.int .i64 a]) (fun a : Int => inR .i64 a) w a.2.2.2.1.1.1 a.2.2.2.1.2.length a.2.2.2.1.1.2 a.2.2.2.1.2 ∧ a.2.2.2.2 < 18446744073709551616) := by
  intro n cs y h
  obtain ⟨xs, m, rfl, hx, hlen, hxl, hf⟩ := DataW.trod_struct Tryz.underlying53 h
  have hC : Tryz.prog.cellsOf 53 = 5 := by kernel_rfl
  rw [hC] at hlen
  obtain ⟨v0, v1, v2, v3, v4, rfl⟩ : ∃ v0 v1 v2 v3 v4, cs = [v0, v1, v2, v3, v4] := by
    match cs, hlen with
    | [v0, v1, v2, v3, v4], _ => exact ⟨_, _, _, _, _, rfl⟩
  have hx2 : xs.length = 5 := hxl
  have cz3 : Tryz.prog.cellsOf 3 = 1 := by kernel_rfl
  have cz4 : Tryz.prog.cellsOf 4 = 1 := by kernel_rfl
  have cz9 : Tryz.prog.cellsOf 9 = 1 := by kernel_rfl
  have cz50 : Tryz.prog.cellsOf 50 = 1 := by kernel_rfl
  have cz51 : Tryz.prog.cellsOf 51 = 1 := by kernel_rfl
  have f0 : DataW.trod enc Tryz.prog w 0 sp held m 9 (([v0, v1, v2, v3, v4].drop 0).take (Tryz.prog.cellsOf 9)) = xs[0]? := hf 0 _ rfl
  rw [cz9, show xs[0]? = some xs[0] from List.getElem?_eq_getElem (by omega)] at f0
  change DataW.trod enc Tryz.prog w 0 sp held m 9 [v0] = some xs[0] at f0
  obtain ⟨u0, e0, _, h0⟩ := DataW.trod_string Tryz.underlying9 f0
  simp only [List.cons.injEq, and_true] at e0
  have f1 : DataW.trod enc Tryz.prog w 0 sp held m 3 (([v0, v1, v2, v3, v4].drop 1).take (Tryz.prog.cellsOf 3)) = xs[1]? := hf 1 _ rfl
  rw [cz3, show xs[1]? = some xs[1] from List.getElem?_eq_getElem (by omega)] at f1
  change DataW.trod enc Tryz.prog w 0 sp held m 3 [v1] = some xs[1] at f1
  obtain ⟨u1, e1, _, h1⟩ := DataW.trod_int Tryz.underlying3 f1
  simp only [List.cons.injEq, and_true] at e1
  have f2 : DataW.trod enc Tryz.prog w 0 sp held m 4 (([v0, v1, v2, v3, v4].drop 2).take (Tryz.prog.cellsOf 4)) = xs[2]? := hf 2 _ rfl
  rw [cz4, show xs[2]? = some xs[2] from List.getElem?_eq_getElem (by omega)] at f2
  change DataW.trod enc Tryz.prog w 0 sp held m 4 [v2] = some xs[2] at f2
  obtain ⟨u2, e2, _⟩ := DataW.trod_bool Tryz.underlying4 f2
  simp only [List.cons.injEq, and_true] at e2
  have f3 : DataW.trod enc Tryz.prog w 0 sp held m 51 (([v0, v1, v2, v3, v4].drop 3).take (Tryz.prog.cellsOf 51)) = xs[3]? := hf 3 _ rfl
  rw [cz51, show xs[3]? = some xs[3] from List.getElem?_eq_getElem (by omega)] at f3
  change DataW.trod enc Tryz.prog w 0 sp held m 51 [v3] = some xs[3] at f3
  obtain ⟨A3, len3, cap3, e3⟩ : ∃ A len cap, [v3] = [Value.slice A len cap] := by
    rcases Go.Deep.open_slice Tryz.underlying51 f3 with ⟨h0, _⟩ | ⟨a, len', cap', m, n, D, Pl, hcs, _⟩
    · exact ⟨_, _, _, h0⟩
    · exact ⟨_, _, _, hcs⟩
  simp only [List.cons.injEq, and_true] at e3
  subst e3
  obtain ⟨u3, h3⟩ := slice_in (c := (fun a : Int => [Value.int .i64 a])) (R := (fun a : Int => inR .i64 a)) (sz := 1) (fun _ => rfl) (by decide) Tryz.underlying51 (by kernel_rfl) dec3 f3
  have g3 := h3.1
  subst g3
  have f4 : DataW.trod enc Tryz.prog w 0 sp held m 50 (([v0, v1, v2, Value.slice A3 u3.length cap3, v4].drop 4).take (Tryz.prog.cellsOf 50)) = xs[4]? := hf 4 _ rfl
  rw [cz50, show xs[4]? = some xs[4] from List.getElem?_eq_getElem (by omega)] at f4
  change DataW.trod enc Tryz.prog w 0 sp held m 50 [v4] = some xs[4] at f4
  obtain ⟨u4, e4, h4⟩ := trod_flt Tryz.underlying50 f4
  simp only [List.cons.injEq, and_true] at e4
  subst e0 e1 e2 e4
  exact ⟨(u0, u1, u2, ((A3, cap3), u3), u4), rfl, h0, wf_in h1, trivial, h3, (by simpa [Lit.wf] using h4)⟩
set_option maxRecDepth 100000 in
theorem dec55 {H : Type} {enc : TypeId × Value → H} {w : World} {sp : Nat → Bool} {held : Bool} : ∀ n cs (y : DataW H × List MemPlace), DataW.trod enc Tryz.prog w 0 sp held n 55 cs = some y → ∃ a : (Int × ByteArray × ByteArray × ((Option Addr × Nat) × List ByteArray) × Int × Int × Nat × Nat × Nat × ByteArray × Int × Bool × ((Option Addr × Nat) × List Int) × Nat × ByteArray × ByteArray), cs = c55 a ∧ (inR .i64 a.1 ∧ a.2.1.size ≤ maxLen ∧ a.2.2.1.size ≤ maxLen ∧ SlIn (fun a : ByteArray => [Value.string a]) (fun a : ByteArray => a.size ≤ maxLen) w a.2.2.2.1.1.1 a.2.2.2.1.2.length a.2.2.2.1.1.2 a.2.2.2.1.2 ∧ inR .i64 a.2.2.2.2.1 ∧ inR .i64 a.2.2.2.2.2.1 ∧ a.2.2.2.2.2.2.1 < 18446744073709551616 ∧ a.2.2.2.2.2.2.2.1 < 18446744073709551616 ∧ a.2.2.2.2.2.2.2.2.1 < 18446744073709551616 ∧ a.2.2.2.2.2.2.2.2.2.1.size ≤ maxLen ∧ inR .i64 a.2.2.2.2.2.2.2.2.2.2.1 ∧ True ∧ SlIn (fun a : Int => [Value.int .i64 a]) (fun a : Int => inR .i64 a) w a.2.2.2.2.2.2.2.2.2.2.2.2.1.1.1 a.2.2.2.2.2.2.2.2.2.2.2.2.1.2.length a.2.2.2.2.2.2.2.2.2.2.2.2.1.1.2 a.2.2.2.2.2.2.2.2.2.2.2.2.1.2 ∧ a.2.2.2.2.2.2.2.2.2.2.2.2.2.1 < 18446744073709551616 ∧ a.2.2.2.2.2.2.2.2.2.2.2.2.2.2.1.size ≤ maxLen ∧ a.2.2.2.2.2.2.2.2.2.2.2.2.2.2.2.size ≤ maxLen) := by
  intro n cs y h
  obtain ⟨xs, m, rfl, hx, hlen, hxl, hf⟩ := DataW.trod_struct Tryz.underlying55 h
  have hC : Tryz.prog.cellsOf 55 = 16 := by kernel_rfl
  rw [hC] at hlen
  obtain ⟨v0, v1, v2, v3, v4, v5, v6, v7, v8, v9, v10, v11, v12, v13, v14, v15, rfl⟩ : ∃ v0 v1 v2 v3 v4 v5 v6 v7 v8 v9 v10 v11 v12 v13 v14 v15, cs = [v0, v1, v2, v3, v4, v5, v6, v7, v8, v9, v10, v11, v12, v13, v14, v15] := by
    match cs, hlen with
    | [v0, v1, v2, v3, v4, v5, v6, v7, v8, v9, v10, v11, v12, v13, v14, v15], _ => exact ⟨_, _, _, _, _, _, _, _, _, _, _, _, _, _, _, _, rfl⟩
  have hx2 : xs.length = 12 := hxl
  have cz3 : Tryz.prog.cellsOf 3 = 1 := by kernel_rfl
  have cz9 : Tryz.prog.cellsOf 9 = 1 := by kernel_rfl
  have cz23 : Tryz.prog.cellsOf 23 = 1 := by kernel_rfl
  have cz49 : Tryz.prog.cellsOf 49 = 1 := by kernel_rfl
  have cz50 : Tryz.prog.cellsOf 50 = 1 := by kernel_rfl
  have cz53 : Tryz.prog.cellsOf 53 = 5 := by kernel_rfl
  have f0 : DataW.trod enc Tryz.prog w 0 sp held m 49 (([v0, v1, v2, v3, v4, v5, v6, v7, v8, v9, v10, v11, v12, v13, v14, v15].drop 0).take (Tryz.prog.cellsOf 49)) = xs[0]? := hf 0 _ rfl
  rw [cz49, show xs[0]? = some xs[0] from List.getElem?_eq_getElem (by omega)] at f0
  change DataW.trod enc Tryz.prog w 0 sp held m 49 [v0] = some xs[0] at f0
  obtain ⟨u0, e0, _, h0⟩ := DataW.trod_int Tryz.underlying49 f0
  simp only [List.cons.injEq, and_true] at e0
  have f1 : DataW.trod enc Tryz.prog w 0 sp held m 9 (([v0, v1, v2, v3, v4, v5, v6, v7, v8, v9, v10, v11, v12, v13, v14, v15].drop 1).take (Tryz.prog.cellsOf 9)) = xs[1]? := hf 1 _ rfl
  rw [cz9, show xs[1]? = some xs[1] from List.getElem?_eq_getElem (by omega)] at f1
  change DataW.trod enc Tryz.prog w 0 sp held m 9 [v1] = some xs[1] at f1
  obtain ⟨u1, e1, _, h1⟩ := DataW.trod_string Tryz.underlying9 f1
  simp only [List.cons.injEq, and_true] at e1
  have f2 : DataW.trod enc Tryz.prog w 0 sp held m 9 (([v0, v1, v2, v3, v4, v5, v6, v7, v8, v9, v10, v11, v12, v13, v14, v15].drop 2).take (Tryz.prog.cellsOf 9)) = xs[2]? := hf 2 _ rfl
  rw [cz9, show xs[2]? = some xs[2] from List.getElem?_eq_getElem (by omega)] at f2
  change DataW.trod enc Tryz.prog w 0 sp held m 9 [v2] = some xs[2] at f2
  obtain ⟨u2, e2, _, h2⟩ := DataW.trod_string Tryz.underlying9 f2
  simp only [List.cons.injEq, and_true] at e2
  have f3 : DataW.trod enc Tryz.prog w 0 sp held m 23 (([v0, v1, v2, v3, v4, v5, v6, v7, v8, v9, v10, v11, v12, v13, v14, v15].drop 3).take (Tryz.prog.cellsOf 23)) = xs[3]? := hf 3 _ rfl
  rw [cz23, show xs[3]? = some xs[3] from List.getElem?_eq_getElem (by omega)] at f3
  change DataW.trod enc Tryz.prog w 0 sp held m 23 [v3] = some xs[3] at f3
  obtain ⟨A3, len3, cap3, e3⟩ : ∃ A len cap, [v3] = [Value.slice A len cap] := by
    rcases Go.Deep.open_slice Tryz.underlying23 f3 with ⟨h0, _⟩ | ⟨a, len', cap', m, n, D, Pl, hcs, _⟩
    · exact ⟨_, _, _, h0⟩
    · exact ⟨_, _, _, hcs⟩
  simp only [List.cons.injEq, and_true] at e3
  subst e3
  obtain ⟨u3, h3⟩ := slice_in (c := (fun a : ByteArray => [Value.string a])) (R := (fun a : ByteArray => a.size ≤ maxLen)) (sz := 1) (fun _ => rfl) (by decide) Tryz.underlying23 (by kernel_rfl) dec9 f3
  have g3 := h3.1
  subst g3
  have f4 : DataW.trod enc Tryz.prog w 0 sp held m 3 (([v0, v1, v2, Value.slice A3 u3.length cap3, v4, v5, v6, v7, v8, v9, v10, v11, v12, v13, v14, v15].drop 4).take (Tryz.prog.cellsOf 3)) = xs[4]? := hf 4 _ rfl
  rw [cz3, show xs[4]? = some xs[4] from List.getElem?_eq_getElem (by omega)] at f4
  change DataW.trod enc Tryz.prog w 0 sp held m 3 [v4] = some xs[4] at f4
  obtain ⟨u4, e4, _, h4⟩ := DataW.trod_int Tryz.underlying3 f4
  simp only [List.cons.injEq, and_true] at e4
  have f5 : DataW.trod enc Tryz.prog w 0 sp held m 3 (([v0, v1, v2, Value.slice A3 u3.length cap3, v4, v5, v6, v7, v8, v9, v10, v11, v12, v13, v14, v15].drop 5).take (Tryz.prog.cellsOf 3)) = xs[5]? := hf 5 _ rfl
  rw [cz3, show xs[5]? = some xs[5] from List.getElem?_eq_getElem (by omega)] at f5
  change DataW.trod enc Tryz.prog w 0 sp held m 3 [v5] = some xs[5] at f5
  obtain ⟨u5, e5, _, h5⟩ := DataW.trod_int Tryz.underlying3 f5
  simp only [List.cons.injEq, and_true] at e5
  have f6 : DataW.trod enc Tryz.prog w 0 sp held m 50 (([v0, v1, v2, Value.slice A3 u3.length cap3, v4, v5, v6, v7, v8, v9, v10, v11, v12, v13, v14, v15].drop 6).take (Tryz.prog.cellsOf 50)) = xs[6]? := hf 6 _ rfl
  rw [cz50, show xs[6]? = some xs[6] from List.getElem?_eq_getElem (by omega)] at f6
  change DataW.trod enc Tryz.prog w 0 sp held m 50 [v6] = some xs[6] at f6
  obtain ⟨u6, e6, h6⟩ := trod_flt Tryz.underlying50 f6
  simp only [List.cons.injEq, and_true] at e6
  have f7 : DataW.trod enc Tryz.prog w 0 sp held m 50 (([v0, v1, v2, Value.slice A3 u3.length cap3, v4, v5, v6, v7, v8, v9, v10, v11, v12, v13, v14, v15].drop 7).take (Tryz.prog.cellsOf 50)) = xs[7]? := hf 7 _ rfl
  rw [cz50, show xs[7]? = some xs[7] from List.getElem?_eq_getElem (by omega)] at f7
  change DataW.trod enc Tryz.prog w 0 sp held m 50 [v7] = some xs[7] at f7
  obtain ⟨u7, e7, h7⟩ := trod_flt Tryz.underlying50 f7
  simp only [List.cons.injEq, and_true] at e7
  have f8 : DataW.trod enc Tryz.prog w 0 sp held m 50 (([v0, v1, v2, Value.slice A3 u3.length cap3, v4, v5, v6, v7, v8, v9, v10, v11, v12, v13, v14, v15].drop 8).take (Tryz.prog.cellsOf 50)) = xs[8]? := hf 8 _ rfl
  rw [cz50, show xs[8]? = some xs[8] from List.getElem?_eq_getElem (by omega)] at f8
  change DataW.trod enc Tryz.prog w 0 sp held m 50 [v8] = some xs[8] at f8
  obtain ⟨u8, e8, h8⟩ := trod_flt Tryz.underlying50 f8
  simp only [List.cons.injEq, and_true] at e8
  have f9 : DataW.trod enc Tryz.prog w 0 sp held m 53 (([v0, v1, v2, Value.slice A3 u3.length cap3, v4, v5, v6, v7, v8, v9, v10, v11, v12, v13, v14, v15].drop 9).take (Tryz.prog.cellsOf 53)) = xs[9]? := hf 9 _ rfl
  rw [cz53, show xs[9]? = some xs[9] from List.getElem?_eq_getElem (by omega)] at f9
  change DataW.trod enc Tryz.prog w 0 sp held m 53 [v9, v10, v11, v12, v13] = some xs[9] at f9
  obtain ⟨u9, e9, h9⟩ := dec53 _ _ _ f9
  simp only [c53, List.cons.injEq, and_true] at e9
  obtain ⟨rfl, rfl, rfl, rfl, rfl⟩ := e9
  have f10 : DataW.trod enc Tryz.prog w 0 sp held m 9 (([v0, v1, v2, Value.slice A3 u3.length cap3, v4, v5, v6, v7, v8, Value.string u9.1, Value.int .i64 u9.2.1, Value.bool u9.2.2.1, Value.slice u9.2.2.2.1.1.1 u9.2.2.2.1.2.length u9.2.2.2.1.1.2, Value.float .f64 u9.2.2.2.2, v14, v15].drop 14).take (Tryz.prog.cellsOf 9)) = xs[10]? := hf 10 _ rfl
  rw [cz9, show xs[10]? = some xs[10] from List.getElem?_eq_getElem (by omega)] at f10
  change DataW.trod enc Tryz.prog w 0 sp held m 9 [v14] = some xs[10] at f10
  obtain ⟨u10, e10, _, h10⟩ := DataW.trod_string Tryz.underlying9 f10
  simp only [List.cons.injEq, and_true] at e10
  have f11 : DataW.trod enc Tryz.prog w 0 sp held m 9 (([v0, v1, v2, Value.slice A3 u3.length cap3, v4, v5, v6, v7, v8, Value.string u9.1, Value.int .i64 u9.2.1, Value.bool u9.2.2.1, Value.slice u9.2.2.2.1.1.1 u9.2.2.2.1.2.length u9.2.2.2.1.1.2, Value.float .f64 u9.2.2.2.2, v14, v15].drop 15).take (Tryz.prog.cellsOf 9)) = xs[11]? := hf 11 _ rfl
  rw [cz9, show xs[11]? = some xs[11] from List.getElem?_eq_getElem (by omega)] at f11
  change DataW.trod enc Tryz.prog w 0 sp held m 9 [v15] = some xs[11] at f11
  obtain ⟨u11, e11, _, h11⟩ := DataW.trod_string Tryz.underlying9 f11
  simp only [List.cons.injEq, and_true] at e11
  subst e0 e1 e2 e4 e5 e6 e7 e8 e10 e11
  exact ⟨(u0, u1, u2, ((A3, cap3), u3), u4, u5, u6, u7, u8, u9.1, u9.2.1, u9.2.2.1, u9.2.2.2.1, u9.2.2.2.2, u10, u11), rfl, wf_in h0, h1, h2, h3, wf_in h4, wf_in h5, (by simpa [Lit.wf] using h6), (by simpa [Lit.wf] using h7), (by simpa [Lit.wf] using h8), h9.1, h9.2.1, h9.2.2.1, h9.2.2.2.1, h9.2.2.2.2, h10, h11⟩
def c25 (p : (ByteArray × ((Option Addr × Nat) × List (Int × ByteArray × ByteArray × ((Option Addr × Nat) × List ByteArray) × Int × Int × Nat × Nat × Nat × ByteArray × Int × Bool × ((Option Addr × Nat) × List Int) × Nat × ByteArray × ByteArray)) × ((Option Addr × Nat) × List ByteArray) × Int)) : List Value := [.string p.1, .slice p.2.1.1.1 p.2.1.2.length p.2.1.1.2, .slice p.2.2.1.1.1 p.2.2.1.2.length p.2.2.1.1.2, .int .i64 p.2.2.2]
set_option maxRecDepth 100000 in
theorem dec25 {H : Type} {enc : TypeId × Value → H} {w : World} {sp : Nat → Bool} {held : Bool} : ∀ n cs (y : DataW H × List MemPlace), DataW.trod enc Tryz.prog w 0 sp held n 25 cs = some y → ∃ a : (ByteArray × ((Option Addr × Nat) × List (Int × ByteArray × ByteArray × ((Option Addr × Nat) × List ByteArray) × Int × Int × Nat × Nat × Nat × ByteArray × Int × Bool × ((Option Addr × Nat) × List Int) × Nat × ByteArray × ByteArray)) × ((Option Addr × Nat) × List ByteArray) × Int), cs = c25 a ∧ (a.1.size ≤ maxLen ∧ SlIn c55 (fun a : (Int × ByteArray × ByteArray × ((Option Addr × Nat) × List ByteArray) × Int × Int × Nat × Nat × Nat × ByteArray × Int × Bool × ((Option Addr × Nat) × List Int) × Nat × ByteArray × ByteArray) => inR .i64 a.1 ∧ a.2.1.size ≤ maxLen ∧ a.2.2.1.size ≤ maxLen ∧ SlIn (fun a : ByteArray => [Value.string a]) (fun a : ByteArray => a.size ≤ maxLen) w a.2.2.2.1.1.1 a.2.2.2.1.2.length a.2.2.2.1.1.2 a.2.2.2.1.2 ∧ inR .i64 a.2.2.2.2.1 ∧ inR .i64 a.2.2.2.2.2.1 ∧ a.2.2.2.2.2.2.1 < 18446744073709551616 ∧ a.2.2.2.2.2.2.2.1 < 18446744073709551616 ∧ a.2.2.2.2.2.2.2.2.1 < 18446744073709551616 ∧ a.2.2.2.2.2.2.2.2.2.1.size ≤ maxLen ∧ inR .i64 a.2.2.2.2.2.2.2.2.2.2.1 ∧ True ∧ SlIn (fun a : Int => [Value.int .i64 a]) (fun a : Int => inR .i64 a) w a.2.2.2.2.2.2.2.2.2.2.2.2.1.1.1 a.2.2.2.2.2.2.2.2.2.2.2.2.1.2.length a.2.2.2.2.2.2.2.2.2.2.2.2.1.1.2 a.2.2.2.2.2.2.2.2.2.2.2.2.1.2 ∧ a.2.2.2.2.2.2.2.2.2.2.2.2.2.1 < 18446744073709551616 ∧ a.2.2.2.2.2.2.2.2.2.2.2.2.2.2.1.size ≤ maxLen ∧ a.2.2.2.2.2.2.2.2.2.2.2.2.2.2.2.size ≤ maxLen) w a.2.1.1.1 a.2.1.2.length a.2.1.1.2 a.2.1.2 ∧ SlIn (fun a : ByteArray => [Value.string a]) (fun a : ByteArray => a.size ≤ maxLen) w a.2.2.1.1.1 a.2.2.1.2.length a.2.2.1.1.2 a.2.2.1.2 ∧ inR .i64 a.2.2.2) := by
  intro n cs y h
  obtain ⟨xs, m, rfl, hx, hlen, hxl, hf⟩ := DataW.trod_struct Tryz.underlying25 h
  have hC : Tryz.prog.cellsOf 25 = 4 := by kernel_rfl
  rw [hC] at hlen
  obtain ⟨v0, v1, v2, v3, rfl⟩ : ∃ v0 v1 v2 v3, cs = [v0, v1, v2, v3] := by
    match cs, hlen with
    | [v0, v1, v2, v3], _ => exact ⟨_, _, _, _, rfl⟩
  have hx2 : xs.length = 4 := hxl
  have cz3 : Tryz.prog.cellsOf 3 = 1 := by kernel_rfl
  have cz9 : Tryz.prog.cellsOf 9 = 1 := by kernel_rfl
  have cz22 : Tryz.prog.cellsOf 22 = 1 := by kernel_rfl
  have cz23 : Tryz.prog.cellsOf 23 = 1 := by kernel_rfl
  have f0 : DataW.trod enc Tryz.prog w 0 sp held m 9 (([v0, v1, v2, v3].drop 0).take (Tryz.prog.cellsOf 9)) = xs[0]? := hf 0 _ rfl
  rw [cz9, show xs[0]? = some xs[0] from List.getElem?_eq_getElem (by omega)] at f0
  change DataW.trod enc Tryz.prog w 0 sp held m 9 [v0] = some xs[0] at f0
  obtain ⟨u0, e0, _, h0⟩ := DataW.trod_string Tryz.underlying9 f0
  simp only [List.cons.injEq, and_true] at e0
  have f1 : DataW.trod enc Tryz.prog w 0 sp held m 22 (([v0, v1, v2, v3].drop 1).take (Tryz.prog.cellsOf 22)) = xs[1]? := hf 1 _ rfl
  rw [cz22, show xs[1]? = some xs[1] from List.getElem?_eq_getElem (by omega)] at f1
  change DataW.trod enc Tryz.prog w 0 sp held m 22 [v1] = some xs[1] at f1
  obtain ⟨A1, len1, cap1, e1⟩ : ∃ A len cap, [v1] = [Value.slice A len cap] := by
    rcases Go.Deep.open_slice Tryz.underlying22 f1 with ⟨h0, _⟩ | ⟨a, len', cap', m, n, D, Pl, hcs, _⟩
    · exact ⟨_, _, _, h0⟩
    · exact ⟨_, _, _, hcs⟩
  simp only [List.cons.injEq, and_true] at e1
  subst e1
  obtain ⟨u1, h1⟩ := slice_in (c := c55) (R := (fun a : (Int × ByteArray × ByteArray × ((Option Addr × Nat) × List ByteArray) × Int × Int × Nat × Nat × Nat × ByteArray × Int × Bool × ((Option Addr × Nat) × List Int) × Nat × ByteArray × ByteArray) => inR .i64 a.1 ∧ a.2.1.size ≤ maxLen ∧ a.2.2.1.size ≤ maxLen ∧ SlIn (fun a : ByteArray => [Value.string a]) (fun a : ByteArray => a.size ≤ maxLen) w a.2.2.2.1.1.1 a.2.2.2.1.2.length a.2.2.2.1.1.2 a.2.2.2.1.2 ∧ inR .i64 a.2.2.2.2.1 ∧ inR .i64 a.2.2.2.2.2.1 ∧ a.2.2.2.2.2.2.1 < 18446744073709551616 ∧ a.2.2.2.2.2.2.2.1 < 18446744073709551616 ∧ a.2.2.2.2.2.2.2.2.1 < 18446744073709551616 ∧ a.2.2.2.2.2.2.2.2.2.1.size ≤ maxLen ∧ inR .i64 a.2.2.2.2.2.2.2.2.2.2.1 ∧ True ∧ SlIn (fun a : Int => [Value.int .i64 a]) (fun a : Int => inR .i64 a) w a.2.2.2.2.2.2.2.2.2.2.2.2.1.1.1 a.2.2.2.2.2.2.2.2.2.2.2.2.1.2.length a.2.2.2.2.2.2.2.2.2.2.2.2.1.1.2 a.2.2.2.2.2.2.2.2.2.2.2.2.1.2 ∧ a.2.2.2.2.2.2.2.2.2.2.2.2.2.1 < 18446744073709551616 ∧ a.2.2.2.2.2.2.2.2.2.2.2.2.2.2.1.size ≤ maxLen ∧ a.2.2.2.2.2.2.2.2.2.2.2.2.2.2.2.size ≤ maxLen)) (sz := 16) c55_len (by decide) Tryz.underlying22 (by kernel_rfl) dec55 f1
  have g1 := h1.1
  subst g1
  have f2 : DataW.trod enc Tryz.prog w 0 sp held m 23 (([v0, Value.slice A1 u1.length cap1, v2, v3].drop 2).take (Tryz.prog.cellsOf 23)) = xs[2]? := hf 2 _ rfl
  rw [cz23, show xs[2]? = some xs[2] from List.getElem?_eq_getElem (by omega)] at f2
  change DataW.trod enc Tryz.prog w 0 sp held m 23 [v2] = some xs[2] at f2
  obtain ⟨A2, len2, cap2, e2⟩ : ∃ A len cap, [v2] = [Value.slice A len cap] := by
    rcases Go.Deep.open_slice Tryz.underlying23 f2 with ⟨h0, _⟩ | ⟨a, len', cap', m, n, D, Pl, hcs, _⟩
    · exact ⟨_, _, _, h0⟩
    · exact ⟨_, _, _, hcs⟩
  simp only [List.cons.injEq, and_true] at e2
  subst e2
  obtain ⟨u2, h2⟩ := slice_in (c := (fun a : ByteArray => [Value.string a])) (R := (fun a : ByteArray => a.size ≤ maxLen)) (sz := 1) (fun _ => rfl) (by decide) Tryz.underlying23 (by kernel_rfl) dec9 f2
  have g2 := h2.1
  subst g2
  have f3 : DataW.trod enc Tryz.prog w 0 sp held m 3 (([v0, Value.slice A1 u1.length cap1, Value.slice A2 u2.length cap2, v3].drop 3).take (Tryz.prog.cellsOf 3)) = xs[3]? := hf 3 _ rfl
  rw [cz3, show xs[3]? = some xs[3] from List.getElem?_eq_getElem (by omega)] at f3
  change DataW.trod enc Tryz.prog w 0 sp held m 3 [v3] = some xs[3] at f3
  obtain ⟨u3, e3, _, h3⟩ := DataW.trod_int Tryz.underlying3 f3
  simp only [List.cons.injEq, and_true] at e3
  subst e0 e3
  exact ⟨(u0, ((A1, cap1), u1), ((A2, cap2), u2), u3), rfl, h0, h1, h2, wf_in h3⟩

theorem mem0 (w : World) : Mem (frameW (phOf w) w S0 []) (phOf w) S0 [] w := ⟨fun _ _ h => (by cases h), fun _ _ _ _ h => (by cases h), fun _ _ h => (by cases h), fun _ _ h => (by cases h), phOf_on w, Bel.refl _, fun _ _ _ hv _ => hv⟩
theorem bel0 {w w' : World} {q : PH} {S : Pl} {L : LL} (h : Mem (frameW (phOf w) w S0 []) q S L w') : Below w.heap.size w w' := ⟨h.be.os, h.be.tape, h.be.output, h.be.size, fun k hk => h.be.block k ⟨hk, fun _ _ h => by cases h⟩⟩
theorem walk (w : World) (a0 : (ByteArray × ((Option Addr × Nat) × List (Int × ByteArray × ByteArray × ((Option Addr × Nat) × List ByteArray) × Int × Int × Nat × Nat × Nat × ByteArray × Int × Bool × ((Option Addr × Nat) × List Int) × Nat × ByteArray × ByteArray)) × ((Option Addr × Nat) × List ByteArray) × Int)) (w0 : (fun a : (ByteArray × ((Option Addr × Nat) × List (Int × ByteArray × ByteArray × ((Option Addr × Nat) × List ByteArray) × Int × Int × Nat × Nat × Nat × ByteArray × Int × Bool × ((Option Addr × Nat) × List Int) × Nat × ByteArray × ByteArray)) × ((Option Addr × Nat) × List ByteArray) × Int) => a.1.size ≤ maxLen ∧ SlIn c55 (fun a : (Int × ByteArray × ByteArray × ((Option Addr × Nat) × List ByteArray) × Int × Int × Nat × Nat × Nat × ByteArray × Int × Bool × ((Option Addr × Nat) × List Int) × Nat × ByteArray × ByteArray) => inR .i64 a.1 ∧ a.2.1.size ≤ maxLen ∧ a.2.2.1.size ≤ maxLen ∧ SlIn (fun a : ByteArray => [Value.string a]) (fun a : ByteArray => a.size ≤ maxLen) w a.2.2.2.1.1.1 a.2.2.2.1.2.length a.2.2.2.1.1.2 a.2.2.2.1.2 ∧ inR .i64 a.2.2.2.2.1 ∧ inR .i64 a.2.2.2.2.2.1 ∧ a.2.2.2.2.2.2.1 < 18446744073709551616 ∧ a.2.2.2.2.2.2.2.1 < 18446744073709551616 ∧ a.2.2.2.2.2.2.2.2.1 < 18446744073709551616 ∧ a.2.2.2.2.2.2.2.2.2.1.size ≤ maxLen ∧ inR .i64 a.2.2.2.2.2.2.2.2.2.2.1 ∧ True ∧ SlIn (fun a : Int => [Value.int .i64 a]) (fun a : Int => inR .i64 a) w a.2.2.2.2.2.2.2.2.2.2.2.2.1.1.1 a.2.2.2.2.2.2.2.2.2.2.2.2.1.2.length a.2.2.2.2.2.2.2.2.2.2.2.2.1.1.2 a.2.2.2.2.2.2.2.2.2.2.2.2.1.2 ∧ a.2.2.2.2.2.2.2.2.2.2.2.2.2.1 < 18446744073709551616 ∧ a.2.2.2.2.2.2.2.2.2.2.2.2.2.2.1.size ≤ maxLen ∧ a.2.2.2.2.2.2.2.2.2.2.2.2.2.2.2.size ≤ maxLen) w a.2.1.1.1 a.2.1.2.length a.2.1.1.2 a.2.1.2 ∧ SlIn (fun a : ByteArray => [Value.string a]) (fun a : ByteArray => a.size ≤ maxLen) w a.2.2.1.1.1 a.2.2.1.2.length a.2.2.1.1.2 a.2.2.1.2 ∧ inR .i64 a.2.2.2) a0) (a1 : Int) (w1 : (Lit.int .i64 a1).wf = true) (a2 : Int) (w2 : (Lit.int .i64 a2).wf = true) :
    Calls Tryz.prog 3 #[.agg (c25 a0).toArray, .int .i64 a1, .int .i64 a2] w fun e w' => e = .returned (.bool true) ∧ Below w.heap.size w w' := by
  obtain ⟨v1, hg⟩ := g4_some (a0.1, a0.2.1.2.map e55, a0.2.2.1.2, a0.2.2.2)
  have hs1 := w0.2.1
  have hs2 := w0.2.2.1
  have h := law3 (a0.1, a0.2.1.2.map e55, a0.2.2.1.2, a0.2.2.2) a1 a2 v1 hg a0.2.1.1.1 a0.2.1.1.2 a0.2.2.1.1.1 a0.2.2.1.1.2 a0.2.1.2 (by dsimp only; rw [List.length_map]; exact hs1.2.1) hs2.2.1 rfl (fun p hp => ⟨(hs1.2.2.2 p hp).2.2.2.1.2.1, (hs1.2.2.2 p hp).2.2.2.2.2.2.2.2.2.2.2.2.1.2.1⟩) w (rdsOk_app.2 ⟨⟨slin_reads hs1, (by have := slin_reads hs2; rwa [ecS] at this), trivial⟩, rds_of fun x hx => by
    obtain ⟨p, hp, hx⟩ := List.mem_flatMap.1 hx
    have h := hs1.2.2.2 p hp
    simp only [R55, List.mem_cons, List.not_mem_nil, or_false] at hx
    rcases hx with rfl | rfl
    · have := slin_reads h.2.2.2.1
      rwa [ecS] at this
    · have := slin_reads h.2.2.2.2.2.2.2.2.2.2.2.2.1
      rwa [ecN3] at this⟩)
  dsimp only at h
  rw [List.length_map] at h
  exact h

set_option maxRecDepth 100000 in
theorem lifted (os : Os) (started : os.Started) (H : Type) (enc : TypeId × Value → H) :
    ReturnsInHanded {} Tryz.checked os 3 .any (Rows.viewNobodySpec.pre6 enc Tryz.prog Tryz.f3 Rows.viewNobodyRow.domain false) (Rows.viewNobodySpec.post enc Tryz.prog Tryz.f3 false true false false) := by
  refine returnsInHanded_of_change (C := Tryz.checked) own started (by kernel_rfl) Tryz.func3
    (ChangeSpec.witness6 (enc := enc) (C := Tryz.checked) false ⟨#[], #[.agg #[.string ⟨#[]⟩, .slice none 0 0, .slice none 0 0, .int .i64 0], .int .i64 0, .int .i64 0], []⟩ 8 (by kernel_rfl) (by kernel_rfl) (by kernel_rfl) (by kernel_rfl)) ?_
  intro W base args ds gs before hval0 hW hcnd _
  have hval : ∀ (j : Nat) t v, Tryz.f3.params[j]? = some t → args[j]? = some v → Value.okWide Tryz.prog W .any base t v := hval0
  have hW' := hW
  obtain ⟨p, q, hA0, hV, rfl, hfz, hnd⟩ := hW
  have hA : DataW.TrodAll enc Tryz.prog W 0 (fun _ => true) true Tryz.f3.params.toList args.toList ds p := hA0
  rw [Tryz.params3] at hA hval
  obtain ⟨v0, vs0, d0, ds0, p0, q0, hargs, rfl, rfl, h0, r0⟩ := trodAll_cons hA
  obtain ⟨v1, vs1, d1, ds1, p1, q1, rfl, rfl, rfl, h1, r1⟩ := trodAll_cons r0
  obtain ⟨v2, vs2, d2, ds2, p2, q2, rfl, rfl, rfl, h2, r2⟩ := trodAll_cons r1
  obtain ⟨rfl, rfl, rfl⟩ := trodAll_nil r2
  obtain rfl : args = #[v0, v1, v2] := by cases args; simp_all
  obtain ⟨rfl, rfl⟩ := trodVars_none hV
  obtain ⟨cs0, rfl⟩ : ∃ cs, v0 = Value.agg cs := by
    have h := hval 0 25 v0 rfl rfl
    unfold Value.okWide at h
    rw [Tryz.underlying25] at h
    obtain ⟨cs, e, _⟩ := h
    exact ⟨cs, e⟩
  have k0 := h0
  have lt0 : ∀ x ∈ p0, x.block < W.heap.size := by obtain ⟨m, hm⟩ := k0; exact DataW.trod_lt m _ _ _ hm
  obtain ⟨fuel0, hf0⟩ := h0
  obtain ⟨a0, e0, w0⟩ := dec25 _ _ _ hf0
  replace e0 : cs0.toList = c25 a0 := e0
  obtain rfl : cs0 = (c25 a0).toArray := by rw [← e0]
  obtain ⟨a1, rfl, rfl, rfl, w1⟩ := open_int Tryz.underlying3 (hval 1 3 v1 rfl rfl) h1
  obtain ⟨a2, rfl, rfl, rfl, w2⟩ := open_int Tryz.underlying3 (hval 2 3 v2 rfl rfl) h2
  clear hA0 hval0
  simp only [List.append_nil] at hW'
  refine (walk W a0 w0 a1 w1 a2 w2).mono fun e W' ⟨he, bel⟩ => ?_
  subst he
  exact ⟨_, rfl, _, _, _, [], _, [], hW', trodAll_mk1 (shut_bool Tryz.underlying4 _), (trodAll_cons_mk (Below.trod laidOut (by kernel_rfl) (of_decide_eq_true (by kernel_rfl)) k0 bel lt0) (trodAll_cons_mk (shut_int Tryz.underlying3 w1) (trodAll_cons_mk (shut_int Tryz.underlying3 w2) trodAll_mk0))), rfl, bel.frame _, fun h => by cases h⟩

theorem jnf : Tryz.prog.funcNamed Rows.viewNobodyRow.func = some 3 := by kernel_rfl
theorem jni : Tryz.f3.isInstance Tryz.prog Rows.viewNobodyRow.origin Rows.viewNobodyRow.targs := of_decide_eq_true (by kernel_rfl)
theorem jnw : Tryz.f3.isWrapper Tryz.prog Rows.viewNobodyRow.wrapper Rows.viewNobodyRow.mainSum := by unfold Func.isWrapper; first | (rw [if_pos (by decide +kernel)]; kernel_rfl) | (rw [if_neg (by decide +kernel)]; exact ⟨rfl, rfl⟩)
theorem over : Rows.viewNobodyRow.holds Tryz.pinned (OpenSpec.ofChange Rows.viewNobodySpec) :=
  OpenClaim.holds_of_wide 3 Tryz.f3 rfl rfl rfl rfl rfl rfl rfl ⟨rfl, rfl, rfl, rfl, rfl⟩ rfl rfl rfl rfl rfl jnf Tryz.func3 jnr jni jnw
    (fun os started H enc _ => lifted os started H enc)

theorem proved : Rows.ViewNobodySaid := over
end Go.Proofs.YtnlglgafokjhnaaGreat.viewNobody
