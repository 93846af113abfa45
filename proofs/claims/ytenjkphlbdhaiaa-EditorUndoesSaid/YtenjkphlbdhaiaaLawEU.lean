/- Proved: the law 'EditorUndoes' answers true whatever it is called with, and leaves what it is called with as it was. Conditions: none beyond the row's own. -/
import Derived.Test.YtenjkphlbdhaiaaRows
import Derived.Test.YtenjkphlbdhaiaaEU6
import Derived.Test.YtenjkphlbdhaiaaEU5
import Derived.WalkKit
import Derived.ProofKit
import Derived.OpenShut
import Derived.ShutString
import Derived.ChangeOld
import Derived.Below
namespace Go.Proofs.Ytenjkphlbdhaiaa.editorUndoes
open Go.Eng
open Go.ChangeShapes Go.WideShapes Go.ChangeAt Go.RowKit
open Go.ChangeMaps (open_string shut_string)
set_option linter.unusedVariables false

theorem own : ownKnob Try.prog.godebug = none := by kernel_rfl
theorem laidOut : laidOutB Try.prog = true := by kernel_rfl
set_option maxRecDepth 100000 in
theorem dec67 {H : Type} {enc : TypeId × Value → H} {w : World} {sp : Nat → Bool} {held : Bool} : ∀ n cs (y : DataW H × List MemPlace), DataW.trod enc Try.prog w 0 sp held n 67 cs = some y → ∃ a : (Int × ByteArray × Int), cs = c67 a ∧ (inR .u8 a.1 ∧ a.2.1.size ≤ maxLen ∧ inR .i64 a.2.2) := by
  intro n cs y h
  obtain ⟨xs, m, rfl, hx, hlen, hxl, hf⟩ := DataW.trod_struct Try.underlying67 h
  have hC : Try.prog.cellsOf 67 = 3 := by kernel_rfl
  rw [hC] at hlen
  obtain ⟨v0, v1, v2, rfl⟩ : ∃ v0 v1 v2, cs = [v0, v1, v2] := by
    match cs, hlen with
    | [v0, v1, v2], _ => exact ⟨_, _, _, rfl⟩
  have hx2 : xs.length = 3 := hxl
  have c5 : Try.prog.cellsOf 5 = 1 := by kernel_rfl
  have c9 : Try.prog.cellsOf 9 = 1 := by kernel_rfl
  have c62 : Try.prog.cellsOf 62 = 1 := by kernel_rfl
  have f0 : DataW.trod enc Try.prog w 0 sp held m 5 (([v0, v1, v2].drop 0).take (Try.prog.cellsOf 5)) = xs[0]? := hf 0 _ rfl
  rw [c5, show xs[0]? = some xs[0] from List.getElem?_eq_getElem (by omega)] at f0
  change DataW.trod enc Try.prog w 0 sp held m 5 [v0] = some xs[0] at f0
  obtain ⟨u0, e0, _, h0⟩ := DataW.trod_int Try.underlying5 f0
  simp only [List.cons.injEq, and_true] at e0
  have f1 : DataW.trod enc Try.prog w 0 sp held m 9 (([v0, v1, v2].drop 1).take (Try.prog.cellsOf 9)) = xs[1]? := hf 1 _ rfl
  rw [c9, show xs[1]? = some xs[1] from List.getElem?_eq_getElem (by omega)] at f1
  change DataW.trod enc Try.prog w 0 sp held m 9 [v1] = some xs[1] at f1
  obtain ⟨u1, e1, _, h1⟩ := DataW.trod_string Try.underlying9 f1
  simp only [List.cons.injEq, and_true] at e1
  have f2 : DataW.trod enc Try.prog w 0 sp held m 62 (([v0, v1, v2].drop 2).take (Try.prog.cellsOf 62)) = xs[2]? := hf 2 _ rfl
  rw [c62, show xs[2]? = some xs[2] from List.getElem?_eq_getElem (by omega)] at f2
  change DataW.trod enc Try.prog w 0 sp held m 62 [v2] = some xs[2] at f2
  obtain ⟨u2, e2, _, h2⟩ := DataW.trod_int Try.underlying62 f2
  simp only [List.cons.injEq, and_true] at e2
  subst e0 e1 e2
  exact ⟨(u0, u1, u2), rfl, wf_in h0, h1, wf_in h2⟩

theorem walk (w : World) (A0 : Option Addr) (len0 cap0 : Nat) (l0 : List (Int × ByteArray × Int)) (w0 : SlIn c67 (fun a : (Int × ByteArray × Int) => inR .u8 a.1 ∧ a.2.1.size ≤ maxLen ∧ inR .i64 a.2.2) w A0 len0 cap0 l0) :
    Calls Try.prog 8 #[.slice A0 len0 cap0] w fun e w' => e = .returned (.bool true) ∧ Below w.heap.size w w' := by
  obtain rfl : len0 = l0.length := w0.1
  have h := k8_ok.2 w (phOf w) S0 (l0, true) [.slice A0 l0.length cap0] (g_eq (editorUndoes_law w0.2.2.2)) trivial (phOf_on w) ⟨⟨_, _, rfl, w0.2.1, ec_len c67_len, w0.2.2.1⟩, trivial⟩
  exact h.mono fun e w' ⟨he, hb⟩ => ⟨he.trans rfl, hb⟩

set_option maxRecDepth 100000 in
theorem lifted (os : Os) (started : os.Started) (H : Type) (enc : TypeId × Value → H) :
    ReturnsInHanded {} Try.checked os 8 .any (Rows.editorUndoesSpec.pre6 enc Try.prog Try.f8 Rows.editorUndoesRow.domain false) (Rows.editorUndoesSpec.post enc Try.prog Try.f8 false true false false) := by
  refine returnsInHanded_of_change (C := Try.checked) own started (by kernel_rfl) Try.func8
    (ChangeSpec.witness6 (enc := enc) (C := Try.checked) false ⟨#[], #[.slice none 0 0], []⟩ 8 (by kernel_rfl) (by kernel_rfl) (by kernel_rfl) (by kernel_rfl)) ?_
  intro W base args ds gs before hval0 hW hcnd _
  have hval : ∀ (j : Nat) t v, Try.f8.params[j]? = some t → args[j]? = some v → Value.okWide Try.prog W .any base t v := hval0
  have hW' := hW
  obtain ⟨p, q, hA0, hV, rfl, hfz, hnd⟩ := hW
  have hA : DataW.TrodAll enc Try.prog W 0 (fun _ => true) true Try.f8.params.toList args.toList ds p := hA0
  rw [Try.params8] at hA hval
  obtain ⟨v0, vs0, d0, ds0, p0, q0, hargs, rfl, rfl, h0, r0⟩ := trodAll_cons hA
  obtain ⟨rfl, rfl, rfl⟩ := trodAll_nil r0
  obtain rfl : args = #[v0] := by cases args; simp_all
  obtain ⟨rfl, rfl⟩ := trodVars_none hV
  obtain ⟨A0, len0, cap0, rfl⟩ := okWide_slice Try.underlying65 (hval 0 65 v0 rfl rfl)
  have k0 := h0
  have lt0 : ∀ x ∈ p0, x.block < W.heap.size := by obtain ⟨m, hm⟩ := k0; exact DataW.trod_lt m _ _ _ hm
  obtain ⟨l0, w0⟩ : ∃ l : List (Int × ByteArray × Int), SlIn c67 (fun a : (Int × ByteArray × Int) => inR .u8 a.1 ∧ a.2.1.size ≤ maxLen ∧ inR .i64 a.2.2) W A0 len0 cap0 l := by
    obtain ⟨fuel, hf⟩ := h0
    exact slice_in c67_len (by decide) Try.underlying65 (by kernel_rfl) dec67 hf
  clear hA0 hval0
  refine (walk W A0 len0 cap0 l0 w0).mono fun e W' ⟨he, bel⟩ => ?_
  subst he
  exact ⟨_, rfl, _, _, _, [], _, [], hW', trodAll_mk1 (shut_bool Try.underlying4 _), (trodAll_cons_mk (Below.trod laidOut (by kernel_rfl) (of_decide_eq_true (by kernel_rfl)) k0 bel lt0) trodAll_mk0), rfl, bel.frame _, fun h => by cases h⟩

theorem over : Rows.editorUndoesRow.holds Try.pinned (OpenSpec.ofChange Rows.editorUndoesSpec) :=
  OpenClaim.holds_of_wide 8 Try.f8 rfl rfl rfl rfl rfl rfl rfl ⟨rfl, rfl, rfl, rfl, rfl⟩ rfl rfl rfl rfl rfl (by kernel_rfl) Try.func8 (by kernel_rfl)
    (of_decide_eq_true (by kernel_rfl)) (by unfold Func.isWrapper; first | (rw [if_pos (by decide +kernel)]; kernel_rfl) | (rw [if_neg (by decide +kernel)]; exact ⟨rfl, rfl⟩))
    (fun os started H enc _ => lifted os started H enc)

theorem proved : Rows.EditorUndoesSaid := over
end Go.Proofs.Ytenjkphlbdhaiaa.editorUndoes
