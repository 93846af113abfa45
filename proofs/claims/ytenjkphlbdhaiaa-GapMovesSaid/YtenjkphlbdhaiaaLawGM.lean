/- Proved: the law 'GapMoves' answers true whatever it is called with, and leaves what it is called with as it was. Conditions: none beyond the row's own. -/
import Derived.Test.YtenjkphlbdhaiaaRows
import Derived.Test.YtenjkphlbdhaiaaPlainGB
import Derived.Test.YtenjkphlbdhaiaaLiftM3
import Derived.WalkKit
import Derived.ProofKit
import Derived.OpenShut
import Derived.ShutString
import Derived.ChangeOld
import Derived.Below
namespace Go.Proofs.Ytenjkphlbdhaiaa.gapMoves
open Go.Eng
open Go.ChangeShapes Go.WideShapes Go.ChangeAt Go.RowKit
open Go.ChangeMaps (open_string shut_string)
set_option linter.unusedVariables false

theorem own : ownKnob Try.prog.godebug = none := by kernel_rfl
theorem laidOut : laidOutB Try.prog = true := by kernel_rfl
theorem dec3 {H : Type} {enc : TypeId × Value → H} {w : World} {sp : Nat → Bool} {held : Bool} : ∀ n cs (y : DataW H × List MemPlace), DataW.trod enc Try.prog w 0 sp held n 3 cs = some y → ∃ a : Int, cs = [.int .i64 a] ∧ inR .i64 a := by
  intro n cs y h
  obtain ⟨v, rfl, _, hw⟩ := DataW.trod_int Try.underlying3 h
  exact ⟨v, rfl, wf_in hw⟩
theorem ecN3 : ∀ l : List Int, ec (fun a : Int => [Value.int .i64 a]) l = ei .i64 l
  | [] => rfl
  | x :: t => congrArg (List.cons (Value.int .i64 x)) (ecN3 t)

theorem walk (w : World) (a0 : ByteArray) (w0 : a0.size ≤ maxLen) (a1 : Int) (w1 : (Lit.int .i64 a1).wf = true) (A2 : Option Addr) (len2 cap2 : Nat) (l2 : List Int) (w2 : SlIn (fun a : Int => [Value.int .i64 a]) (fun a : Int => inR .i64 a) w A2 len2 cap2 l2) :
    Calls Try.prog 3 #[.string a0, .int .i64 a1, .slice A2 len2 cap2] w fun e w' => e = .returned (.bool true) ∧ Below w.heap.size w w' := by
  obtain rfl : len2 = l2.length := w2.1
  have h := k3_ok.2 w (phOf w) S0 (a0, a1, l2, true) [.string a0, .int .i64 a1, .slice A2 l2.length cap2] (g_eq (gapMoves_law w0 (wf_in w1) w2.2.2.2)) trivial (phOf_on w) ⟨rfl, rfl, ⟨_, _, rfl, w2.2.1, ei_len.trans (Nat.mul_one _).symm, (by have := w2.2.2.1; rwa [ecN3 l2] at this)⟩, trivial⟩
  exact h.mono fun e w' ⟨he, hb⟩ => ⟨he.trans rfl, hb⟩

set_option maxRecDepth 100000 in
theorem lifted (os : Os) (started : os.Started) (H : Type) (enc : TypeId × Value → H) :
    ReturnsInHanded {} Try.checked os 3 .any (Rows.gapMovesSpec.pre6 enc Try.prog Try.f3 Rows.gapMovesRow.domain false) (Rows.gapMovesSpec.post enc Try.prog Try.f3 false true false false) := by
  refine returnsInHanded_of_change (C := Try.checked) own started (by kernel_rfl) Try.func3
    (ChangeSpec.witness6 (enc := enc) (C := Try.checked) false ⟨#[], #[.string ⟨#[]⟩, .int .i64 0, .slice none 0 0], []⟩ 8 (by kernel_rfl) (by kernel_rfl) (by kernel_rfl) (by kernel_rfl)) ?_
  intro W base args ds gs before hval0 hW hcnd _
  have hval : ∀ (j : Nat) t v, Try.f3.params[j]? = some t → args[j]? = some v → Value.okWide Try.prog W .any base t v := hval0
  have hW' := hW
  obtain ⟨p, q, hA0, hV, rfl, hfz, hnd⟩ := hW
  have hA : DataW.TrodAll enc Try.prog W 0 (fun _ => true) true Try.f3.params.toList args.toList ds p := hA0
  rw [Try.params3] at hA hval
  obtain ⟨v0, vs0, d0, ds0, p0, q0, hargs, rfl, rfl, h0, r0⟩ := trodAll_cons hA
  obtain ⟨v1, vs1, d1, ds1, p1, q1, rfl, rfl, rfl, h1, r1⟩ := trodAll_cons r0
  obtain ⟨v2, vs2, d2, ds2, p2, q2, rfl, rfl, rfl, h2, r2⟩ := trodAll_cons r1
  obtain ⟨rfl, rfl, rfl⟩ := trodAll_nil r2
  obtain rfl : args = #[v0, v1, v2] := by cases args; simp_all
  obtain ⟨rfl, rfl⟩ := trodVars_none hV
  obtain ⟨a0, rfl, rfl, rfl, w0⟩ := open_string Try.underlying9 (hval 0 9 v0 rfl rfl) h0
  obtain ⟨a1, rfl, rfl, rfl, w1⟩ := open_int Try.underlying3 (hval 1 3 v1 rfl rfl) h1
  obtain ⟨A2, len2, cap2, rfl⟩ := okWide_slice Try.underlying22 (hval 2 22 v2 rfl rfl)
  have k2 := h2
  have lt2 : ∀ x ∈ p2, x.block < W.heap.size := by obtain ⟨m, hm⟩ := k2; exact DataW.trod_lt m _ _ _ hm
  obtain ⟨l2, w2⟩ : ∃ l : List Int, SlIn (fun a : Int => [Value.int .i64 a]) (fun a : Int => inR .i64 a) W A2 len2 cap2 l := by
    obtain ⟨fuel, hf⟩ := h2
    exact slice_in (fun _ => rfl) (by decide) Try.underlying22 (by kernel_rfl) dec3 hf
  clear hA0 hval0
  refine (walk W a0 w0 a1 w1 A2 len2 cap2 l2 w2).mono fun e W' ⟨he, bel⟩ => ?_
  subst he
  exact ⟨_, rfl, _, _, _, [], _, [], hW', trodAll_mk1 (shut_bool Try.underlying4 _), (trodAll_cons_mk (shut_string Try.underlying9 w0) (trodAll_cons_mk (shut_int Try.underlying3 w1) (trodAll_cons_mk (Below.trod laidOut (by kernel_rfl) (of_decide_eq_true (by kernel_rfl)) k2 bel lt2) trodAll_mk0))), rfl, bel.frame _, fun h => by cases h⟩

theorem over : Rows.gapMovesRow.holds Try.pinned (OpenSpec.ofChange Rows.gapMovesSpec) :=
  OpenClaim.holds_of_wide 3 Try.f3 rfl rfl rfl rfl rfl rfl rfl ⟨rfl, rfl, rfl, rfl, rfl⟩ rfl rfl rfl rfl rfl (by kernel_rfl) Try.func3 (by kernel_rfl)
    (of_decide_eq_true (by kernel_rfl)) (by unfold Func.isWrapper; first | (rw [if_pos (by decide +kernel)]; kernel_rfl) | (rw [if_neg (by decide +kernel)]; exact ⟨rfl, rfl⟩))
    (fun os started H enc _ => lifted os started H enc)

theorem proved : Rows.GapMovesSaid := over
end Go.Proofs.Ytenjkphlbdhaiaa.gapMoves
