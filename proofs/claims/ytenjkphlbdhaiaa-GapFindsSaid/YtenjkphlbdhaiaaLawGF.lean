/- Proved: the law 'GapFinds' answers true whatever it is called with, and leaves what it is called with as it was. Conditions: none beyond the row's own. -/
import Derived.Test.YtenjkphlbdhaiaaRows
import Derived.Test.YtenjkphlbdhaiaaPlainBp
import Derived.Test.YtenjkphlbdhaiaaLiftM5
import Derived.WalkKit
import Derived.ProofKit
import Derived.OpenShut
import Derived.ShutString
import Derived.ChangeOld
import Derived.Below
set_option linter.unusedSimpArgs false
namespace Go.Proofs.Ytenjkphlbdhaiaa.gapFinds
open Go.Eng
open Go.ChangeShapes Go.WideShapes Go.ChangeAt Go.RowKit
open Go.ChangeMaps (open_string shut_string)
set_option linter.unusedVariables false

theorem own : ownKnob Try.prog.godebug = none := by kernel_rfl
theorem laidOut : laidOutB Try.prog = true := by kernel_rfl
theorem dec9 {H : Type} {enc : TypeId × Value → H} {w : World} {sp : Nat → Bool} {held : Bool} : ∀ n cs (y : DataW H × List MemPlace), DataW.trod enc Try.prog w 0 sp held n 9 cs = some y → ∃ a : ByteArray, cs = [.string a] ∧ a.size ≤ maxLen := by
  intro n cs y h
  obtain ⟨v, rfl, _, hw⟩ := DataW.trod_string Try.underlying9 h
  exact ⟨v, rfl, hw⟩

theorem walk (w : World) (a0 : ByteArray) (w0 : a0.size ≤ maxLen) (a1 : Int) (w1 : (Lit.int .i64 a1).wf = true) (a2 : Int) (w2 : (Lit.int .u8 a2).wf = true) (A3 : Option Addr) (len3 cap3 : Nat) (l3 : List ByteArray) (w3 : SlIn (fun a : ByteArray => [Value.string a]) (fun a : ByteArray => a.size ≤ maxLen) w A3 len3 cap3 l3) :
    Calls Try.prog 5 #[.string a0, .int .i64 a1, .int .u8 a2, .slice A3 len3 cap3] w fun e w' => e = .returned (.bool true) ∧ Below w.heap.size w w' := by
  obtain rfl : len3 = l3.length := w3.1
  have h := k5_ok.2 w (phOf w) S0 (a0, a1, a2, l3, true) [.string a0, .int .i64 a1, .int .u8 a2, .slice A3 l3.length cap3] (g_eq (gapFinds_law w0 (wf_in w1) (wf_in w2) w3.2.2.2)) trivial (phOf_on w) ⟨rfl, rfl, rfl, ⟨_, _, rfl, w3.2.1, es_len.trans (Nat.mul_one _).symm, (by have := w3.2.2.1; rwa [ecS l3] at this)⟩, trivial⟩
  exact h.mono fun e w' ⟨he, hb⟩ => ⟨he.trans rfl, hb⟩

set_option maxRecDepth 100000 in
theorem lifted (os : Os) (started : os.Started) (H : Type) (enc : TypeId × Value → H) :
    ReturnsInHanded {} Try.checked os 5 .any (Rows.gapFindsSpec.pre6 enc Try.prog Try.f5 Rows.gapFindsRow.domain false) (Rows.gapFindsSpec.post enc Try.prog Try.f5 false true false false) := by
  refine returnsInHanded_of_change (C := Try.checked) own started (by kernel_rfl) Try.func5
    (ChangeSpec.witness6 (enc := enc) (C := Try.checked) false ⟨#[], #[.string ⟨#[]⟩, .int .i64 0, .int .u8 0, .slice none 0 0], []⟩ 8 (by kernel_rfl) (by kernel_rfl) (by kernel_rfl) (by kernel_rfl)) ?_
  intro W base args ds gs before hval0 hW hcnd _
  have hval : ∀ (j : Nat) t v, Try.f5.params[j]? = some t → args[j]? = some v → Value.okWide Try.prog W .any base t v := hval0
  have hW' := hW
  obtain ⟨p, q, hA0, hV, rfl, hfz, hnd⟩ := hW
  have hA : DataW.TrodAll enc Try.prog W 0 (fun _ => true) true Try.f5.params.toList args.toList ds p := hA0
  rw [Try.params5] at hA hval
  obtain ⟨v0, vs0, d0, ds0, p0, q0, hargs, rfl, rfl, h0, r0⟩ := trodAll_cons hA
  obtain ⟨v1, vs1, d1, ds1, p1, q1, rfl, rfl, rfl, h1, r1⟩ := trodAll_cons r0
  obtain ⟨v2, vs2, d2, ds2, p2, q2, rfl, rfl, rfl, h2, r2⟩ := trodAll_cons r1
  obtain ⟨v3, vs3, d3, ds3, p3, q3, rfl, rfl, rfl, h3, r3⟩ := trodAll_cons r2
  obtain ⟨rfl, rfl, rfl⟩ := trodAll_nil r3
  obtain rfl : args = #[v0, v1, v2, v3] := by cases args; simp_all
  obtain ⟨rfl, rfl⟩ := trodVars_none hV
  obtain ⟨a0, rfl, rfl, rfl, w0⟩ := open_string Try.underlying9 (hval 0 9 v0 rfl rfl) h0
  obtain ⟨a1, rfl, rfl, rfl, w1⟩ := open_int Try.underlying3 (hval 1 3 v1 rfl rfl) h1
  obtain ⟨a2, rfl, rfl, rfl, w2⟩ := open_int Try.underlying5 (hval 2 5 v2 rfl rfl) h2
  obtain ⟨A3, len3, cap3, rfl⟩ := okWide_slice Try.underlying25 (hval 3 25 v3 rfl rfl)
  have k3 := h3
  have lt3 : ∀ x ∈ p3, x.block < W.heap.size := by obtain ⟨m, hm⟩ := k3; exact DataW.trod_lt m _ _ _ hm
  obtain ⟨l3, w3⟩ : ∃ l : List ByteArray, SlIn (fun a : ByteArray => [Value.string a]) (fun a : ByteArray => a.size ≤ maxLen) W A3 len3 cap3 l := by
    obtain ⟨fuel, hf⟩ := h3
    exact slice_in (fun _ => rfl) (by decide) Try.underlying25 (by kernel_rfl) dec9 hf
  clear hA0 hval0
  refine (walk W a0 w0 a1 w1 a2 w2 A3 len3 cap3 l3 w3).mono fun e W' ⟨he, bel⟩ => ?_
  subst he
  exact ⟨_, rfl, _, _, _, [], _, [], hW', trodAll_mk1 (shut_bool Try.underlying4 _), (trodAll_cons_mk (shut_string Try.underlying9 w0) (trodAll_cons_mk (shut_int Try.underlying3 w1) (trodAll_cons_mk (shut_int Try.underlying5 w2) (trodAll_cons_mk (Below.trod laidOut (by kernel_rfl) (of_decide_eq_true (by kernel_rfl)) k3 bel lt3) trodAll_mk0)))), rfl, bel.frame _, fun h => by cases h⟩

theorem over : Rows.gapFindsRow.holds Try.pinned (OpenSpec.ofChange Rows.gapFindsSpec) :=
  OpenClaim.holds_of_wide 5 Try.f5 rfl rfl rfl rfl rfl rfl rfl ⟨rfl, rfl, rfl, rfl, rfl⟩ rfl rfl rfl rfl rfl (by kernel_rfl) Try.func5 (by kernel_rfl)
    (of_decide_eq_true (by kernel_rfl)) (by unfold Func.isWrapper; first | (rw [if_pos (by decide +kernel)]; kernel_rfl) | (rw [if_neg (by decide +kernel)]; exact ⟨rfl, rfl⟩))
    (fun os started H enc _ => lifted os started H enc)

theorem proved : Rows.GapFindsSaid := over
end Go.Proofs.Ytenjkphlbdhaiaa.gapFinds
