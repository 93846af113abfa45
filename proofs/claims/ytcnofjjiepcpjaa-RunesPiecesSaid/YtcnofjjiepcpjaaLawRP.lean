/- Proved: the law 'RunesPieces' answers true whatever it is called with, and leaves what it is called with as it was. Conditions: none beyond the row's own. -/
import Derived.Test.YtcnofjjiepcpjaaRows
import Derived.Test.YtcnofjjiepcpjaaPlainRh
import Derived.Test.YtcnofjjiepcpjaaEngLd
import Derived.WalkKit
import Derived.ProofKit
import Derived.OpenShut
import Derived.ShutString
import Derived.ChangeOld
import Derived.Below
namespace Go.Proofs.Ytcnofjjiepcpjaa.runesPieces
open Go.Eng
open Go.ChangeShapes Go.WideShapes Go.ChangeAt Go.RowKit
open Go.ChangeMaps (open_string shut_string)
set_option linter.unusedVariables false

theorem own : ownKnob Try.prog.godebug = none := by kernel_rfl
theorem laidOut : laidOutB Try.prog = true := by kernel_rfl
theorem dec5 {H : Type} {enc : TypeId × Value → H} {w : World} {sp : Nat → Bool} {held : Bool} : ∀ n cs (y : DataW H × List MemPlace), DataW.trod enc Try.prog w 0 sp held n 5 cs = some y → ∃ a : Int, cs = [.int .u8 a] ∧ inR .u8 a := by
  intro n cs y h
  obtain ⟨v, rfl, _, hw⟩ := DataW.trod_int Try.underlying5 h
  exact ⟨v, rfl, wf_in hw⟩
theorem ecN5 : ∀ l : List Int, ec (fun a : Int => [Value.int .u8 a]) l = ei .u8 l
  | [] => rfl
  | x :: t => congrArg (List.cons (Value.int .u8 x)) (ecN5 t)
theorem dec22 {H : Type} {enc : TypeId × Value → H} {w : World} {sp : Nat → Bool} {held : Bool} : ∀ n cs (y : DataW H × List MemPlace), DataW.trod enc Try.prog w 0 sp held n 22 cs = some y → ∃ a : ((Option Addr × Nat) × List Int), cs = c22 a ∧ (fun a : ((Option Addr × Nat) × List Int) => SlIn (fun a : Int => [Value.int .u8 a]) (fun a : Int => inR .u8 a) w a.1.1 a.2.length a.1.2 a.2) a := by
  intro n cs y h
  obtain ⟨A, len, cap, rfl⟩ : ∃ A len cap, cs = [.slice A len cap] := by
    rcases Go.Deep.open_slice Try.underlying22 h with ⟨h0, _⟩ | ⟨a, len', cap', m, n, D, Pl, hcs, _⟩
    · exact ⟨_, _, _, h0⟩
    · exact ⟨_, _, _, hcs⟩
  obtain ⟨l, hl⟩ := slice_in (c := (fun a : Int => [Value.int .u8 a])) (R := (fun a : Int => inR .u8 a)) (sz := 1) (fun _ => rfl) (by decide) Try.underlying22 (by kernel_rfl) dec5 h
  have e := hl.1
  subst e
  exact ⟨((A, cap), l), rfl, hl⟩

theorem walk (w : World) (A0 : Option Addr) (len0 cap0 : Nat) (l0 : List ((Option Addr × Nat) × List Int)) (w0 : SlIn c22 (fun a : ((Option Addr × Nat) × List Int) => SlIn (fun a : Int => [Value.int .u8 a]) (fun a : Int => inR .u8 a) w a.1.1 a.2.length a.1.2 a.2) w A0 len0 cap0 l0) :
    Calls Try.prog 6 #[.slice A0 len0 cap0] w fun e w' => e = .returned (.bool true) ∧ Below w.heap.size w w' := by
  obtain rfl : len0 = l0.length := w0.1
  have h := k6_ok.2 w (phOf w) S0 (l0, true) [.slice A0 l0.length cap0] ⟨g_eq (pieces_law (fun q hq => (w0.2.2.2 q hq).2.2.2)), fun p hp => (w0.2.2.2 p hp).2.1⟩ (rds_of fun x hx => by obtain ⟨p, hp, hx⟩ := List.mem_flatMap.1 hx; simp only [R22, List.mem_cons, List.not_mem_nil, or_false] at hx; subst hx; have := slin_reads (w0.2.2.2 p hp); rwa [ecN5] at this) (phOf_on w) ⟨⟨_, _, rfl, w0.2.1, ec_len c22_len, w0.2.2.1⟩, trivial⟩
  exact h.mono fun e w' ⟨he, hb⟩ => ⟨he.trans rfl, hb⟩

set_option maxRecDepth 100000 in
theorem lifted (os : Os) (started : os.Started) (H : Type) (enc : TypeId × Value → H) :
    ReturnsInHanded {} Try.checked os 6 .any (Rows.runesPiecesSpec.pre6 enc Try.prog Try.f6 Rows.runesPiecesRow.domain false) (Rows.runesPiecesSpec.post enc Try.prog Try.f6 false true false false) := by
  refine returnsInHanded_of_change (C := Try.checked) own started (by kernel_rfl) Try.func6
    (ChangeSpec.witness6 (enc := enc) (C := Try.checked) false ⟨#[], #[.slice none 0 0], []⟩ 8 (by kernel_rfl) (by kernel_rfl) (by kernel_rfl) (by kernel_rfl)) ?_
  intro W base args ds gs before hval0 hW hcnd _
  have hval : ∀ (j : Nat) t v, Try.f6.params[j]? = some t → args[j]? = some v → Value.okWide Try.prog W .any base t v := hval0
  have hW' := hW
  obtain ⟨p, q, hA0, hV, rfl, hfz, hnd⟩ := hW
  have hA : DataW.TrodAll enc Try.prog W 0 (fun _ => true) true Try.f6.params.toList args.toList ds p := hA0
  rw [Try.params6] at hA hval
  obtain ⟨v0, vs0, d0, ds0, p0, q0, hargs, rfl, rfl, h0, r0⟩ := trodAll_cons hA
  obtain ⟨rfl, rfl, rfl⟩ := trodAll_nil r0
  obtain rfl : args = #[v0] := by cases args; simp_all
  obtain ⟨rfl, rfl⟩ := trodVars_none hV
  obtain ⟨A0, len0, cap0, rfl⟩ := okWide_slice Try.underlying42 (hval 0 42 v0 rfl rfl)
  have k0 := h0
  have lt0 : ∀ x ∈ p0, x.block < W.heap.size := by obtain ⟨m, hm⟩ := k0; exact DataW.trod_lt m _ _ _ hm
  obtain ⟨l0, w0⟩ : ∃ l : List ((Option Addr × Nat) × List Int), SlIn c22 (fun a : ((Option Addr × Nat) × List Int) => SlIn (fun a : Int => [Value.int .u8 a]) (fun a : Int => inR .u8 a) W a.1.1 a.2.length a.1.2 a.2) W A0 len0 cap0 l := by
    obtain ⟨fuel, hf⟩ := h0
    exact slice_in c22_len (by decide) Try.underlying42 (by kernel_rfl) dec22 hf
  clear hA0 hval0
  refine (walk W A0 len0 cap0 l0 w0).mono fun e W' ⟨he, bel⟩ => ?_
  subst he
  exact ⟨_, rfl, _, _, _, [], _, [], hW', trodAll_mk1 (shut_bool Try.underlying4 _), (trodAll_cons_mk (Below.trod laidOut (by kernel_rfl) (of_decide_eq_true (by kernel_rfl)) k0 bel lt0) trodAll_mk0), rfl, bel.frame _, fun h => by cases h⟩

theorem over : Rows.runesPiecesRow.holds Try.pinned (OpenSpec.ofChange Rows.runesPiecesSpec) :=
  OpenClaim.holds_of_wide 6 Try.f6 rfl rfl rfl rfl rfl rfl rfl ⟨rfl, rfl, rfl, rfl, rfl⟩ rfl rfl rfl rfl rfl (by kernel_rfl) Try.func6 (by kernel_rfl)
    (of_decide_eq_true (by kernel_rfl)) (by unfold Func.isWrapper; first | (rw [if_pos (by decide +kernel)]; kernel_rfl) | (rw [if_neg (by decide +kernel)]; exact ⟨rfl, rfl⟩))
    (fun os started H enc _ => lifted os started H enc)

theorem proved : Rows.RunesPiecesSaid := over
end Go.Proofs.Ytcnofjjiepcpjaa.runesPieces
