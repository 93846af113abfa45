/- Proved: the law 'KeyinRuns' answers true whatever it is called with, and leaves what it is called with as it was. Conditions: none beyond the row's own. -/
import Derived.Test.YtenjkphlbdhaiaaDoorRows
import Derived.Test.YtenjkphlbdhaiaaDoorCards
import Derived.Test.YtenjkphlbdhaiaaDoorTie
import Derived.Test.YtenjkphlbdhaiaaDoorPlainKq
import Derived.Test.YtenjkphlbdhaiaaDoorLiftD6
import Derived.WalkKit
import Derived.ProofKit
import Derived.OpenShut
import Derived.ShutString
import Derived.ChangeOld
import Derived.Below
import Derived.LaidMore
import Derived.Stop.Joined
import Derived.SevenTiedAt
set_option linter.unusedVariables false
set_option linter.unusedSimpArgs false
namespace Go.Proofs.YtenjkphlbdhaiaaDoor.keyinRuns
open Go.Eng
open Go.ChangeShapes Go.WideShapes Go.ChangeAt Go.RowKit
open Go.ChangeMaps (open_string shut_string)
set_option linter.unusedVariables false

theorem own : ownKnob Tryd.prog.godebug = none := by kernel_rfl
theorem laidOut : laidOutB Tryd.prog = true := by kernel_rfl
theorem dec5 {H : Type} {enc : TypeId × Value → H} {w : World} {sp : Nat → Bool} {held : Bool} : ∀ n cs (y : DataW H × List MemPlace), DataW.trod enc Tryd.prog w 0 sp held n 5 cs = some y → ∃ a : Int, cs = [.int .u8 a] ∧ inR .u8 a := by
  intro n cs y h
  obtain ⟨v, rfl, _, hw⟩ := DataW.trod_int Tryd.underlying5 h
  exact ⟨v, rfl, wf_in hw⟩
theorem ecN5 : ∀ l : List Int, ec (fun a : Int => [Value.int .u8 a]) l = ei .u8 l
  | [] => rfl
  | x :: t => congrArg (List.cons (Value.int .u8 x)) (ecN5 t)
set_option maxRecDepth 100000 in
theorem dec40 {H : Type} {enc : TypeId × Value → H} {w : World} {sp : Nat → Bool} {held : Bool} : ∀ n cs (y : DataW H × List MemPlace), DataW.trod enc Tryd.prog w 0 sp held n 40 cs = some y → ∃ a : (Int × ((Option Addr × Nat) × List Int)), cs = c40 a ∧ (inR .u8 a.1 ∧ SlIn (fun a : Int => [Value.int .u8 a]) (fun a : Int => inR .u8 a) w a.2.1.1 a.2.2.length a.2.1.2 a.2.2) := by
  intro n cs y h
  obtain ⟨xs, m, rfl, hx, hlen, hxl, hf⟩ := DataW.trod_struct Tryd.underlying40 h
  have hC : Tryd.prog.cellsOf 40 = 2 := by kernel_rfl
  rw [hC] at hlen
  obtain ⟨v0, v1, rfl⟩ : ∃ v0 v1, cs = [v0, v1] := by
    match cs, hlen with
    | [v0, v1], _ => exact ⟨_, _, rfl⟩
  have hx2 : xs.length = 2 := hxl
  have c5 : Tryd.prog.cellsOf 5 = 1 := by kernel_rfl
  have c22 : Tryd.prog.cellsOf 22 = 1 := by kernel_rfl
  have f0 : DataW.trod enc Tryd.prog w 0 sp held m 5 (([v0, v1].drop 0).take (Tryd.prog.cellsOf 5)) = xs[0]? := hf 0 _ rfl
  rw [c5, show xs[0]? = some xs[0] from List.getElem?_eq_getElem (by omega)] at f0
  change DataW.trod enc Tryd.prog w 0 sp held m 5 [v0] = some xs[0] at f0
  obtain ⟨u0, e0, _, h0⟩ := DataW.trod_int Tryd.underlying5 f0
  simp only [List.cons.injEq, and_true] at e0
  have f1 : DataW.trod enc Tryd.prog w 0 sp held m 22 (([v0, v1].drop 1).take (Tryd.prog.cellsOf 22)) = xs[1]? := hf 1 _ rfl
  rw [c22, show xs[1]? = some xs[1] from List.getElem?_eq_getElem (by omega)] at f1
  change DataW.trod enc Tryd.prog w 0 sp held m 22 [v1] = some xs[1] at f1
  obtain ⟨A1, len1, cap1, e1⟩ : ∃ A len cap, [v1] = [Value.slice A len cap] := by
    rcases Go.Deep.open_slice Tryd.underlying22 f1 with ⟨h0, _⟩ | ⟨a, len', cap', m, n, D, Pl, hcs, _⟩
    · exact ⟨_, _, _, h0⟩
    · exact ⟨_, _, _, hcs⟩
  simp only [List.cons.injEq, and_true] at e1
  subst e1
  obtain ⟨u1, h1⟩ := slice_in (c := (fun a : Int => [Value.int .u8 a])) (R := (fun a : Int => inR .u8 a)) (sz := 1) (fun _ => rfl) (by decide) Tryd.underlying22 (by kernel_rfl) dec5 f1
  have g1 := h1.1
  subst g1
  subst e0
  exact ⟨(u0, ((A1, cap1), u1)), rfl, wf_in h0, h1⟩

theorem walk (w : World) (A0 : Option Addr) (len0 cap0 : Nat) (l0 : List (Int × ((Option Addr × Nat) × List Int))) (w0 : SlIn c40 (fun a : (Int × ((Option Addr × Nat) × List Int)) => inR .u8 a.1 ∧ SlIn (fun a : Int => [Value.int .u8 a]) (fun a : Int => inR .u8 a) w a.2.1.1 a.2.2.length a.2.1.2 a.2.2) w A0 len0 cap0 l0) :
    Calls Tryd.prog 5 #[.slice A0 len0 cap0] w fun e w' => e = .returned (.bool true) ∧ Below w.heap.size w w' := by
  obtain rfl : len0 = l0.length := w0.1
  have h := k5_ok.2 w (phOf w) S0 (l0, true) [.slice A0 l0.length cap0] ⟨(g_eq (runs_law (fun q hq => by have h := w0.2.2.2 q hq; exact ⟨(h.1), (h.2).2.2.2⟩))), fun p hp => by have h := w0.2.2.2 p hp; exact (h.2).2.1⟩ (rds_of fun x hx => by obtain ⟨p, hp, hx⟩ := List.mem_flatMap.1 hx; have h := w0.2.2.2 p hp; simp only [R40, List.mem_cons, List.not_mem_nil, or_false] at hx; rcases hx with rfl; exact (by have := slin_reads (h.2); rwa [ecN5] at this)) (phOf_on w) ⟨⟨_, _, rfl, w0.2.1, ec_len c40_len, w0.2.2.1⟩, trivial⟩
  exact h.mono fun e w' ⟨he, hb⟩ => ⟨he.trans rfl, hb⟩

theorem door_met (os : Os) (args : Array Value) : laidMetH Tryd.prog Rows.keyinRunsRow.laid ((World.doorLaid Tryd.prog 4000 os).forCall (fun _ _ => 0) ⟨#[], args, []⟩).memory :=
  laidMetH_of_parts3 (fuel := 8) (laidMet_of_run' 8 (by kernel_rfl) (by kernel_rfl)) (by kernel_rfl) (by kernel_rfl)
set_option maxRecDepth 100000 in
theorem lifted (os : Os) (started : os.Started) (H : Type) (enc : TypeId × Value → H) :
    ReturnsInHanded {} Tryd.checked os 5 .any (fun w args => (Rows.keyinRunsSpec.pre enc Tryd.prog Tryd.f5 [] false w args ∧ laidMetH Tryd.prog Rows.keyinRunsRow.laid w) ∧ sizedMet enc Tryd.prog Tryd.f5 (OpenSpec.ofChange Rows.keyinRunsSpec) false w args) (Rows.keyinRunsSpec.post enc Tryd.prog Tryd.f5 false true false false) := by
  refine returnsInHanded_of_change_and (C := Tryd.checked) (X := fun w _ => laidMetH Tryd.prog Rows.keyinRunsRow.laid w) (fun _ _ _ hh h => h.of_heap hh) own started (by kernel_rfl) Tryd.func5
    (ChangeSpec.witness_shaped (enc := enc) (C := Tryd.checked) (os := os) (X := fun w _ => laidMetH Tryd.prog Rows.keyinRunsRow.laid w) false (World.doorLaid Tryd.prog 4000 os) #[.slice none 0 0] 8 rfl (World.shaped_of_RefB (by kernel_rfl) (by kernel_rfl)) (by kernel_rfl) (by kernel_rfl) (by kernel_rfl) (door_met os _)) ?_
  intro W base args ds gs before hval0 hW _ hz hL _
  have hval : ∀ (j : Nat) t v, Tryd.f5.params[j]? = some t → args[j]? = some v → Value.okWide Tryd.prog W .any base t v := hval0
  have hW' := hW
  obtain ⟨p, q, hA0, hV, rfl, hfz, hnd⟩ := hW
  have hA : DataW.TrodAll enc Tryd.prog W 0 (fun _ => true) true Tryd.f5.params.toList args.toList ds p := hA0
  rw [Tryd.params5] at hA hval
  obtain ⟨v0, vs0, d0, ds0, p0, q0, hargs, rfl, rfl, h0, r0⟩ := trodAll_cons hA
  obtain ⟨rfl, rfl, rfl⟩ := trodAll_nil r0
  obtain rfl : args = #[v0] := by cases args; simp_all
  obtain ⟨rfl, rfl⟩ := trodVars_none hV
  obtain ⟨A0, len0, cap0, rfl⟩ := okWide_slice Tryd.underlying38 (hval 0 38 v0 rfl rfl)
  have k0 := h0
  have lt0 : ∀ x ∈ p0, x.block < W.heap.size := by obtain ⟨m, hm⟩ := k0; exact DataW.trod_lt m _ _ _ hm
  obtain ⟨l0, w0⟩ : ∃ l : List (Int × ((Option Addr × Nat) × List Int)), SlIn c40 (fun a : (Int × ((Option Addr × Nat) × List Int)) => inR .u8 a.1 ∧ SlIn (fun a : Int => [Value.int .u8 a]) (fun a : Int => inR .u8 a) W a.2.1.1 a.2.2.length a.2.1.2 a.2.2) W A0 len0 cap0 l := by
    obtain ⟨fuel, hf⟩ := h0
    exact slice_in c40_len (by decide) Tryd.underlying38 (by kernel_rfl) dec40 hf
  clear hA0 hval0
  refine (walk W A0 len0 cap0 l0 w0).mono fun e W' ⟨he, bel⟩ => ?_
  subst he
  exact ⟨_, rfl, _, _, _, [], _, [], hW', trodAll_mk1 (shut_bool Tryd.underlying4 _), (trodAll_cons_mk (Below.trod laidOut (by kernel_rfl) (of_decide_eq_true (by kernel_rfl)) k0 bel lt0) trodAll_mk0), rfl, bel.frame _, fun h => by cases h⟩

theorem over : Rows.keyinRunsRow.holds Tryd.pinned (OpenSpec.ofChange Rows.keyinRunsSpec) :=
  OpenClaim.holds_of_wide 5 Tryd.f5 rfl rfl rfl rfl rfl rfl rfl ⟨rfl, rfl, rfl, rfl, rfl⟩ rfl rfl rfl rfl rfl (by kernel_rfl) Tryd.func5 (by kernel_rfl)
    (of_decide_eq_true (by kernel_rfl)) (by unfold Func.isWrapper; first | (rw [if_pos (by decide +kernel)]; kernel_rfl) | (rw [if_neg (by decide +kernel)]; exact ⟨rfl, rfl⟩))
    (fun os started H enc _ => lifted os started H enc)

theorem proved : Rows.KeyinRunsCardSaid :=
  Claim7.holds_tied_plain_at .later [] [.data, .data, .data] true (true, "d03810291b9cff36ed2c7bb3aabe8245cee03ccd0bbeee2d3121d6c5f9ee3589") false
    over (fun _ h => by cases h) (by kernel_rfl) (fun _ h => by cases h) keyinRuns_row_tie rfl ⟨rfl, rfl⟩ (by kernel_rfl) rfl
    (fun f fn hf hfn => by
      obtain rfl : f = 5 := Option.some.inj ((show Tryd.prog.funcNamed "placard/placardlaw07.KeyinRuns" = some 5 by kernel_rfl).symm.trans hf) |>.symm
      obtain rfl : fn = Tryd.f5 := (Option.some.inj (Tryd.func5.symm.trans hfn)).symm
      exact ⟨by kernel_rfl, fun j t ht => by
        rw [Tryd.params5] at ht
        have hm : t ∈ [38] := by simpa using Array.mem_of_getElem? ht
        have hall : ([38].all fun u => !Tryd.prog.wantsStandIn u) = true := by kernel_rfl
        exact (show Tryd.prog.wantsStandIn t = false by simpa using List.all_eq_true.1 hall t hm)⟩)
    (by kernel_rfl)
end Go.Proofs.YtenjkphlbdhaiaaDoor.keyinRuns
