/- Proved: the law 'KeyinPastes' answers true whatever it is called with, and leaves what it is called with as it was. Conditions: none beyond the row's own. -/
import Derived.Test.YtenjkphlbdhaiaaDoorRows
import Derived.Test.YtenjkphlbdhaiaaDoorCards
import Derived.Test.YtenjkphlbdhaiaaDoorTie
import Derived.Test.YtenjkphlbdhaiaaDoorPlainKp
import Derived.Test.YtenjkphlbdhaiaaDoorLiftD5
import Derived.WalkKit
import Derived.ProofKit
import Derived.OpenShut
import Derived.ShutString
import Derived.ChangeOld
import Derived.Below
import Derived.LaidMore
import Derived.Stop.Joined
import Derived.SevenTiedAt
set_option linter.unusedVariables false
set_option linter.unusedSimpArgs false
namespace Go.Proofs.YtenjkphlbdhaiaaDoor.keyinPastes
open Go.Eng
open Go.ChangeShapes Go.WideShapes Go.ChangeAt Go.RowKit
open Go.ChangeMaps (open_string shut_string)
set_option linter.unusedVariables false

theorem own : ownKnob Tryd.prog.godebug = none := by kernel_rfl
theorem laidOut : laidOutB Tryd.prog = true := by kernel_rfl
theorem dec5 {H : Type} {enc : TypeId × Value → H} {w : World} {sp : Nat → Bool} {held : Bool} : ∀ n cs (y : DataW H × List MemPlace), DataW.trod enc Tryd.prog w 0 sp held n 5 cs = some y → ∃ a : Int, cs = [.int .u8 a] ∧ inR .u8 a := by
  intro n cs y h
  obtain ⟨v, rfl, _, hw⟩ := DataW.trod_int Tryd.underlying5 h
  exact ⟨v, rfl, wf_in hw⟩
theorem ecN5 : ∀ l : List Int, ec (fun a : Int => [Value.int .u8 a]) l = ei .u8 l
  | [] => rfl
  | x :: t => congrArg (List.cons (Value.int .u8 x)) (ecN5 t)

theorem walk (w : World) (A0 : Option Addr) (len0 cap0 : Nat) (l0 : List Int) (w0 : SlIn (fun a : Int => [Value.int .u8 a]) (fun a : Int => inR .u8 a) w A0 len0 cap0 l0) (a1 : Int) (w1 : (Lit.int .u16 a1).wf = true) (a2 : Int) (w2 : (Lit.int .u16 a2).wf = true) :
    Calls Tryd.prog 4 #[.slice A0 len0 cap0, .int .u16 a1, .int .u16 a2] w fun e w' => e = .returned (.bool true) ∧ Below w.heap.size w w' := by
  obtain rfl : len0 = l0.length := w0.1
  have h := k4_ok.2 w (phOf w) S0 (l0, a1, a2, true) [.slice A0 l0.length cap0, .int .u16 a1, .int .u16 a2] (g_eq (pastes_law w0.2.2.2 (wf_in w1) (wf_in w2))) trivial (phOf_on w) ⟨⟨_, _, rfl, w0.2.1, ei_len.trans (Nat.mul_one _).symm, (by have := w0.2.2.1; rwa [ecN5 l0] at this)⟩, rfl, rfl, trivial⟩
  exact h.mono fun e w' ⟨he, hb⟩ => ⟨he.trans rfl, hb⟩

theorem door_met (os : Os) (args : Array Value) : laidMetH Tryd.prog Rows.keyinPastesRow.laid ((World.doorLaid Tryd.prog 4000 os).forCall (fun _ _ => 0) ⟨#[], args, []⟩).memory :=
  laidMetH_of_parts3 (fuel := 8) (laidMet_of_run' 8 (by kernel_rfl) (by kernel_rfl)) (by kernel_rfl) (by kernel_rfl)
set_option maxRecDepth 100000 in
theorem lifted (os : Os) (started : os.Started) (H : Type) (enc : TypeId × Value → H) :
    ReturnsInHanded {} Tryd.checked os 4 .any (fun w args => (Rows.keyinPastesSpec.pre enc Tryd.prog Tryd.f4 [] false w args ∧ laidMetH Tryd.prog Rows.keyinPastesRow.laid w) ∧ sizedMet enc Tryd.prog Tryd.f4 (OpenSpec.ofChange Rows.keyinPastesSpec) false w args) (Rows.keyinPastesSpec.post enc Tryd.prog Tryd.f4 false true false false) := by
  refine returnsInHanded_of_change_and (C := Tryd.checked) (X := fun w _ => laidMetH Tryd.prog Rows.keyinPastesRow.laid w) (fun _ _ _ hh h => h.of_heap hh) own started (by kernel_rfl) Tryd.func4
    (ChangeSpec.witness_shaped (enc := enc) (C := Tryd.checked) (os := os) (X := fun w _ => laidMetH Tryd.prog Rows.keyinPastesRow.laid w) false (World.doorLaid Tryd.prog 4000 os) #[.slice none 0 0, .int .u16 0, .int .u16 0] 8 rfl (World.shaped_of_RefB (by kernel_rfl) (by kernel_rfl)) (by kernel_rfl) (by kernel_rfl) (by kernel_rfl) (door_met os _)) ?_
  intro W base args ds gs before hval0 hW _ _ hL _
  have hval : ∀ (j : Nat) t v, Tryd.f4.params[j]? = some t → args[j]? = some v → Value.okWide Tryd.prog W .any base t v := hval0
  have hW' := hW
  obtain ⟨p, q, hA0, hV, rfl, hfz, hnd⟩ := hW
  have hA : DataW.TrodAll enc Tryd.prog W 0 (fun _ => true) true Tryd.f4.params.toList args.toList ds p := hA0
  rw [Tryd.params4] at hA hval
  obtain ⟨v0, vs0, d0, ds0, p0, q0, hargs, rfl, rfl, h0, r0⟩ := trodAll_cons hA
  obtain ⟨v1, vs1, d1, ds1, p1, q1, rfl, rfl, rfl, h1, r1⟩ := trodAll_cons r0
  obtain ⟨v2, vs2, d2, ds2, p2, q2, rfl, rfl, rfl, h2, r2⟩ := trodAll_cons r1
  obtain ⟨rfl, rfl, rfl⟩ := trodAll_nil r2
  obtain rfl : args = #[v0, v1, v2] := by cases args; simp_all
  obtain ⟨rfl, rfl⟩ := trodVars_none hV
  obtain ⟨A0, len0, cap0, rfl⟩ := okWide_slice Tryd.underlying22 (hval 0 22 v0 rfl rfl)
  have k0 := h0
  have lt0 : ∀ x ∈ p0, x.block < W.heap.size := by obtain ⟨m, hm⟩ := k0; exact DataW.trod_lt m _ _ _ hm
  obtain ⟨l0, w0⟩ : ∃ l : List Int, SlIn (fun a : Int => [Value.int .u8 a]) (fun a : Int => inR .u8 a) W A0 len0 cap0 l := by
    obtain ⟨fuel, hf⟩ := h0
    exact slice_in (fun _ => rfl) (by decide) Tryd.underlying22 (by kernel_rfl) dec5 hf
  obtain ⟨a1, rfl, rfl, rfl, w1⟩ := open_int Tryd.underlying32 (hval 1 32 v1 rfl rfl) h1
  obtain ⟨a2, rfl, rfl, rfl, w2⟩ := open_int Tryd.underlying32 (hval 2 32 v2 rfl rfl) h2
  clear hA0 hval0
  refine (walk W A0 len0 cap0 l0 w0 a1 w1 a2 w2).mono fun e W' ⟨he, bel⟩ => ?_
  subst he
  exact ⟨_, rfl, _, _, _, [], _, [], hW', trodAll_mk1 (shut_bool Tryd.underlying4 _), (trodAll_cons_mk (Below.trod laidOut (by kernel_rfl) (of_decide_eq_true (by kernel_rfl)) k0 bel lt0) (trodAll_cons_mk (shut_int Tryd.underlying32 w1) (trodAll_cons_mk (shut_int Tryd.underlying32 w2) trodAll_mk0))), rfl, bel.frame _, fun h => by cases h⟩

theorem over : Rows.keyinPastesRow.holds Tryd.pinned (OpenSpec.ofChange Rows.keyinPastesSpec) :=
  OpenClaim.holds_of_wide 4 Tryd.f4 rfl rfl rfl rfl rfl rfl rfl ⟨rfl, rfl, rfl, rfl, rfl⟩ rfl rfl rfl rfl rfl (by kernel_rfl) Tryd.func4 (by kernel_rfl)
    (of_decide_eq_true (by kernel_rfl)) (by unfold Func.isWrapper; first | (rw [if_pos (by decide +kernel)]; kernel_rfl) | (rw [if_neg (by decide +kernel)]; exact ⟨rfl, rfl⟩))
    (fun os started H enc _ => lifted os started H enc)

theorem proved : Rows.KeyinPastesCardSaid :=
  Claim7.holds_tied_plain_at .later [] [.data, .data, .data] true (true, "d03810291b9cff36ed2c7bb3aabe8245cee03ccd0bbeee2d3121d6c5f9ee3589") false
    over (fun _ h => by cases h) (by kernel_rfl) (fun _ h => by cases h) keyinPastes_row_tie rfl ⟨rfl, rfl⟩ (by kernel_rfl) rfl
    (fun f fn hf hfn => by
      obtain rfl : f = 4 := Option.some.inj ((show Tryd.prog.funcNamed "placard/placardlaw07.KeyinPastes" = some 4 by kernel_rfl).symm.trans hf) |>.symm
      obtain rfl : fn = Tryd.f4 := (Option.some.inj (Tryd.func4.symm.trans hfn)).symm
      exact ⟨by kernel_rfl, fun j t ht => by
        rw [Tryd.params4] at ht
        have hm : t ∈ [22, 32, 32] := by simpa using Array.mem_of_getElem? ht
        have hall : ([22, 32, 32].all fun u => !Tryd.prog.wantsStandIn u) = true := by kernel_rfl
        exact (show Tryd.prog.wantsStandIn t = false by simpa using List.all_eq_true.1 hall t hm)⟩)
    (by kernel_rfl)
end Go.Proofs.YtenjkphlbdhaiaaDoor.keyinPastes
