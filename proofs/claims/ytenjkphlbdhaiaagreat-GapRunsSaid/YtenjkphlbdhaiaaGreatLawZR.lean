/- Proved: the law 'GapRuns' answers true whatever it is called with, and leaves what it is called with as it was. Conditions: none beyond the row's own. -/
import Derived.Test.YtenjkphlbdhaiaaGreatRows
import Derived.Test.YtenjkphlbdhaiaaGreatZR3
import Derived.Test.YtenjkphlbdhaiaaGreatZR2
import Derived.WalkKit
import Derived.ProofKit
import Derived.OpenShut
import Derived.ShutString
import Derived.ChangeOld
import Derived.Below
namespace Go.Proofs.YtenjkphlbdhaiaaGreat.gapRuns
open Go.Eng
open Go.ChangeShapes Go.WideShapes Go.ChangeAt Go.RowKit
open Go.ChangeMaps (open_string shut_string)
set_option linter.unusedVariables false

theorem own : ownKnob Tryz.prog.godebug = none := by kernel_rfl
theorem laidOut : laidOutB Tryz.prog = true := by kernel_rfl
theorem dec9 {H : Type} {enc : TypeId × Value → H} {w : World} {sp : Nat → Bool} {held : Bool} : ∀ n cs (y : DataW H × List MemPlace), DataW.trod enc Tryz.prog w 0 sp held n 9 cs = some y → ∃ a : ByteArray, cs = [.string a] ∧ a.size ≤ maxLen := by
  intro n cs y h
  obtain ⟨v, rfl, _, hw⟩ := DataW.trod_string Tryz.underlying9 h
  exact ⟨v, rfl, hw⟩
set_option maxRecDepth 100000 in
theorem dec34 {H : Type} {enc : TypeId × Value → H} {w : World} {sp : Nat → Bool} {held : Bool} : ∀ n cs (y : DataW H × List MemPlace), DataW.trod enc Tryz.prog w 0 sp held n 34 cs = some y → ∃ a : (Int × Int × Int × ((Option Addr × Nat) × List ByteArray)), cs = c34 a ∧ (inR .u8 a.1 ∧ inR .i64 a.2.1 ∧ inR .i64 a.2.2.1 ∧ SlIn (fun a : ByteArray => [Value.string a]) (fun a : ByteArray => a.size ≤ maxLen) w a.2.2.2.1.1 a.2.2.2.2.length a.2.2.2.1.2 a.2.2.2.2) := by
  intro n cs y h
  obtain ⟨xs, m, rfl, hx, hlen, hxl, hf⟩ := DataW.trod_struct Tryz.underlying34 h
  have hC : Tryz.prog.cellsOf 34 = 4 := by kernel_rfl
  rw [hC] at hlen
  obtain ⟨v0, v1, v2, v3, rfl⟩ : ∃ v0 v1 v2 v3, cs = [v0, v1, v2, v3] := by
    match cs, hlen with
    | [v0, v1, v2, v3], _ => exact ⟨_, _, _, _, rfl⟩
  have hx2 : xs.length = 4 := hxl
  have c3 : Tryz.prog.cellsOf 3 = 1 := by kernel_rfl
  have c5 : Tryz.prog.cellsOf 5 = 1 := by kernel_rfl
  have c27 : Tryz.prog.cellsOf 27 = 1 := by kernel_rfl
  have f0 : DataW.trod enc Tryz.prog w 0 sp held m 5 (([v0, v1, v2, v3].drop 0).take (Tryz.prog.cellsOf 5)) = xs[0]? := hf 0 _ rfl
  rw [c5, show xs[0]? = some xs[0] from List.getElem?_eq_getElem (by omega)] at f0
  change DataW.trod enc Tryz.prog w 0 sp held m 5 [v0] = some xs[0] at f0
  obtain ⟨u0, e0, _, h0⟩ := DataW.trod_int Tryz.underlying5 f0
  simp only [List.cons.injEq, and_true] at e0
  have f1 : DataW.trod enc Tryz.prog w 0 sp held m 3 (([v0, v1, v2, v3].drop 1).take (Tryz.prog.cellsOf 3)) = xs[1]? := hf 1 _ rfl
  rw [c3, show xs[1]? = some xs[1] from List.getElem?_eq_getElem (by omega)] at f1
  change DataW.trod enc Tryz.prog w 0 sp held m 3 [v1] = some xs[1] at f1
  obtain ⟨u1, e1, _, h1⟩ := DataW.trod_int Tryz.underlying3 f1
  simp only [List.cons.injEq, and_true] at e1
  have f2 : DataW.trod enc Tryz.prog w 0 sp held m 3 (([v0, v1, v2, v3].drop 2).take (Tryz.prog.cellsOf 3)) = xs[2]? := hf 2 _ rfl
  rw [c3, show xs[2]? = some xs[2] from List.getElem?_eq_getElem (by omega)] at f2
  change DataW.trod enc Tryz.prog w 0 sp held m 3 [v2] = some xs[2] at f2
  obtain ⟨u2, e2, _, h2⟩ := DataW.trod_int Tryz.underlying3 f2
  simp only [List.cons.injEq, and_true] at e2
  have f3 : DataW.trod enc Tryz.prog w 0 sp held m 27 (([v0, v1, v2, v3].drop 3).take (Tryz.prog.cellsOf 27)) = xs[3]? := hf 3 _ rfl
  rw [c27, show xs[3]? = some xs[3] from List.getElem?_eq_getElem (by omega)] at f3
  change DataW.trod enc Tryz.prog w 0 sp held m 27 [v3] = some xs[3] at f3
  obtain ⟨A3, len3, cap3, e3⟩ : ∃ A len cap, [v3] = [Value.slice A len cap] := by
    rcases Go.Deep.open_slice Tryz.underlying27 f3 with ⟨h0, _⟩ | ⟨a, len', cap', m, n, D, Pl, hcs, _⟩
    · exact ⟨_, _, _, h0⟩
    · exact ⟨_, _, _, hcs⟩
  simp only [List.cons.injEq, and_true] at e3
  subst e3
  obtain ⟨u3, h3⟩ := slice_in (c := (fun a : ByteArray => [Value.string a])) (R := (fun a : ByteArray => a.size ≤ maxLen)) (sz := 1) (fun _ => rfl) (by decide) Tryz.underlying27 (by kernel_rfl) dec9 f3
  have g3 := h3.1
  subst g3
  subst e0 e1 e2
  exact ⟨(u0, u1, u2, ((A3, cap3), u3)), rfl, wf_in h0, wf_in h1, wf_in h2, h3⟩

theorem walk (w : World) (a0 : Int) (w0 : (Lit.int .i64 a0).wf = true) (A1 : Option Addr) (len1 cap1 : Nat) (l1 : List (Int × Int × Int × ((Option Addr × Nat) × List ByteArray))) (w1 : SlIn c34 (fun a : (Int × Int × Int × ((Option Addr × Nat) × List ByteArray)) => inR .u8 a.1 ∧ inR .i64 a.2.1 ∧ inR .i64 a.2.2.1 ∧ SlIn (fun a : ByteArray => [Value.string a]) (fun a : ByteArray => a.size ≤ maxLen) w a.2.2.2.1.1 a.2.2.2.2.length a.2.2.2.1.2 a.2.2.2.2) w A1 len1 cap1 l1) (a2 : Int) (w2 : (Lit.int .i64 a2).wf = true) (a3 : Int) (w3 : (Lit.int .u8 a3).wf = true) :
    Calls Tryz.prog 3 #[.int .i64 a0, .slice A1 len1 cap1, .int .i64 a2, .int .u8 a3] w fun e w' => e = .returned (.bool true) ∧ Below w.heap.size w w' := by
  obtain rfl : len1 = l1.length := w1.1
  have h := k3_ok.2 w (phOf w) S0 (a0, l1, a2, a3, true) [.int .i64 a0, .slice A1 l1.length cap1, .int .i64 a2, .int .u8 a3] ⟨(g_eq (gapRuns_law (wf_in w0) (fun q hq => by have h := w1.2.2.2 q hq; exact ⟨(h.1), (h.2.1), (h.2.2.1), (h.2.2.2).2.2.2⟩) (wf_in w2) (wf_in w3))), fun p hp => by have h := w1.2.2.2 p hp; exact (h.2.2.2).2.1⟩ (rds_of fun x hx => by obtain ⟨p, hp, hx⟩ := List.mem_flatMap.1 hx; have h := w1.2.2.2 p hp; simp only [R34, List.mem_cons, List.not_mem_nil, or_false] at hx; rcases hx with rfl; exact (by have := slin_reads (h.2.2.2); rwa [ecS] at this)) (phOf_on w) ⟨rfl, ⟨_, _, rfl, w1.2.1, ec_len c34_len, w1.2.2.1⟩, rfl, rfl, trivial⟩
  exact h.mono fun e w' ⟨he, hb⟩ => ⟨he.trans rfl, hb⟩

set_option maxRecDepth 100000 in
theorem lifted (os : Os) (started : os.Started) (H : Type) (enc : TypeId × Value → H) :
    ReturnsInHanded {} Tryz.checked os 3 .any (Rows.gapRunsSpec.pre6 enc Tryz.prog Tryz.f3 Rows.gapRunsRow.domain false) (Rows.gapRunsSpec.post enc Tryz.prog Tryz.f3 false true false false) := by
  refine returnsInHanded_of_change (C := Tryz.checked) own started (by kernel_rfl) Tryz.func3
    (ChangeSpec.witness6 (enc := enc) (C := Tryz.checked) false ⟨#[], #[.int .i64 0, .slice none 0 0, .int .i64 0, .int .u8 0], []⟩ 8 (by kernel_rfl) (by kernel_rfl) (by kernel_rfl) (by kernel_rfl)) ?_
  intro W base args ds gs before hval0 hW hcnd _
  have hval : ∀ (j : Nat) t v, Tryz.f3.params[j]? = some t → args[j]? = some v → Value.okWide Tryz.prog W .any base t v := hval0
  have hW' := hW
  obtain ⟨p, q, hA0, hV, rfl, hfz, hnd⟩ := hW
  have hA : DataW.TrodAll enc Tryz.prog W 0 (fun _ => true) true Tryz.f3.params.toList args.toList ds p := hA0
  rw [Tryz.params3] at hA hval
  obtain ⟨v0, vs0, d0, ds0, p0, q0, hargs, rfl, rfl, h0, r0⟩ := trodAll_cons hA
  obtain ⟨v1, vs1, d1, ds1, p1, q1, rfl, rfl, rfl, h1, r1⟩ := trodAll_cons r0
  obtain ⟨v2, vs2, d2, ds2, p2, q2, rfl, rfl, rfl, h2, r2⟩ := trodAll_cons r1
  obtain ⟨v3, vs3, d3, ds3, p3, q3, rfl, rfl, rfl, h3, r3⟩ := trodAll_cons r2
  obtain ⟨rfl, rfl, rfl⟩ := trodAll_nil r3
  obtain rfl : args = #[v0, v1, v2, v3] := by cases args; simp_all
  obtain ⟨rfl, rfl⟩ := trodVars_none hV
  obtain ⟨a0, rfl, rfl, rfl, w0⟩ := open_int Tryz.underlying3 (hval 0 3 v0 rfl rfl) h0
  obtain ⟨A1, len1, cap1, rfl⟩ := okWide_slice Tryz.underlying22 (hval 1 22 v1 rfl rfl)
  have k1 := h1
  have lt1 : ∀ x ∈ p1, x.block < W.heap.size := by obtain ⟨m, hm⟩ := k1; exact DataW.trod_lt m _ _ _ hm
  obtain ⟨l1, w1⟩ : ∃ l : List (Int × Int × Int × ((Option Addr × Nat) × List ByteArray)), SlIn c34 (fun a : (Int × Int × Int × ((Option Addr × Nat) × List ByteArray)) => inR .u8 a.1 ∧ inR .i64 a.2.1 ∧ inR .i64 a.2.2.1 ∧ SlIn (fun a : ByteArray => [Value.string a]) (fun a : ByteArray => a.size ≤ maxLen) W a.2.2.2.1.1 a.2.2.2.2.length a.2.2.2.1.2 a.2.2.2.2) W A1 len1 cap1 l := by
    obtain ⟨fuel, hf⟩ := h1
    exact slice_in c34_len (by decide) Tryz.underlying22 (by kernel_rfl) dec34 hf
  obtain ⟨a2, rfl, rfl, rfl, w2⟩ := open_int Tryz.underlying3 (hval 2 3 v2 rfl rfl) h2
  obtain ⟨a3, rfl, rfl, rfl, w3⟩ := open_int Tryz.underlying5 (hval 3 5 v3 rfl rfl) h3
  clear hA0 hval0
  refine (walk W a0 w0 A1 len1 cap1 l1 w1 a2 w2 a3 w3).mono fun e W' ⟨he, bel⟩ => ?_
  subst he
  exact ⟨_, rfl, _, _, _, [], _, [], hW', trodAll_mk1 (shut_bool Tryz.underlying4 _), (trodAll_cons_mk (shut_int Tryz.underlying3 w0) (trodAll_cons_mk (Below.trod laidOut (by kernel_rfl) (of_decide_eq_true (by kernel_rfl)) k1 bel lt1) (trodAll_cons_mk (shut_int Tryz.underlying3 w2) (trodAll_cons_mk (shut_int Tryz.underlying5 w3) trodAll_mk0)))), rfl, bel.frame _, fun h => by cases h⟩

theorem over : Rows.gapRunsRow.holds Tryz.pinned (OpenSpec.ofChange Rows.gapRunsSpec) :=
  OpenClaim.holds_of_wide 3 Tryz.f3 rfl rfl rfl rfl rfl rfl rfl ⟨rfl, rfl, rfl, rfl, rfl⟩ rfl rfl rfl rfl rfl (by kernel_rfl) Tryz.func3 (by kernel_rfl)
    (of_decide_eq_true (by kernel_rfl)) (by unfold Func.isWrapper; first | (rw [if_pos (by decide +kernel)]; kernel_rfl) | (rw [if_neg (by decide +kernel)]; exact ⟨rfl, rfl⟩))
    (fun os started H enc _ => lifted os started H enc)

theorem proved : Rows.GapRunsSaid := over
end Go.Proofs.YtenjkphlbdhaiaaGreat.gapRuns
