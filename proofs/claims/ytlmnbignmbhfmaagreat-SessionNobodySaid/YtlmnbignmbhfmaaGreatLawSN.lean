/- Proved: the law 'SessionNobody' answers true whatever it is called with, and leaves what it is called with as it was. Conditions: none beyond the row's own. -/
import Derived.Test.YtlmnbignmbhfmaaGreatRows
import Derived.Test.YtlmnbignmbhfmaaGreatSN4
import Derived.Test.YtlmnbignmbhfmaaGreatJoinSNb
import Derived.Test.YtlmnbignmbhfmaaGreatEngLd
import Derived.WalkKit
import Derived.ProofKit
import Derived.OpenShut
import Derived.ShutString
import Derived.ChangeOld
import Derived.Below
import Derived.Deep.Slices
namespace Go.Proofs.YtlmnbignmbhfmaaGreat.sessionNobody
open Go.Eng
open Go.ChangeShapes Go.WideShapes Go.ChangeAt Go.RowKit
open Go.ChangeMaps (open_string shut_string)
set_option linter.unusedVariables false

theorem own : ownKnob Tryz.prog.godebug = none := by kernel_rfl
theorem laidOut : laidOutB Tryz.prog = true := by kernel_rfl
theorem trod_flt {H : Type} {enc : TypeId × Value → H} {P : Program} {w : World} {base : Nat} {sp : Nat → Bool} {held : Bool} {fuel : Nat} {t : TypeId} {cs : List Value} {x : DataW H × List MemPlace} {k : FloatKind} (ht : P.underlying t = some (.float k)) (h : DataW.trod enc P w base sp held fuel t cs = some x) : ∃ n, cs = [.float k n] := by
  cases fuel with
  | zero => simp [DataW.trod] at h
  | succ m =>
    unfold DataW.trod at h
    rw [ht] at h
    split at h <;> simp_all
def c52 (p : (Int × (Option Addr × Nat × Nat) × Int × Int)) : List Value := [.int .i64 p.1, .slice p.2.1.1 p.2.1.2.1 p.2.1.2.2, .int .i64 p.2.2.1, .int .i64 p.2.2.2]
set_option maxRecDepth 100000 in
theorem dec52 {H : Type} {enc : TypeId × Value → H} {w : World} {sp : Nat → Bool} {held : Bool} : ∀ n cs (y : DataW H × List MemPlace), DataW.trod enc Tryz.prog w 0 sp held n 52 cs = some y → ∃ a : (Int × (Option Addr × Nat × Nat) × Int × Int), cs = c52 a ∧ (inR .i64 a.1 ∧ a.2.1.2.1 ≤ a.2.1.2.2 ∧ inR .i64 a.2.2.1 ∧ inR .i64 a.2.2.2) := by
  intro n cs y h
  obtain ⟨xs, m, rfl, hx, hlen, hxl, hf⟩ := DataW.trod_struct Tryz.underlying52 h
  have hC : Tryz.prog.cellsOf 52 = 4 := by kernel_rfl
  rw [hC] at hlen
  obtain ⟨v0, v1, v2, v3, rfl⟩ : ∃ v0 v1 v2 v3, cs = [v0, v1, v2, v3] := by
    match cs, hlen with
    | [v0, v1, v2, v3], _ => exact ⟨_, _, _, _, rfl⟩
  have hx2 : xs.length = 4 := hxl
  have c3 : Tryz.prog.cellsOf 3 = 1 := by kernel_rfl
  have c49 : Tryz.prog.cellsOf 49 = 1 := by kernel_rfl
  have c50 : Tryz.prog.cellsOf 50 = 1 := by kernel_rfl
  have f0 : DataW.trod enc Tryz.prog w 0 sp held m 49 (([v0, v1, v2, v3].drop 0).take (Tryz.prog.cellsOf 49)) = xs[0]? := hf 0 _ rfl
  rw [c49, show xs[0]? = some xs[0] from List.getElem?_eq_getElem (by omega)] at f0
  change DataW.trod enc Tryz.prog w 0 sp held m 49 [v0] = some xs[0] at f0
  obtain ⟨u0, e0, _, h0⟩ := DataW.trod_int Tryz.underlying49 f0
  simp only [List.cons.injEq, and_true] at e0
  have f1 : DataW.trod enc Tryz.prog w 0 sp held m 50 (([v0, v1, v2, v3].drop 1).take (Tryz.prog.cellsOf 50)) = xs[1]? := hf 1 _ rfl
  rw [c50, show xs[1]? = some xs[1] from List.getElem?_eq_getElem (by omega)] at f1
  change DataW.trod enc Tryz.prog w 0 sp held m 50 [v1] = some xs[1] at f1
  obtain ⟨A1, len1, cap1, e1, h1⟩ : ∃ A len cap, [v1] = [Value.slice A len cap] ∧ len ≤ cap := by
    rcases Go.Deep.open_slice Tryz.underlying50 f1 with ⟨h0, _⟩ | ⟨a, len', cap', m, n, D, Pl, hcs, _, hle, _⟩
    · exact ⟨_, _, _, h0, Nat.le_refl _⟩
    · exact ⟨_, _, _, hcs, hle⟩
  simp only [List.cons.injEq, and_true] at e1
  have f2 : DataW.trod enc Tryz.prog w 0 sp held m 3 (([v0, v1, v2, v3].drop 2).take (Tryz.prog.cellsOf 3)) = xs[2]? := hf 2 _ rfl
  rw [c3, show xs[2]? = some xs[2] from List.getElem?_eq_getElem (by omega)] at f2
  change DataW.trod enc Tryz.prog w 0 sp held m 3 [v2] = some xs[2] at f2
  obtain ⟨u2, e2, _, h2⟩ := DataW.trod_int Tryz.underlying3 f2
  simp only [List.cons.injEq, and_true] at e2
  have f3 : DataW.trod enc Tryz.prog w 0 sp held m 3 (([v0, v1, v2, v3].drop 3).take (Tryz.prog.cellsOf 3)) = xs[3]? := hf 3 _ rfl
  rw [c3, show xs[3]? = some xs[3] from List.getElem?_eq_getElem (by omega)] at f3
  change DataW.trod enc Tryz.prog w 0 sp held m 3 [v3] = some xs[3] at f3
  obtain ⟨u3, e3, _, h3⟩ := DataW.trod_int Tryz.underlying3 f3
  simp only [List.cons.injEq, and_true] at e3
  subst e0 e1 e2 e3
  exact ⟨(u0, (A1, len1, cap1), u2, u3), rfl, wf_in h0, h1, wf_in h2, wf_in h3⟩

theorem walk (w : World) (a0 : (Int × (Option Addr × Nat × Nat) × Int × Int)) (w0 : (fun a : (Int × (Option Addr × Nat × Nat) × Int × Int) => inR .i64 a.1 ∧ a.2.1.2.1 ≤ a.2.1.2.2 ∧ inR .i64 a.2.2.1 ∧ inR .i64 a.2.2.2) a0) :
    Calls Tryz.prog 4 #[.agg (c52 a0).toArray] w fun e w' => e = .returned (.bool true) ∧ Below w.heap.size w w' := by
  exact law4 a0.1 a0.2.1.1 a0.2.1.2.1 a0.2.1.2.2 w0.2.1 a0.2.2.1 a0.2.2.2 w

set_option maxRecDepth 100000 in
theorem lifted (os : Os) (started : os.Started) (H : Type) (enc : TypeId × Value → H) :
    ReturnsInHanded {} Tryz.checked os 4 .any (Rows.sessionNobodySpec.pre6 enc Tryz.prog Tryz.f4 Rows.sessionNobodyRow.domain false) (Rows.sessionNobodySpec.post enc Tryz.prog Tryz.f4 false true false false) := by
  refine returnsInHanded_of_change (C := Tryz.checked) own started (by kernel_rfl) Tryz.func4
    (ChangeSpec.witness6 (enc := enc) (C := Tryz.checked) false ⟨#[], #[.agg #[.int .i64 0, .slice none 0 0, .int .i64 0, .int .i64 0]], []⟩ 8 (by kernel_rfl) (by kernel_rfl) (by kernel_rfl) (by kernel_rfl)) ?_
  intro W base args ds gs before hval0 hW hcnd _
  have hval : ∀ (j : Nat) t v, Tryz.f4.params[j]? = some t → args[j]? = some v → Value.okWide Tryz.prog W .any base t v := hval0
  have hW' := hW
  obtain ⟨p, q, hA0, hV, rfl, hfz, hnd⟩ := hW
  have hA : DataW.TrodAll enc Tryz.prog W 0 (fun _ => true) true Tryz.f4.params.toList args.toList ds p := hA0
  rw [Tryz.params4] at hA hval
  obtain ⟨v0, vs0, d0, ds0, p0, q0, hargs, rfl, rfl, h0, r0⟩ := trodAll_cons hA
  obtain ⟨rfl, rfl, rfl⟩ := trodAll_nil r0
  obtain rfl : args = #[v0] := by cases args; simp_all
  obtain ⟨rfl, rfl⟩ := trodVars_none hV
  obtain ⟨cs0, rfl⟩ : ∃ cs, v0 = Value.agg cs := by
    have h := hval 0 52 v0 rfl rfl
    unfold Value.okWide at h
    rw [Tryz.underlying52] at h
    obtain ⟨cs, e, _⟩ := h
    exact ⟨cs, e⟩
  have k0 := h0
  have lt0 : ∀ x ∈ p0, x.block < W.heap.size := by obtain ⟨m, hm⟩ := k0; exact DataW.trod_lt m _ _ _ hm
  obtain ⟨fuel0, hf0⟩ := h0
  obtain ⟨a0, e0, w0⟩ := dec52 _ _ _ hf0
  replace e0 : cs0.toList = c52 a0 := e0
  obtain rfl : cs0 = (c52 a0).toArray := by rw [← e0]
  clear hA0 hval0
  simp only [List.append_nil] at hW'
  refine (walk W a0 w0).mono fun e W' ⟨he, bel⟩ => ?_
  subst he
  exact ⟨_, rfl, _, _, _, [], _, [], hW', trodAll_mk1 (shut_bool Tryz.underlying4 _), (trodAll_cons_mk (Below.trod laidOut (by kernel_rfl) (of_decide_eq_true (by kernel_rfl)) k0 bel lt0) trodAll_mk0), rfl, bel.frame _, fun h => by cases h⟩

theorem jnf : Tryz.prog.funcNamed Rows.sessionNobodyRow.func = some 4 := by kernel_rfl
theorem jni : Tryz.f4.isInstance Tryz.prog Rows.sessionNobodyRow.origin Rows.sessionNobodyRow.targs := of_decide_eq_true (by kernel_rfl)
theorem jnw : Tryz.f4.isWrapper Tryz.prog Rows.sessionNobodyRow.wrapper Rows.sessionNobodyRow.mainSum := by unfold Func.isWrapper; first | (rw [if_pos (by decide +kernel)]; kernel_rfl) | (rw [if_neg (by decide +kernel)]; exact ⟨rfl, rfl⟩)
theorem over : Rows.sessionNobodyRow.holds Tryz.pinned (OpenSpec.ofChange Rows.sessionNobodySpec) :=
  OpenClaim.holds_of_wide 4 Tryz.f4 rfl rfl rfl rfl rfl rfl rfl ⟨rfl, rfl, rfl, rfl, rfl⟩ rfl rfl rfl rfl rfl jnf Tryz.func4 jnr jni jnw
    (fun os started H enc _ => lifted os started H enc)

theorem proved : Rows.SessionNobodySaid := over
end Go.Proofs.YtlmnbignmbhfmaaGreat.sessionNobody
