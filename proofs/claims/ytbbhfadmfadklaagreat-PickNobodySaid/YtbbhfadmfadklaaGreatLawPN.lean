/- Proved: the law 'PickNobody' answers true whatever it is called with, and leaves what it is called with as it was. Conditions: none beyond the row's own. -/
import Derived.Test.YtbbhfadmfadklaaGreatRows
import Derived.Test.YtbbhfadmfadklaaGreatPN3
import Derived.Test.YtbbhfadmfadklaaGreatEngLd
import Derived.WalkKit
import Derived.ProofKit
import Derived.OpenShut
import Derived.ShutString
import Derived.ChangeOld
import Derived.Below
import Derived.Deep.Slices
namespace Go.Proofs.YtbbhfadmfadklaaGreat.pickNobody
open Go.Eng
open Go.ChangeShapes Go.WideShapes Go.ChangeAt Go.RowKit
open Go.ChangeMaps (open_string shut_string)
set_option linter.unusedVariables false

theorem own : ownKnob Tryz.prog.godebug = none := by kernel_rfl
theorem laidOut : laidOutB Tryz.prog = true := by kernel_rfl
theorem trod_flt {H : Type} {enc : TypeId × Value → H} {P : Program} {w : World} {base : Nat} {sp : Nat → Bool} {held : Bool} {fuel : Nat} {t : TypeId} {cs : List Value} {x : DataW H × List MemPlace} {k : FloatKind} (ht : P.underlying t = some (.float k)) (h : DataW.trod enc P w base sp held fuel t cs = some x) : ∃ n, cs = [.float k n] := by
  cases fuel with
  | zero => simp [DataW.trod] at h
  | succ m =>
    unfold DataW.trod at h
    rw [ht] at h
    split at h <;> simp_all
def c52 (p : (Int × ByteArray × Int × Bool × Bool × Bool)) : List Value := [.int .i64 p.1, .string p.2.1, .int .i64 p.2.2.1, .bool p.2.2.2.1, .bool p.2.2.2.2.1, .bool p.2.2.2.2.2]
set_option maxRecDepth 100000 in
theorem dec52 {H : Type} {enc : TypeId × Value → H} {w : World} {sp : Nat → Bool} {held : Bool} : ∀ n cs (y : DataW H × List MemPlace), DataW.trod enc Tryz.prog w 0 sp held n 52 cs = some y → ∃ a : (Int × ByteArray × Int × Bool × Bool × Bool), cs = c52 a ∧ (inR .i64 a.1 ∧ a.2.1.size ≤ maxLen ∧ inR .i64 a.2.2.1 ∧ True ∧ True ∧ True) := by
  intro n cs y h
  obtain ⟨xs, m, rfl, hx, hlen, hxl, hf⟩ := DataW.trod_struct Tryz.underlying52 h
  have hC : Tryz.prog.cellsOf 52 = 6 := by kernel_rfl
  rw [hC] at hlen
  obtain ⟨v0, v1, v2, v3, v4, v5, rfl⟩ : ∃ v0 v1 v2 v3 v4 v5, cs = [v0, v1, v2, v3, v4, v5] := by
    match cs, hlen with
    | [v0, v1, v2, v3, v4, v5], _ => exact ⟨_, _, _, _, _, _, rfl⟩
  have hx2 : xs.length = 6 := hxl
  have c3 : Tryz.prog.cellsOf 3 = 1 := by kernel_rfl
  have c4 : Tryz.prog.cellsOf 4 = 1 := by kernel_rfl
  have c9 : Tryz.prog.cellsOf 9 = 1 := by kernel_rfl
  have c50 : Tryz.prog.cellsOf 50 = 1 := by kernel_rfl
  have f0 : DataW.trod enc Tryz.prog w 0 sp held m 50 (([v0, v1, v2, v3, v4, v5].drop 0).take (Tryz.prog.cellsOf 50)) = xs[0]? := hf 0 _ rfl
  rw [c50, show xs[0]? = some xs[0] from List.getElem?_eq_getElem (by omega)] at f0
  change DataW.trod enc Tryz.prog w 0 sp held m 50 [v0] = some xs[0] at f0
  obtain ⟨u0, e0, _, h0⟩ := DataW.trod_int Tryz.underlying50 f0
  simp only [List.cons.injEq, and_true] at e0
  have f1 : DataW.trod enc Tryz.prog w 0 sp held m 9 (([v0, v1, v2, v3, v4, v5].drop 1).take (Tryz.prog.cellsOf 9)) = xs[1]? := hf 1 _ rfl
  rw [c9, show xs[1]? = some xs[1] from List.getElem?_eq_getElem (by omega)] at f1
  change DataW.trod enc Tryz.prog w 0 sp held m 9 [v1] = some xs[1] at f1
  obtain ⟨u1, e1, _, h1⟩ := DataW.trod_string Tryz.underlying9 f1
  simp only [List.cons.injEq, and_true] at e1
  have f2 : DataW.trod enc Tryz.prog w 0 sp held m 3 (([v0, v1, v2, v3, v4, v5].drop 2).take (Tryz.prog.cellsOf 3)) = xs[2]? := hf 2 _ rfl
  rw [c3, show xs[2]? = some xs[2] from List.getElem?_eq_getElem (by omega)] at f2
  change DataW.trod enc Tryz.prog w 0 sp held m 3 [v2] = some xs[2] at f2
  obtain ⟨u2, e2, _, h2⟩ := DataW.trod_int Tryz.underlying3 f2
  simp only [List.cons.injEq, and_true] at e2
  have f3 : DataW.trod enc Tryz.prog w 0 sp held m 4 (([v0, v1, v2, v3, v4, v5].drop 3).take (Tryz.prog.cellsOf 4)) = xs[3]? := hf 3 _ rfl
  rw [c4, show xs[3]? = some xs[3] from List.getElem?_eq_getElem (by omega)] at f3
  change DataW.trod enc Tryz.prog w 0 sp held m 4 [v3] = some xs[3] at f3
  obtain ⟨u3, e3, _⟩ := DataW.trod_bool Tryz.underlying4 f3
  simp only [List.cons.injEq, and_true] at e3
  have f4 : DataW.trod enc Tryz.prog w 0 sp held m 4 (([v0, v1, v2, v3, v4, v5].drop 4).take (Tryz.prog.cellsOf 4)) = xs[4]? := hf 4 _ rfl
  rw [c4, show xs[4]? = some xs[4] from List.getElem?_eq_getElem (by omega)] at f4
  change DataW.trod enc Tryz.prog w 0 sp held m 4 [v4] = some xs[4] at f4
  obtain ⟨u4, e4, _⟩ := DataW.trod_bool Tryz.underlying4 f4
  simp only [List.cons.injEq, and_true] at e4
  have f5 : DataW.trod enc Tryz.prog w 0 sp held m 4 (([v0, v1, v2, v3, v4, v5].drop 5).take (Tryz.prog.cellsOf 4)) = xs[5]? := hf 5 _ rfl
  rw [c4, show xs[5]? = some xs[5] from List.getElem?_eq_getElem (by omega)] at f5
  change DataW.trod enc Tryz.prog w 0 sp held m 4 [v5] = some xs[5] at f5
  obtain ⟨u5, e5, _⟩ := DataW.trod_bool Tryz.underlying4 f5
  simp only [List.cons.injEq, and_true] at e5
  subst e0 e1 e2 e3 e4 e5
  exact ⟨(u0, u1, u2, u3, u4, u5), rfl, wf_in h0, h1, wf_in h2, trivial, trivial, trivial⟩
def c27 (p : (ByteArray × Int × Bool × (Option Addr × Nat × Nat) × Nat)) : List Value := [.string p.1, .int .i64 p.2.1, .bool p.2.2.1, .slice p.2.2.2.1.1 p.2.2.2.1.2.1 p.2.2.2.1.2.2, .float .f64 p.2.2.2.2]
set_option maxRecDepth 100000 in
theorem dec27 {H : Type} {enc : TypeId × Value → H} {w : World} {sp : Nat → Bool} {held : Bool} : ∀ n cs (y : DataW H × List MemPlace), DataW.trod enc Tryz.prog w 0 sp held n 27 cs = some y → ∃ a : (ByteArray × Int × Bool × (Option Addr × Nat × Nat) × Nat), cs = c27 a ∧ (a.1.size ≤ maxLen ∧ inR .i64 a.2.1 ∧ True ∧ a.2.2.2.1.2.1 ≤ a.2.2.2.1.2.2 ∧ True) := by
  intro n cs y h
  obtain ⟨xs, m, rfl, hx, hlen, hxl, hf⟩ := DataW.trod_struct Tryz.underlying27 h
  have hC : Tryz.prog.cellsOf 27 = 5 := by kernel_rfl
  rw [hC] at hlen
  obtain ⟨v0, v1, v2, v3, v4, rfl⟩ : ∃ v0 v1 v2 v3 v4, cs = [v0, v1, v2, v3, v4] := by
    match cs, hlen with
    | [v0, v1, v2, v3, v4], _ => exact ⟨_, _, _, _, _, rfl⟩
  have hx2 : xs.length = 5 := hxl
  have c3 : Tryz.prog.cellsOf 3 = 1 := by kernel_rfl
  have c4 : Tryz.prog.cellsOf 4 = 1 := by kernel_rfl
  have c9 : Tryz.prog.cellsOf 9 = 1 := by kernel_rfl
  have c24 : Tryz.prog.cellsOf 24 = 1 := by kernel_rfl
  have c25 : Tryz.prog.cellsOf 25 = 1 := by kernel_rfl
  have f0 : DataW.trod enc Tryz.prog w 0 sp held m 9 (([v0, v1, v2, v3, v4].drop 0).take (Tryz.prog.cellsOf 9)) = xs[0]? := hf 0 _ rfl
  rw [c9, show xs[0]? = some xs[0] from List.getElem?_eq_getElem (by omega)] at f0
  change DataW.trod enc Tryz.prog w 0 sp held m 9 [v0] = some xs[0] at f0
  obtain ⟨u0, e0, _, h0⟩ := DataW.trod_string Tryz.underlying9 f0
  simp only [List.cons.injEq, and_true] at e0
  have f1 : DataW.trod enc Tryz.prog w 0 sp held m 3 (([v0, v1, v2, v3, v4].drop 1).take (Tryz.prog.cellsOf 3)) = xs[1]? := hf 1 _ rfl
  rw [c3, show xs[1]? = some xs[1] from List.getElem?_eq_getElem (by omega)] at f1
  change DataW.trod enc Tryz.prog w 0 sp held m 3 [v1] = some xs[1] at f1
  obtain ⟨u1, e1, _, h1⟩ := DataW.trod_int Tryz.underlying3 f1
  simp only [List.cons.injEq, and_true] at e1
  have f2 : DataW.trod enc Tryz.prog w 0 sp held m 4 (([v0, v1, v2, v3, v4].drop 2).take (Tryz.prog.cellsOf 4)) = xs[2]? := hf 2 _ rfl
  rw [c4, show xs[2]? = some xs[2] from List.getElem?_eq_getElem (by omega)] at f2
  change DataW.trod enc Tryz.prog w 0 sp held m 4 [v2] = some xs[2] at f2
  obtain ⟨u2, e2, _⟩ := DataW.trod_bool Tryz.underlying4 f2
  simp only [List.cons.injEq, and_true] at e2
  have f3 : DataW.trod enc Tryz.prog w 0 sp held m 25 (([v0, v1, v2, v3, v4].drop 3).take (Tryz.prog.cellsOf 25)) = xs[3]? := hf 3 _ rfl
  rw [c25, show xs[3]? = some xs[3] from List.getElem?_eq_getElem (by omega)] at f3
  change DataW.trod enc Tryz.prog w 0 sp held m 25 [v3] = some xs[3] at f3
  obtain ⟨A3, len3, cap3, e3, h3⟩ : ∃ A len cap, [v3] = [Value.slice A len cap] ∧ len ≤ cap := by
    rcases Go.Deep.open_slice Tryz.underlying25 f3 with ⟨h0, _⟩ | ⟨a, len', cap', m, n, D, Pl, hcs, _, hle, _⟩
    · exact ⟨_, _, _, h0, Nat.le_refl _⟩
    · exact ⟨_, _, _, hcs, hle⟩
  simp only [List.cons.injEq, and_true] at e3
  have f4 : DataW.trod enc Tryz.prog w 0 sp held m 24 (([v0, v1, v2, v3, v4].drop 4).take (Tryz.prog.cellsOf 24)) = xs[4]? := hf 4 _ rfl
  rw [c24, show xs[4]? = some xs[4] from List.getElem?_eq_getElem (by omega)] at f4
  change DataW.trod enc Tryz.prog w 0 sp held m 24 [v4] = some xs[4] at f4
  obtain ⟨u4, e4⟩ := trod_flt Tryz.underlying24 f4
  simp only [List.cons.injEq, and_true] at e4
  subst e0 e1 e2 e3 e4
  exact ⟨(u0, u1, u2, (A3, len3, cap3), u4), rfl, h0, wf_in h1, trivial, h3, trivial⟩

theorem walk (w : World) (a0 : (Int × ByteArray × Int × Bool × Bool × Bool)) (w0 : (fun a : (Int × ByteArray × Int × Bool × Bool × Bool) => inR .i64 a.1 ∧ a.2.1.size ≤ maxLen ∧ inR .i64 a.2.2.1 ∧ True ∧ True ∧ True) a0) (a1 : (ByteArray × Int × Bool × (Option Addr × Nat × Nat) × Nat)) (w1 : (fun a : (ByteArray × Int × Bool × (Option Addr × Nat × Nat) × Nat) => a.1.size ≤ maxLen ∧ inR .i64 a.2.1 ∧ True ∧ a.2.2.2.1.2.1 ≤ a.2.2.2.1.2.2 ∧ True) a1) (a2 : Int) (w2 : (Lit.int .i64 a2).wf = true) :
    Calls Tryz.prog 9 #[.agg (c52 a0).toArray, .agg (c27 a1).toArray, .int .i64 a2] w fun e w' => e = .returned (.bool true) ∧ Below w.heap.size w w' := by
  exact law9 a0.1 a0.2.1 a0.2.2.1 a0.2.2.2.1 a0.2.2.2.2.1 a0.2.2.2.2.2 a1.1 a1.2.1 a1.2.2.1 a1.2.2.2.1.1 a1.2.2.2.1.2.1 a1.2.2.2.1.2.2 w1.2.2.2.1 a1.2.2.2.2 a2 w

set_option maxRecDepth 100000 in
theorem lifted (os : Os) (started : os.Started) (H : Type) (enc : TypeId × Value → H) :
    ReturnsInHanded {} Tryz.checked os 9 .any (Rows.pickNobodySpec.pre6 enc Tryz.prog Tryz.f9 Rows.pickNobodyRow.domain false) (Rows.pickNobodySpec.post enc Tryz.prog Tryz.f9 false true false false) := by
  refine returnsInHanded_of_change (C := Tryz.checked) own started (by kernel_rfl) Tryz.func9
    (ChangeSpec.witness6 (enc := enc) (C := Tryz.checked) false ⟨#[], #[.agg #[.int .i64 0, .string ⟨#[]⟩, .int .i64 0, .bool false, .bool false, .bool false], .agg #[.string ⟨#[]⟩, .int .i64 0, .bool false, .slice none 0 0, .float .f64 0], .int .i64 0], []⟩ 8 (by kernel_rfl) (by kernel_rfl) (by kernel_rfl) (by kernel_rfl)) ?_
  intro W base args ds gs before hval0 hW hcnd _
  have hval : ∀ (j : Nat) t v, Tryz.f9.params[j]? = some t → args[j]? = some v → Value.okWide Tryz.prog W .any base t v := hval0
  have hW' := hW
  obtain ⟨p, q, hA0, hV, rfl, hfz, hnd⟩ := hW
  have hA : DataW.TrodAll enc Tryz.prog W 0 (fun _ => true) true Tryz.f9.params.toList args.toList ds p := hA0
  rw [Tryz.params9] at hA hval
  obtain ⟨v0, vs0, d0, ds0, p0, q0, hargs, rfl, rfl, h0, r0⟩ := trodAll_cons hA
  obtain ⟨v1, vs1, d1, ds1, p1, q1, rfl, rfl, rfl, h1, r1⟩ := trodAll_cons r0
  obtain ⟨v2, vs2, d2, ds2, p2, q2, rfl, rfl, rfl, h2, r2⟩ := trodAll_cons r1
  obtain ⟨rfl, rfl, rfl⟩ := trodAll_nil r2
  obtain rfl : args = #[v0, v1, v2] := by cases args; simp_all
  obtain ⟨rfl, rfl⟩ := trodVars_none hV
  obtain ⟨cs0, rfl⟩ : ∃ cs, v0 = Value.agg cs := by
    have h := hval 0 52 v0 rfl rfl
    unfold Value.okWide at h
    rw [Tryz.underlying52] at h
    obtain ⟨cs, e, _⟩ := h
    exact ⟨cs, e⟩
  have k0 := h0
  have lt0 : ∀ x ∈ p0, x.block < W.heap.size := by obtain ⟨m, hm⟩ := k0; exact DataW.trod_lt m _ _ _ hm
  obtain ⟨fuel0, hf0⟩ := h0
  obtain ⟨a0, e0, w0⟩ := dec52 _ _ _ hf0
  replace e0 : cs0.toList = c52 a0 := e0
  obtain rfl : cs0 = (c52 a0).toArray := by rw [← e0]
  obtain ⟨cs1, rfl⟩ : ∃ cs, v1 = Value.agg cs := by
    have h := hval 1 27 v1 rfl rfl
    unfold Value.okWide at h
    rw [Tryz.underlying27] at h
    obtain ⟨cs, e, _⟩ := h
    exact ⟨cs, e⟩
  have k1 := h1
  have lt1 : ∀ x ∈ p1, x.block < W.heap.size := by obtain ⟨m, hm⟩ := k1; exact DataW.trod_lt m _ _ _ hm
  obtain ⟨fuel1, hf1⟩ := h1
  obtain ⟨a1, e1, w1⟩ := dec27 _ _ _ hf1
  replace e1 : cs1.toList = c27 a1 := e1
  obtain rfl : cs1 = (c27 a1).toArray := by rw [← e1]
  obtain ⟨a2, rfl, rfl, rfl, w2⟩ := open_int Tryz.underlying3 (hval 2 3 v2 rfl rfl) h2
  clear hA0 hval0
  simp only [List.append_nil] at hW'
  refine (walk W a0 w0 a1 w1 a2 w2).mono fun e W' ⟨he, bel⟩ => ?_
  subst he
  exact ⟨_, rfl, _, _, _, [], _, [], hW', trodAll_mk1 (shut_bool Tryz.underlying4 _), (trodAll_cons_mk (Below.trod laidOut (by kernel_rfl) (of_decide_eq_true (by kernel_rfl)) k0 bel lt0) (trodAll_cons_mk (Below.trod laidOut (by kernel_rfl) (of_decide_eq_true (by kernel_rfl)) k1 bel lt1) (trodAll_cons_mk (shut_int Tryz.underlying3 w2) trodAll_mk0))), rfl, bel.frame _, fun h => by cases h⟩

theorem jn1 : (Rows.pickNobodyRow.inPlace == Tryz.prog.inPlace 9) = true := by kernel_rfl
theorem jn2 : (Rows.pickNobodyRow.unfollowed == Tryz.prog.unfollowed 9) = true := by kernel_rfl
theorem jn3 : (Rows.pickNobodyRow.recurses == Tryz.prog.recurses 9) = true := by kernel_rfl
theorem jn4 : (Rows.pickNobodyRow.named == Tryz.prog.varsNamed 9) = true := by kernel_rfl
theorem jnf : Tryz.prog.funcNamed Rows.pickNobodyRow.func = some 9 := by kernel_rfl
theorem jnr : joinedFacts Tryz.prog 9 Tryz.f9 Rows.pickNobodySpec Rows.pickNobodyRow = true := by
  unfold joinedFacts
  rw [jn1, jn2, jn3, jn4]
  kernel_rfl
theorem jni : Tryz.f9.isInstance Tryz.prog Rows.pickNobodyRow.origin Rows.pickNobodyRow.targs := of_decide_eq_true (by kernel_rfl)
theorem jnw : Tryz.f9.isWrapper Tryz.prog Rows.pickNobodyRow.wrapper Rows.pickNobodyRow.mainSum := by unfold Func.isWrapper; first | (rw [if_pos (by decide +kernel)]; kernel_rfl) | (rw [if_neg (by decide +kernel)]; exact ⟨rfl, rfl⟩)
theorem over : Rows.pickNobodyRow.holds Tryz.pinned (OpenSpec.ofChange Rows.pickNobodySpec) :=
  OpenClaim.holds_of_wide 9 Tryz.f9 rfl rfl rfl rfl rfl rfl rfl ⟨rfl, rfl, rfl, rfl, rfl⟩ rfl rfl rfl rfl rfl jnf Tryz.func9 jnr jni jnw
    (fun os started H enc _ => lifted os started H enc)

theorem proved : Rows.PickNobodySaid := over
end Go.Proofs.YtbbhfadmfadklaaGreat.pickNobody
