/-
  Texts that the law leans on. Nothing here is trusted.
-/
import Derived.Test.YtbbhfadmfadklaaGreatEngRc
import Derived.Test.YtbbhfadmfadklaaGreatEngLb
set_option linter.unusedVariables false
set_option linter.unusedSimpArgs false
namespace Go.Eng.R
open Go Go.Eng Go.RowKit
variable {P : Program} {w : World} {E : Env}
theorem law (hE : EnvOk P E) (d : Nat) {f : Nat} {args : List SV} {vs : List Value} (hvs : okL S0 args vs) (h : R.vcN E d [] f args 0 (phOf w) [] (fun r _ _ _ => Yes r)) :
    Calls P f vs.toArray w fun e w' => e = .returned (.bool true) ∧ Below w.heap.size w w' := Eng.law hE d hvs (vcN_eq ▸ h)
def Is (val : SV) (r : SV) : Prop := R.mSV 0 val r [] fun _ => True
theorem Is_eq : @R.Is = @Eng.Is := by unfold R.Is Eng.Is; rw [mSV_eq]
theorem calmspec {s : CS} {fn : Func} (hP : P.funcs[s.f]? = some fn) (hname : (fn.name == "runtime.NumGoroutine") = false) (hb : fn.body.isSome = true)
    (h : ∀ i, s.ok i → ∀ q, Eng.RdsOk q (s.rds i) → ∀ args, caArgs q (s.args i) args → ∃ E d, EnvOk P E ∧ Eng.closed (s.res i) = true ∧ (∀ x ∈ args, Eng.closed x = true) ∧ R.vcN E d [] s.f args 0 q [] (fun r _ _ _ => R.Is (s.res i) r)) : CalmOk P s := by
  rw [vcN_eq, Is_eq] at h
  exact Eng.calmspec hP hname hb h
end Go.Eng.R
