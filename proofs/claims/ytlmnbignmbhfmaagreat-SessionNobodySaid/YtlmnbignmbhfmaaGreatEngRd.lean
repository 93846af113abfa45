/-
  Texts that the law leans on. Nothing here is trusted.
-/
import Derived.Test.YtlmnbignmbhfmaaGreatEngRc
import Derived.Test.YtlmnbignmbhfmaaGreatEngLb
set_option linter.unusedVariables false
set_option linter.unusedSimpArgs false
namespace Go.Eng.R
open Go Go.Eng Go.RowKit
variable {P : Program} {w : World} {E : Env}
theorem law (hE : EnvOk P E) (d : Nat) {f : Nat} {args : List SV} {vs : List Value} (hvs : okL S0 args vs) (h : R.vcN E d [] f args 0 (phOf w) [] (fun r _ _ _ => Yes r)) :
    Calls P f vs.toArray w fun e w' => e = .returned (.bool true) ∧ Below w.heap.size w w' := Eng.law hE d hvs (vcN_eq ▸ h)
end Go.Eng.R
