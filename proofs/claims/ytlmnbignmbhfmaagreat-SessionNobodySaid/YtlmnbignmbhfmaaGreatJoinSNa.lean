/-
  Texts that the law leans on. Nothing here is trusted.
-/
import Derived.Test.YtlmnbignmbhfmaaGreatRows
import Derived.WalkKit
import Derived.ProofKit
import Derived.OpenShut
import Derived.ChangeOld
import Derived.Below
set_option linter.unusedVariables false
set_option linter.unusedSimpArgs false
namespace Go.Proofs.YtlmnbignmbhfmaaGreat.sessionNobody
theorem jq1 : (Rows.sessionNobodyRow.wf (OpenSpec.ofChange Rows.sessionNobodySpec)) = true := by kernel_rfl
theorem jq2 : (laidOutB Tryz.prog) = true := by kernel_rfl
theorem jq3 : (mapsRowed Tryz.prog) = true := by kernel_rfl
theorem jq4 : (Tryz.f4.params.all (Tryz.prog.readableRec ·)) = true := by kernel_rfl
theorem jq5 : (namedTie Tryz.prog Rows.sessionNobodyRow.named Rows.sessionNobodySpec.vars) = true := by kernel_rfl
theorem jq6 : ((Rows.sessionNobodyRow.stops == [])) = true := by kernel_rfl
theorem jq7 : ((Tryz.prog.stops == [])) = true := by kernel_rfl
theorem jq8 : ((Rows.sessionNobodyRow.knobs == [])) = true := by kernel_rfl
theorem jq9 : ((Tryz.prog.stopKnobs == [])) = true := by kernel_rfl
theorem jq10 : ((Rows.sessionNobodyRow.inPlace == Tryz.prog.inPlace 4)) = true := by kernel_rfl
end Go.Proofs.YtlmnbignmbhfmaaGreat.sessionNobody
