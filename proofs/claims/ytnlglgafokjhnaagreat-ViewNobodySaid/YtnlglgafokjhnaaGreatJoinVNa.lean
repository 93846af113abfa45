/-
  Texts that the law leans on. Nothing here is trusted.
-/
import Derived.Test.YtnlglgafokjhnaaGreatRows
import Derived.WalkKit
import Derived.ProofKit
import Derived.OpenShut
import Derived.ChangeOld
import Derived.Below
set_option linter.unusedVariables false
set_option linter.unusedSimpArgs false
namespace Go.Proofs.YtnlglgafokjhnaaGreat.viewNobody
theorem jq1 : (Rows.viewNobodyRow.wf (OpenSpec.ofChange Rows.viewNobodySpec)) = true := by kernel_rfl
theorem jq2 : (laidOutB Tryz.prog) = true := by kernel_rfl
theorem jq3 : (mapsRowed Tryz.prog) = true := by kernel_rfl
theorem jq4 : (Tryz.f3.params.all (Tryz.prog.readableRec ·)) = true := by kernel_rfl
theorem jq5 : (namedTie Tryz.prog Rows.viewNobodyRow.named Rows.viewNobodySpec.vars) = true := by kernel_rfl
theorem jq6 : ((Rows.viewNobodyRow.stops == [])) = true := by kernel_rfl
theorem jq7 : ((Tryz.prog.stops == [])) = true := by kernel_rfl
theorem jq8 : ((Rows.viewNobodyRow.knobs == [])) = true := by kernel_rfl
theorem jq9 : ((Tryz.prog.stopKnobs == [])) = true := by kernel_rfl
theorem jq10 : ((Rows.viewNobodyRow.inPlace == Tryz.prog.inPlace 3)) = true := by kernel_rfl
end Go.Proofs.YtnlglgafokjhnaaGreat.viewNobody
