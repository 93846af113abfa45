/-
  Texts that the law leans on. Nothing here is trusted.
-/
import Derived.Test.YtnlglgafokjhnaaGreatJoinVNa
import Derived.Test.YtnlglgafokjhnaaGreatRows
import Derived.WalkKit
import Derived.ProofKit
import Derived.OpenShut
import Derived.ChangeOld
import Derived.Below
set_option linter.unusedVariables false
set_option linter.unusedSimpArgs false
namespace Go.Proofs.YtnlglgafokjhnaaGreat.viewNobody
theorem jand {a b : Bool} (x : a = true) (y : b = true) : (a && b) = true := by rw [x, y]; rfl
theorem jq11 : ((Rows.viewNobodyRow.unfollowed == Tryz.prog.unfollowed 3)) = true := by kernel_rfl
theorem jq12 : ((Rows.viewNobodyRow.recurses == Tryz.prog.recurses 3)) = true := by kernel_rfl
theorem jq13 : ((Rows.viewNobodyRow.named == Tryz.prog.varsNamed 3)) = true := by kernel_rfl
theorem jq14 : ((Rows.viewNobodyRow.maps == (Tryz.f3.params.toList ++ Rows.viewNobodySpec.plain.varTypes Tryz.prog).any (Tryz.prog.mapsRec ·))) = true := by kernel_rfl
theorem jq15 : ((Rows.viewNobodyRow.ifaces == (Tryz.f3.params.toList ++ Rows.viewNobodySpec.plain.varTypes Tryz.prog).any (Tryz.prog.ifacesRec ·))) = true := by kernel_rfl
theorem jq16 : ((Rows.viewNobodyRow.mapsOut == Tryz.prog.mapsAmong Tryz.f3.resultTypes.toList)) = true := by kernel_rfl
theorem jq17 : ((Rows.viewNobodyRow.loops == (Tryz.f3.params.toList ++ Rows.viewNobodySpec.plain.varTypes Tryz.prog).any (Tryz.prog.loopsFrom ·))) = true := by kernel_rfl
theorem jq18 : ((Rows.viewNobodyRow.wideKeys == (Tryz.f3.params.toList ++ Rows.viewNobodySpec.plain.varTypes Tryz.prog ++ Tryz.f3.resultTypes.toList).any (Tryz.prog.wideKeysFrom ·))) = true := by kernel_rfl
theorem jq19 : (Rows.viewNobodySpec.vars.all (Tryz.prog.varReadable ·)) = true := by kernel_rfl
theorem jq20 : (Tryz.f3.resultTypes.all (fun t => Tryz.prog.readableRec t && decide (t < Tryz.prog.types.size))) = true := by kernel_rfl
theorem jq21 : ((Rows.viewNobodyRow.ifacesOut == Tryz.f3.resultTypes.toList.any (Tryz.prog.ifacesRec ·))) = true := by kernel_rfl
theorem jq22 : ((Rows.viewNobodyRow.loopsOut == Tryz.f3.resultTypes.toList.any (Tryz.prog.loopsFrom ·))) = true := by kernel_rfl
theorem jq23 : ((Rows.viewNobodyRow.plainKeys == Tryz.prog.plainKeys)) = true := by kernel_rfl
theorem jq24 : (Rows.viewNobodyRow.shortTexts.isNone) = true := by kernel_rfl
theorem jq25 : (Tryz.prog.stopsHeard) = true := by kernel_rfl
theorem jq26 : (Tryz.prog.mayEnter) = true := by kernel_rfl
theorem jq27 : ((Rows.viewNobodyRow.lifted == Tryz.prog.liftsFinal)) = true := by kernel_rfl
theorem jq28 : ((Tryz.prog.make == some Rows.viewNobodyRow.make)) = true := by kernel_rfl
theorem jq29 : ((Rows.viewNobodyRow.kinds == (if Rows.viewNobodyRow.domain.isEmpty then [] else Tryz.f3.params.toList.map fun t => match Tryz.prog.underlying t with | some (.int k) => some k | _ => none))) = true := by kernel_rfl
theorem jq30 : ((Rows.viewNobodyRow.pinned == Rows.viewNobodyRow.pinnedBy)) = true := by kernel_rfl
theorem jq31 : ((Rows.viewNobodyRow.veiled == (Tryz.f3.params.toList ++ Rows.viewNobodySpec.plain.varTypes Tryz.prog ++ Tryz.f3.resultTypes.toList).any (Tryz.prog.veiledRec ·))) = true := by kernel_rfl
theorem jq32 : (Rows.viewNobodyRow.veiledFits Tryz.prog Tryz.f3.params.toList (Tryz.f3.params.toList ++ Rows.viewNobodySpec.plain.varTypes Tryz.prog ++ Tryz.f3.resultTypes.toList)) = true := by kernel_rfl
set_option maxRecDepth 100000 in
theorem jnr : joinedFacts Tryz.prog 3 Tryz.f3 Rows.viewNobodySpec Rows.viewNobodyRow = true := by unfold joinedFacts; exact (jand (jand (jand (jand (jand (jand (jand (jand (jand (jand (jand (jand (jand (jand (jand (jand (jand (jand (jand (jand (jand (jand (jand (jand (jand (jand (jand (jand (jand (jand (jand jq1 jq2) jq3) jq4) jq5) jq6) jq7) jq8) jq9) jq10) jq11) jq12) jq13) jq14) jq15) jq16) jq17) jq18) jq19) jq20) jq21) jq22) jq23) jq24) jq25) jq26) jq27) jq28) jq29) jq30) jq31) jq32)
end Go.Proofs.YtnlglgafokjhnaaGreat.viewNobody
