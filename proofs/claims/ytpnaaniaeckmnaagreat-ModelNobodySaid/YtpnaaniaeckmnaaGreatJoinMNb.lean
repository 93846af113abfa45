/-
  Texts that the law leans on. Nothing here is trusted.
-/
import Derived.Test.YtpnaaniaeckmnaaGreatJoinMNa
import Derived.Test.YtpnaaniaeckmnaaGreatRows
import Derived.WalkKit
import Derived.ProofKit
import Derived.OpenShut
import Derived.ChangeOld
import Derived.Below
set_option linter.unusedVariables false
set_option linter.unusedSimpArgs false
namespace Go.Proofs.YtpnaaniaeckmnaaGreat.modelNobody
theorem jand {a b : Bool} (x : a = true) (y : b = true) : (a && b) = true := by rw [x, y]; rfl
theorem jq11 : ((Rows.modelNobodyRow.unfollowed == Tryz.prog.unfollowed 4)) = true := by kernel_rfl
theorem jq12 : ((Rows.modelNobodyRow.recurses == Tryz.prog.recurses 4)) = true := by kernel_rfl
theorem jq13 : ((Rows.modelNobodyRow.named == Tryz.prog.varsNamed 4)) = true := by kernel_rfl
theorem jq14 : ((Rows.modelNobodyRow.maps == (Tryz.f4.params.toList ++ Rows.modelNobodySpec.plain.varTypes Tryz.prog).any (Tryz.prog.mapsRec ·))) = true := by kernel_rfl
theorem jq15 : ((Rows.modelNobodyRow.ifaces == (Tryz.f4.params.toList ++ Rows.modelNobodySpec.plain.varTypes Tryz.prog).any (Tryz.prog.ifacesRec ·))) = true := by kernel_rfl
theorem jq16 : ((Rows.modelNobodyRow.mapsOut == Tryz.prog.mapsAmong Tryz.f4.resultTypes.toList)) = true := by kernel_rfl
theorem jq17 : ((Rows.modelNobodyRow.loops == (Tryz.f4.params.toList ++ Rows.modelNobodySpec.plain.varTypes Tryz.prog).any (Tryz.prog.loopsFrom ·))) = true := by kernel_rfl
theorem jq18 : ((Rows.modelNobodyRow.wideKeys == (Tryz.f4.params.toList ++ Rows.modelNobodySpec.plain.varTypes Tryz.prog ++ Tryz.f4.resultTypes.toList).any (Tryz.prog.wideKeysFrom ·))) = true := by kernel_rfl
theorem jq19 : (Rows.modelNobodySpec.vars.all (Tryz.prog.varReadable ·)) = true := by kernel_rfl
theorem jq20 : (Tryz.f4.resultTypes.all (fun t => Tryz.prog.readableRec t && decide (t < Tryz.prog.types.size))) = true := by kernel_rfl
theorem jq21 : ((Rows.modelNobodyRow.ifacesOut == Tryz.f4.resultTypes.toList.any (Tryz.prog.ifacesRec ·))) = true := by kernel_rfl
theorem jq22 : ((Rows.modelNobodyRow.loopsOut == Tryz.f4.resultTypes.toList.any (Tryz.prog.loopsFrom ·))) = true := by kernel_rfl
theorem jq23 : ((Rows.modelNobodyRow.plainKeys == Tryz.prog.plainKeys)) = true := by kernel_rfl
theorem jq24 : (Rows.modelNobodyRow.shortTexts.isNone) = true := by kernel_rfl
theorem jq25 : (Tryz.prog.stopsHeard) = true := by kernel_rfl
theorem jq26 : (Tryz.prog.mayEnter) = true := by kernel_rfl
theorem jq27 : ((Rows.modelNobodyRow.lifted == Tryz.prog.liftsFinal)) = true := by kernel_rfl
theorem jq28 : ((Tryz.prog.make == some Rows.modelNobodyRow.make)) = true := by kernel_rfl
theorem jq29 : ((Rows.modelNobodyRow.kinds == (if Rows.modelNobodyRow.domain.isEmpty then [] else Tryz.f4.params.toList.map fun t => match Tryz.prog.underlying t with | some (.int k) => some k | _ => none))) = true := by kernel_rfl
theorem jq30 : ((Rows.modelNobodyRow.pinned == Rows.modelNobodyRow.pinnedBy)) = true := by kernel_rfl
theorem jq31 : ((Rows.modelNobodyRow.veiled == (Tryz.f4.params.toList ++ Rows.modelNobodySpec.plain.varTypes Tryz.prog ++ Tryz.f4.resultTypes.toList).any (Tryz.prog.veiledRec ·))) = true := by kernel_rfl
theorem jq32 : (Rows.modelNobodyRow.veiledFits Tryz.prog Tryz.f4.params.toList (Tryz.f4.params.toList ++ Rows.modelNobodySpec.plain.varTypes Tryz.prog ++ Tryz.f4.resultTypes.toList)) = true := by kernel_rfl
set_option maxRecDepth 100000 in
theorem jnr : joinedFacts Tryz.prog 4 Tryz.f4 Rows.modelNobodySpec Rows.modelNobodyRow = true := by unfold joinedFacts; exact (jand (jand (jand (jand (jand (jand (jand (jand (jand (jand (jand (jand (jand (jand (jand (jand (jand (jand (jand (jand (jand (jand (jand (jand (jand (jand (jand (jand (jand (jand (jand jq1 jq2) jq3) jq4) jq5) jq6) jq7) jq8) jq9) jq10) jq11) jq12) jq13) jq14) jq15) jq16) jq17) jq18) jq19) jq20) jq21) jq22) jq23) jq24) jq25) jq26) jq27) jq28) jq29) jq30) jq31) jq32)
end Go.Proofs.YtpnaaniaeckmnaaGreat.modelNobody
