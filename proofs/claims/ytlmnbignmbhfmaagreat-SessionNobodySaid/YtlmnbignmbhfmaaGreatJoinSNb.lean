/-
  Texts that the law leans on. Nothing here is trusted.
-/
import Derived.Test.YtlmnbignmbhfmaaGreatJoinSNa
import Derived.Test.YtlmnbignmbhfmaaGreatRows
import Derived.WalkKit
import Derived.ProofKit
import Derived.OpenShut
import Derived.ChangeOld
import Derived.Below
set_option linter.unusedVariables false
set_option linter.unusedSimpArgs false
namespace Go.Proofs.YtlmnbignmbhfmaaGreat.sessionNobody
theorem jand {a b : Bool} (x : a = true) (y : b = true) : (a && b) = true := by rw [x, y]; rfl
theorem jq11 : ((Rows.sessionNobodyRow.unfollowed == Tryz.prog.unfollowed 4)) = true := by kernel_rfl
theorem jq12 : ((Rows.sessionNobodyRow.recurses == Tryz.prog.recurses 4)) = true := by kernel_rfl
theorem jq13 : ((Rows.sessionNobodyRow.named == Tryz.prog.varsNamed 4)) = true := by kernel_rfl
theorem jq14 : ((Rows.sessionNobodyRow.maps == (Tryz.f4.params.toList ++ Rows.sessionNobodySpec.plain.varTypes Tryz.prog).any (Tryz.prog.mapsRec ·))) = true := by kernel_rfl
theorem jq15 : ((Rows.sessionNobodyRow.ifaces == (Tryz.f4.params.toList ++ Rows.sessionNobodySpec.plain.varTypes Tryz.prog).any (Tryz.prog.ifacesRec ·))) = true := by kernel_rfl
theorem jq16 : ((Rows.sessionNobodyRow.mapsOut == Tryz.prog.mapsAmong Tryz.f4.resultTypes.toList)) = true := by kernel_rfl
theorem jq17 : ((Rows.sessionNobodyRow.loops == (Tryz.f4.params.toList ++ Rows.sessionNobodySpec.plain.varTypes Tryz.prog).any (Tryz.prog.loopsFrom ·))) = true := by kernel_rfl
theorem jq18 : ((Rows.sessionNobodyRow.wideKeys == (Tryz.f4.params.toList ++ Rows.sessionNobodySpec.plain.varTypes Tryz.prog ++ Tryz.f4.resultTypes.toList).any (Tryz.prog.wideKeysFrom ·))) = true := by kernel_rfl
theorem jq19 : (Rows.sessionNobodySpec.vars.all (Tryz.prog.varReadable ·)) = true := by kernel_rfl
theorem jq20 : (Tryz.f4.resultTypes.all (fun t => Tryz.prog.readableRec t && decide (t < Tryz.prog.types.size))) = true := by kernel_rfl
theorem jq21 : ((Rows.sessionNobodyRow.ifacesOut == Tryz.f4.resultTypes.toList.any (Tryz.prog.ifacesRec ·))) = true := by kernel_rfl
theorem jq22 : ((Rows.sessionNobodyRow.loopsOut == Tryz.f4.resultTypes.toList.any (Tryz.prog.loopsFrom ·))) = true := by kernel_rfl
theorem jq23 : ((Rows.sessionNobodyRow.plainKeys == Tryz.prog.plainKeys)) = true := by kernel_rfl
theorem jq24 : (Rows.sessionNobodyRow.shortTexts.isNone) = true := by kernel_rfl
theorem jq25 : (Tryz.prog.stopsHeard) = true := by kernel_rfl
theorem jq26 : (Tryz.prog.mayEnter) = true := by kernel_rfl
theorem jq27 : ((Rows.sessionNobodyRow.lifted == Tryz.prog.liftsFinal)) = true := by kernel_rfl
theorem jq28 : ((Tryz.prog.make == some Rows.sessionNobodyRow.make)) = true := by kernel_rfl
theorem jq29 : ((Rows.sessionNobodyRow.kinds == (if Rows.sessionNobodyRow.domain.isEmpty then [] else Tryz.f4.params.toList.map fun t => match Tryz.prog.underlying t with | some (.int k) => some k | _ => none))) = true := by kernel_rfl
theorem jq30 : ((Rows.sessionNobodyRow.pinned == Rows.sessionNobodyRow.pinnedBy)) = true := by kernel_rfl
theorem jq31 : ((Rows.sessionNobodyRow.veiled == (Tryz.f4.params.toList ++ Rows.sessionNobodySpec.plain.varTypes Tryz.prog ++ Tryz.f4.resultTypes.toList).any (Tryz.prog.veiledRec ·))) = true := by kernel_rfl
theorem jq32 : (Rows.sessionNobodyRow.veiledFits Tryz.prog Tryz.f4.params.toList (Tryz.f4.params.toList ++ Rows.sessionNobodySpec.plain.varTypes Tryz.prog ++ Tryz.f4.resultTypes.toList)) = true := by kernel_rfl
set_option maxRecDepth 100000 in
theorem jnr : joinedFacts Tryz.prog 4 Tryz.f4 Rows.sessionNobodySpec Rows.sessionNobodyRow = true := by unfold joinedFacts; exact (jand (jand (jand (jand (jand (jand (jand (jand (jand (jand (jand (jand (jand (jand (jand (jand (jand (jand (jand (jand (jand (jand (jand (jand (jand (jand (jand (jand (jand (jand (jand jq1 jq2) jq3) jq4) jq5) jq6) jq7) jq8) jq9) jq10) jq11) jq12) jq13) jq14) jq15) jq16) jq17) jq18) jq19) jq20) jq21) jq22) jq23) jq24) jq25) jq26) jq27) jq28) jq29) jq30) jq31) jq32)
end Go.Proofs.YtlmnbignmbhfmaaGreat.sessionNobody
