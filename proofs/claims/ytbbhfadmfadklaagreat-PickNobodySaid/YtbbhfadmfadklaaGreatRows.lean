/-
  No cell of these rows narrows 'for every input' (looked for: loops, veiled, ifaces, maps, wideKeys, modest, calm, conditions, laid).
  DERIVED. THE GIVEN ROWS OF THIS SEAT. 7 by the template 'for every input the law returns true; each argument reads behind the call as it read before'; 0 by the template 'total and deterministic' (their statements: YtbbhfadmfadklaaGreatTotals.lean).
  GIVEN WITH THE SEED: the statements are not yours to turn. If you find one false, say at which input.
  Laid BY PROGRAM, IN A SANDBOX (cutbox-rows.mjs): the forced cells as the released guide's own fill.sh prints them over the translation 17e397d142664d8a… (all of the seat's roots in one cut). By AI agents, Wed Nov 11 2026. No macro, syntax, notation, axiom, sorry.
-/
import Derived.Test.YtbbhfadmfadklaaGreatChecked
import GoSem.Claim
import GoSem.ClaimJoined
import GoSem.ClaimMapViews
import Derived.JoinedTies
import Derived.KernelRfl
namespace Go.Proofs.YtbbhfadmfadklaaGreat
/- THE CELL 'sum', in the pinned program and in every row, IS THE sha256 OF THE DUMP (.gsa) THAT YtbbhfadmfadklaaGreatProg.lean LOADS. Nothing in Lean hashes anything: it is a label: what it is worth is what the hold of that sum in a sandbox is worth. -/
noncomputable def Tryz.pinned : Pinned := { name := "ytbbhfadmfadklaagreat", sum := "17e397d142664d8a36a5a9f715477ab7f5e5f8fff99183c279aeca19c953b409", checked := Tryz.checked }
namespace Rows
def none {H : Type} : Left H := { results := [], args := [] }

/-- 'placardlaw23.FieldBinds': WHATEVER THE INPUT: true; the input reads as it did. -/
def fieldBindsSpec : ChangeSpec := { name := "fieldBinds", fn := fun _ => fun
  | [d1, d2] => { results := [.lit (.bool true)], args := [d1, d2] }
  | _ => none }
def fieldBindsRow : OpenClaim := { program := "ytbbhfadmfadklaagreat", sum := "17e397d142664d8a36a5a9f715477ab7f5e5f8fff99183c279aeca19c953b409", func := "placard/placardlaw23.FieldBinds", spec := "fieldBinds", inPlace := ["internal/abi.NoEscape", "internal/bytealg.MakeNoZero", "math.Float64bits"], unfollowed := true, recurses := true, apart := false }
def FieldBindsSaid : Prop := fieldBindsRow.holds Tryz.pinned (OpenSpec.ofChange fieldBindsSpec)

/-- ITS FALSE NEIGHBOUR: 'it returns false'. Refute it at one input. -/
def fieldBindsWrong : ChangeSpec := { name := "fieldBinds", fn := fun _ => fun
  | [d1, d2] => { results := [.lit (.bool false)], args := [d1, d2] }
  | _ => none }
def FieldBindsWrongFalsely : Prop := fieldBindsRow.holds Tryz.pinned (OpenSpec.ofChange fieldBindsWrong)

/-- 'placardlaw23.FieldHolds': WHATEVER THE INPUT: true; the input reads as it did. -/
def fieldHoldsSpec : ChangeSpec := { name := "fieldHolds", fn := fun _ => fun
  | [d1, d2] => { results := [.lit (.bool true)], args := [d1, d2] }
  | _ => none }
def fieldHoldsRow : OpenClaim := { program := "ytbbhfadmfadklaagreat", sum := "17e397d142664d8a36a5a9f715477ab7f5e5f8fff99183c279aeca19c953b409", func := "placard/placardlaw23.FieldHolds", spec := "fieldHolds", inPlace := ["internal/abi.NoEscape", "internal/bytealg.MakeNoZero", "math.Float64bits", "internal/bytealg.IndexByteString"], unfollowed := true, recurses := true, apart := false }
def FieldHoldsSaid : Prop := fieldHoldsRow.holds Tryz.pinned (OpenSpec.ofChange fieldHoldsSpec)

/-- ITS FALSE NEIGHBOUR: 'it returns false'. Refute it at one input. -/
def fieldHoldsWrong : ChangeSpec := { name := "fieldHolds", fn := fun _ => fun
  | [d1, d2] => { results := [.lit (.bool false)], args := [d1, d2] }
  | _ => none }
def FieldHoldsWrongFalsely : Prop := fieldHoldsRow.holds Tryz.pinned (OpenSpec.ofChange fieldHoldsWrong)

/-- 'placardlaw23.FieldNobody': WHATEVER THE INPUT: true; the input reads as it did. -/
def fieldNobodySpec : ChangeSpec := { name := "fieldNobody", fn := fun _ => fun
  | [d1, d2] => { results := [.lit (.bool true)], args := [d1, d2] }
  | _ => none }
def fieldNobodyRow : OpenClaim := { program := "ytbbhfadmfadklaagreat", sum := "17e397d142664d8a36a5a9f715477ab7f5e5f8fff99183c279aeca19c953b409", func := "placard/placardlaw23.FieldNobody", spec := "fieldNobody", inPlace := ["internal/abi.NoEscape", "internal/bytealg.MakeNoZero", "math.Float64bits", "internal/bytealg.IndexByteString", "math.Float64frombits"], unfollowed := true, recurses := true, apart := false }
def FieldNobodySaid : Prop := fieldNobodyRow.holds Tryz.pinned (OpenSpec.ofChange fieldNobodySpec)

/-- ITS FALSE NEIGHBOUR: 'it returns false'. Refute it at one input. -/
def fieldNobodyWrong : ChangeSpec := { name := "fieldNobody", fn := fun _ => fun
  | [d1, d2] => { results := [.lit (.bool false)], args := [d1, d2] }
  | _ => none }
def FieldNobodyWrongFalsely : Prop := fieldNobodyRow.holds Tryz.pinned (OpenSpec.ofChange fieldNobodyWrong)

/-- 'placardlaw24.PickHolds': WHATEVER THE INPUT: true; the input reads as it did. -/
def pickHoldsSpec : ChangeSpec := { name := "pickHolds", fn := fun _ => fun
  | [d1, d2] => { results := [.lit (.bool true)], args := [d1, d2] }
  | _ => none }
def pickHoldsRow : OpenClaim := { program := "ytbbhfadmfadklaagreat", sum := "17e397d142664d8a36a5a9f715477ab7f5e5f8fff99183c279aeca19c953b409", func := "placard/placardlaw24.PickHolds", spec := "pickHolds", inPlace := ["internal/abi.NoEscape", "internal/bytealg.MakeNoZero", "math.Float64bits"], unfollowed := true, recurses := true, apart := false }
def PickHoldsSaid : Prop := pickHoldsRow.holds Tryz.pinned (OpenSpec.ofChange pickHoldsSpec)

/-- ITS FALSE NEIGHBOUR: 'it returns false'. Refute it at one input. -/
def pickHoldsWrong : ChangeSpec := { name := "pickHolds", fn := fun _ => fun
  | [d1, d2] => { results := [.lit (.bool false)], args := [d1, d2] }
  | _ => none }
def PickHoldsWrongFalsely : Prop := pickHoldsRow.holds Tryz.pinned (OpenSpec.ofChange pickHoldsWrong)

/-- 'placardlaw24.PickFinds': WHATEVER THE INPUT: true; the input reads as it did. -/
def pickFindsSpec : ChangeSpec := { name := "pickFinds", fn := fun _ => fun
  | [d1, d2, d3] => { results := [.lit (.bool true)], args := [d1, d2, d3] }
  | _ => none }
def pickFindsRow : OpenClaim := { program := "ytbbhfadmfadklaagreat", sum := "17e397d142664d8a36a5a9f715477ab7f5e5f8fff99183c279aeca19c953b409", func := "placard/placardlaw24.PickFinds", spec := "pickFinds", inPlace := ["internal/abi.NoEscape", "internal/bytealg.MakeNoZero", "math.Float64bits"], unfollowed := true, recurses := true, apart := false }
def PickFindsSaid : Prop := pickFindsRow.holds Tryz.pinned (OpenSpec.ofChange pickFindsSpec)

/-- ITS FALSE NEIGHBOUR: 'it returns false'. Refute it at one input. -/
def pickFindsWrong : ChangeSpec := { name := "pickFinds", fn := fun _ => fun
  | [d1, d2, d3] => { results := [.lit (.bool false)], args := [d1, d2, d3] }
  | _ => none }
def PickFindsWrongFalsely : Prop := pickFindsRow.holds Tryz.pinned (OpenSpec.ofChange pickFindsWrong)

/-- 'placardlaw24.PickRuns': WHATEVER THE INPUT: true; the input reads as it did. -/
def pickRunsSpec : ChangeSpec := { name := "pickRuns", fn := fun _ => fun
  | [d1, d2, d3, d4] => { results := [.lit (.bool true)], args := [d1, d2, d3, d4] }
  | _ => none }
def pickRunsRow : OpenClaim := { program := "ytbbhfadmfadklaagreat", sum := "17e397d142664d8a36a5a9f715477ab7f5e5f8fff99183c279aeca19c953b409", func := "placard/placardlaw24.PickRuns", spec := "pickRuns", inPlace := ["internal/abi.NoEscape", "internal/bytealg.MakeNoZero", "math.Float64bits"], unfollowed := true, recurses := true, apart := false }
def PickRunsSaid : Prop := pickRunsRow.holds Tryz.pinned (OpenSpec.ofChange pickRunsSpec)

/-- ITS FALSE NEIGHBOUR: 'it returns false'. Refute it at one input. -/
def pickRunsWrong : ChangeSpec := { name := "pickRuns", fn := fun _ => fun
  | [d1, d2, d3, d4] => { results := [.lit (.bool false)], args := [d1, d2, d3, d4] }
  | _ => none }
def PickRunsWrongFalsely : Prop := pickRunsRow.holds Tryz.pinned (OpenSpec.ofChange pickRunsWrong)

/-- 'placardlaw24.PickNobody': WHATEVER THE INPUT: true; the input reads as it did. -/
def pickNobodySpec : ChangeSpec := { name := "pickNobody", fn := fun _ => fun
  | [d1, d2, d3] => { results := [.lit (.bool true)], args := [d1, d2, d3] }
  | _ => none }
def pickNobodyRow : OpenClaim := { program := "ytbbhfadmfadklaagreat", sum := "17e397d142664d8a36a5a9f715477ab7f5e5f8fff99183c279aeca19c953b409", func := "placard/placardlaw24.PickNobody", spec := "pickNobody", inPlace := ["internal/abi.NoEscape", "internal/bytealg.MakeNoZero", "math.Float64bits"], unfollowed := true, recurses := true, apart := false }
def PickNobodySaid : Prop := pickNobodyRow.holds Tryz.pinned (OpenSpec.ofChange pickNobodySpec)

/-- ITS FALSE NEIGHBOUR: 'it returns false'. Refute it at one input. -/
def pickNobodyWrong : ChangeSpec := { name := "pickNobody", fn := fun _ => fun
  | [d1, d2, d3] => { results := [.lit (.bool false)], args := [d1, d2, d3] }
  | _ => none }
def PickNobodyWrongFalsely : Prop := pickNobodyRow.holds Tryz.pinned (OpenSpec.ofChange pickNobodyWrong)

/- THE SECOND FORM. 'bulk': how many values and letters a reading holds, each counted each time it is reached (what is shared counts as often as it is met; a slice's spare places count too). A statement '..UptoSaid' is the law's where the arguments, and the package variables that the reading takes, are together of bulk at most 1048576: NARROWER than '..Said'. Prove '..Said' where nothing that the law and all that it calls make is longer than what came in: it says more and counts as full. Else prove '..UptoSaid'. A law counts once. -/
mutual
def uptoBulk {H : Type} : DataW H → Nat
  | .lit (.string bytes) => bytes.length + 1
  | .lit _ => 1
  | .nil => 1
  | .ptr d => uptoBulk d + 1
  | .slice elems spare => uptoBulkAll elems + uptoBulkAll spare + 1
  | .agg parts => uptoBulkAll parts + 1
  | .iface _ d => uptoBulk d + 1
  | .map entries => uptoBulkEntries entries + 1
  | .held _ => 1
def uptoBulkAll {H : Type} : List (DataW H) → Nat
  | [] => 0
  | d :: r => uptoBulk d + uptoBulkAll r
def uptoBulkEntries {H : Type} : List (Lit × DataW H) → Nat
  | [] => 0
  | x :: r => uptoBulkEntry x + uptoBulkEntries r
def uptoBulkEntry {H : Type} : Lit × DataW H → Nat
  | (.string bytes, d) => bytes.length + uptoBulk d + 1
  | (_, d) => uptoBulk d + 1
 end
def uptoSmall : (H : Type) → List (DataW H) → Bool := fun _ ds => decide (uptoBulkAll ds ≤ 1048576)
def OpenSpec.upto (s : _root_.Go.ChangeSpec) : _root_.Go.OpenSpec := { _root_.Go.OpenSpec.ofChange s with cond := some uptoSmall }

/-- 'placardlaw23.FieldBinds', WHERE WHAT IT READS IS OF BULK AT MOST 1048576: true; the input reads as it did. -/
def fieldBindsUptoRow : OpenClaim := { program := "ytbbhfadmfadklaagreat", sum := "17e397d142664d8a36a5a9f715477ab7f5e5f8fff99183c279aeca19c953b409", func := "placard/placardlaw23.FieldBinds", spec := "fieldBinds", inPlace := ["internal/abi.NoEscape", "internal/bytealg.MakeNoZero", "math.Float64bits"], unfollowed := true, recurses := true, apart := false, narrowed := true }
def FieldBindsUptoSaid : Prop := fieldBindsUptoRow.holds Tryz.pinned (OpenSpec.upto fieldBindsSpec)

/-- 'placardlaw23.FieldHolds', WHERE WHAT IT READS IS OF BULK AT MOST 1048576: true; the input reads as it did. -/
def fieldHoldsUptoRow : OpenClaim := { program := "ytbbhfadmfadklaagreat", sum := "17e397d142664d8a36a5a9f715477ab7f5e5f8fff99183c279aeca19c953b409", func := "placard/placardlaw23.FieldHolds", spec := "fieldHolds", inPlace := ["internal/abi.NoEscape", "internal/bytealg.MakeNoZero", "math.Float64bits", "internal/bytealg.IndexByteString"], unfollowed := true, recurses := true, apart := false, narrowed := true }
def FieldHoldsUptoSaid : Prop := fieldHoldsUptoRow.holds Tryz.pinned (OpenSpec.upto fieldHoldsSpec)

/-- 'placardlaw23.FieldNobody', WHERE WHAT IT READS IS OF BULK AT MOST 1048576: true; the input reads as it did. -/
def fieldNobodyUptoRow : OpenClaim := { program := "ytbbhfadmfadklaagreat", sum := "17e397d142664d8a36a5a9f715477ab7f5e5f8fff99183c279aeca19c953b409", func := "placard/placardlaw23.FieldNobody", spec := "fieldNobody", inPlace := ["internal/abi.NoEscape", "internal/bytealg.MakeNoZero", "math.Float64bits", "internal/bytealg.IndexByteString", "math.Float64frombits"], unfollowed := true, recurses := true, apart := false, narrowed := true }
def FieldNobodyUptoSaid : Prop := fieldNobodyUptoRow.holds Tryz.pinned (OpenSpec.upto fieldNobodySpec)

/-- 'placardlaw24.PickHolds', WHERE WHAT IT READS IS OF BULK AT MOST 1048576: true; the input reads as it did. -/
def pickHoldsUptoRow : OpenClaim := { program := "ytbbhfadmfadklaagreat", sum := "17e397d142664d8a36a5a9f715477ab7f5e5f8fff99183c279aeca19c953b409", func := "placard/placardlaw24.PickHolds", spec := "pickHolds", inPlace := ["internal/abi.NoEscape", "internal/bytealg.MakeNoZero", "math.Float64bits"], unfollowed := true, recurses := true, apart := false, narrowed := true }
def PickHoldsUptoSaid : Prop := pickHoldsUptoRow.holds Tryz.pinned (OpenSpec.upto pickHoldsSpec)

/-- 'placardlaw24.PickFinds', WHERE WHAT IT READS IS OF BULK AT MOST 1048576: true; the input reads as it did. -/
def pickFindsUptoRow : OpenClaim := { program := "ytbbhfadmfadklaagreat", sum := "17e397d142664d8a36a5a9f715477ab7f5e5f8fff99183c279aeca19c953b409", func := "placard/placardlaw24.PickFinds", spec := "pickFinds", inPlace := ["internal/abi.NoEscape", "internal/bytealg.MakeNoZero", "math.Float64bits"], unfollowed := true, recurses := true, apart := false, narrowed := true }
def PickFindsUptoSaid : Prop := pickFindsUptoRow.holds Tryz.pinned (OpenSpec.upto pickFindsSpec)

/-- 'placardlaw24.PickRuns', WHERE WHAT IT READS IS OF BULK AT MOST 1048576: true; the input reads as it did. -/
def pickRunsUptoRow : OpenClaim := { program := "ytbbhfadmfadklaagreat", sum := "17e397d142664d8a36a5a9f715477ab7f5e5f8fff99183c279aeca19c953b409", func := "placard/placardlaw24.PickRuns", spec := "pickRuns", inPlace := ["internal/abi.NoEscape", "internal/bytealg.MakeNoZero", "math.Float64bits"], unfollowed := true, recurses := true, apart := false, narrowed := true }
def PickRunsUptoSaid : Prop := pickRunsUptoRow.holds Tryz.pinned (OpenSpec.upto pickRunsSpec)

/-- 'placardlaw24.PickNobody', WHERE WHAT IT READS IS OF BULK AT MOST 1048576: true; the input reads as it did. -/
def pickNobodyUptoRow : OpenClaim := { program := "ytbbhfadmfadklaagreat", sum := "17e397d142664d8a36a5a9f715477ab7f5e5f8fff99183c279aeca19c953b409", func := "placard/placardlaw24.PickNobody", spec := "pickNobody", inPlace := ["internal/abi.NoEscape", "internal/bytealg.MakeNoZero", "math.Float64bits"], unfollowed := true, recurses := true, apart := false, narrowed := true }
def PickNobodyUptoSaid : Prop := pickNobodyUptoRow.holds Tryz.pinned (OpenSpec.upto pickNobodySpec)

end Rows
end Go.Proofs.YtbbhfadmfadklaaGreat
