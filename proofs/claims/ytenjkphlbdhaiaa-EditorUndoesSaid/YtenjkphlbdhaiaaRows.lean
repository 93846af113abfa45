/-
  No cell of these rows narrows 'for every input' (looked for: loops, veiled, ifaces, maps, wideKeys, modest, calm, conditions, laid).
  DERIVED. THE GIVEN ROWS OF THIS SEAT. 7 by the template 'for every input the law returns true; each argument reads behind the call as it read before'; 0 by the template 'total and deterministic' (their statements: YtenjkphlbdhaiaaTotals.lean).
  GIVEN WITH THE SEED: the statements are not yours to turn. If you find one false, say at which input.
  Laid BY PROGRAM, IN A SANDBOX (cutbox-rows.mjs): the forced cells as the released guide's own fill.sh prints them over the translation c7826ed062095118… (all of the seat's roots in one cut). By AI agents, Wed Nov 11 2026. No macro, syntax, notation, axiom, sorry.
-/
import Derived.Test.YtenjkphlbdhaiaaChecked
import GoSem.Claim
import GoSem.ClaimJoined
import GoSem.ClaimMapViews
import Derived.JoinedTies
import Derived.KernelRfl
namespace Go.Proofs.Ytenjkphlbdhaiaa
/- THE CELL 'sum', in the pinned program and in every row, IS THE sha256 OF THE DUMP (.gsa) THAT YtenjkphlbdhaiaaProg.lean LOADS. Nothing in Lean hashes anything: it is a label: what it is worth is what the hold of that sum in a sandbox is worth. -/
noncomputable def Try.pinned : Pinned := { name := "ytenjkphlbdhaiaa", sum := "c7826ed062095118fcccd563534104adb29486e933071118ee2c4056077ff391", checked := Try.checked }
namespace Rows
def none {H : Type} : Left H := { results := [], args := [] }

/-- 'placardlaw12.GapMoves': WHATEVER THE INPUT: true; the input reads as it did. -/
def gapMovesSpec : ChangeSpec := { name := "gapMoves", fn := fun _ => fun
  | [d1, d2, d3] => { results := [.lit (.bool true)], args := [d1, d2, d3] }
  | _ => none }
def gapMovesRow : OpenClaim := { program := "ytenjkphlbdhaiaa", sum := "c7826ed062095118fcccd563534104adb29486e933071118ee2c4056077ff391", func := "placard/placardlaw12.GapMoves", spec := "gapMoves", inPlace := ["internal/abi.NoEscape"], unfollowed := true, recurses := true, apart := false }
def GapMovesSaid : Prop := gapMovesRow.holds Try.pinned (OpenSpec.ofChange gapMovesSpec)

/-- ITS FALSE NEIGHBOUR: 'it returns false'. Refute it at one input. -/
def gapMovesWrong : ChangeSpec := { name := "gapMoves", fn := fun _ => fun
  | [d1, d2, d3] => { results := [.lit (.bool false)], args := [d1, d2, d3] }
  | _ => none }
def GapMovesWrongFalsely : Prop := gapMovesRow.holds Try.pinned (OpenSpec.ofChange gapMovesWrong)

/-- 'placardlaw12.GapThere': WHATEVER THE INPUT: true; the input reads as it did. -/
def gapThereSpec : ChangeSpec := { name := "gapThere", fn := fun _ => fun
  | [d1, d2, d3, d4] => { results := [.lit (.bool true)], args := [d1, d2, d3, d4] }
  | _ => none }
def gapThereRow : OpenClaim := { program := "ytenjkphlbdhaiaa", sum := "c7826ed062095118fcccd563534104adb29486e933071118ee2c4056077ff391", func := "placard/placardlaw12.GapThere", spec := "gapThere", inPlace := ["internal/abi.NoEscape"], unfollowed := true, recurses := true, apart := false }
def GapThereSaid : Prop := gapThereRow.holds Try.pinned (OpenSpec.ofChange gapThereSpec)

/-- ITS FALSE NEIGHBOUR: 'it returns false'. Refute it at one input. -/
def gapThereWrong : ChangeSpec := { name := "gapThere", fn := fun _ => fun
  | [d1, d2, d3, d4] => { results := [.lit (.bool false)], args := [d1, d2, d3, d4] }
  | _ => none }
def GapThereWrongFalsely : Prop := gapThereRow.holds Try.pinned (OpenSpec.ofChange gapThereWrong)

/-- 'placardlaw12.GapFinds': WHATEVER THE INPUT: true; the input reads as it did. -/
def gapFindsSpec : ChangeSpec := { name := "gapFinds", fn := fun _ => fun
  | [d1, d2, d3, d4] => { results := [.lit (.bool true)], args := [d1, d2, d3, d4] }
  | _ => none }
def gapFindsRow : OpenClaim := { program := "ytenjkphlbdhaiaa", sum := "c7826ed062095118fcccd563534104adb29486e933071118ee2c4056077ff391", func := "placard/placardlaw12.GapFinds", spec := "gapFinds", inPlace := ["internal/abi.NoEscape"], unfollowed := true, recurses := true, apart := false }
def GapFindsSaid : Prop := gapFindsRow.holds Try.pinned (OpenSpec.ofChange gapFindsSpec)

/-- ITS FALSE NEIGHBOUR: 'it returns false'. Refute it at one input. -/
def gapFindsWrong : ChangeSpec := { name := "gapFinds", fn := fun _ => fun
  | [d1, d2, d3, d4] => { results := [.lit (.bool false)], args := [d1, d2, d3, d4] }
  | _ => none }
def GapFindsWrongFalsely : Prop := gapFindsRow.holds Try.pinned (OpenSpec.ofChange gapFindsWrong)

/-- 'placardlaw12.GapNobody': WHATEVER THE INPUT: true; the input reads as it did. -/
def gapNobodySpec : ChangeSpec := { name := "gapNobody", fn := fun _ => fun
  | [d1, d2] => { results := [.lit (.bool true)], args := [d1, d2] }
  | _ => none }
def gapNobodyRow : OpenClaim := { program := "ytenjkphlbdhaiaa", sum := "c7826ed062095118fcccd563534104adb29486e933071118ee2c4056077ff391", func := "placard/placardlaw12.GapNobody", spec := "gapNobody", inPlace := ["internal/abi.NoEscape"], unfollowed := true, recurses := true, apart := false }
def GapNobodySaid : Prop := gapNobodyRow.holds Try.pinned (OpenSpec.ofChange gapNobodySpec)

/-- ITS FALSE NEIGHBOUR: 'it returns false'. Refute it at one input. -/
def gapNobodyWrong : ChangeSpec := { name := "gapNobody", fn := fun _ => fun
  | [d1, d2] => { results := [.lit (.bool false)], args := [d1, d2] }
  | _ => none }
def GapNobodyWrongFalsely : Prop := gapNobodyRow.holds Try.pinned (OpenSpec.ofChange gapNobodyWrong)

/-- 'placardlaw13.EditorYanks': WHATEVER THE INPUT: true; the input reads as it did. -/
def editorYanksSpec : ChangeSpec := { name := "editorYanks", fn := fun _ => fun
  | [d1, d2, d3] => { results := [.lit (.bool true)], args := [d1, d2, d3] }
  | _ => none }
def editorYanksRow : OpenClaim := { program := "ytenjkphlbdhaiaa", sum := "c7826ed062095118fcccd563534104adb29486e933071118ee2c4056077ff391", func := "placard/placardlaw13.EditorYanks", spec := "editorYanks", inPlace := ["internal/abi.NoEscape", "internal/bytealg.MakeNoZero"], unfollowed := true, recurses := true, apart := false }
def EditorYanksSaid : Prop := editorYanksRow.holds Try.pinned (OpenSpec.ofChange editorYanksSpec)

/-- ITS FALSE NEIGHBOUR: 'it returns false'. Refute it at one input. -/
def editorYanksWrong : ChangeSpec := { name := "editorYanks", fn := fun _ => fun
  | [d1, d2, d3] => { results := [.lit (.bool false)], args := [d1, d2, d3] }
  | _ => none }
def EditorYanksWrongFalsely : Prop := editorYanksRow.holds Try.pinned (OpenSpec.ofChange editorYanksWrong)

/-- 'placardlaw13.EditorUndoes': WHATEVER THE INPUT: true; the input reads as it did. -/
def editorUndoesSpec : ChangeSpec := { name := "editorUndoes", fn := fun _ => fun
  | [d] => { results := [.lit (.bool true)], args := [d] }
  | _ => none }
def editorUndoesRow : OpenClaim := { program := "ytenjkphlbdhaiaa", sum := "c7826ed062095118fcccd563534104adb29486e933071118ee2c4056077ff391", func := "placard/placardlaw13.EditorUndoes", spec := "editorUndoes", inPlace := ["internal/abi.NoEscape", "internal/bytealg.MakeNoZero"], unfollowed := true, recurses := true, apart := false }
def EditorUndoesSaid : Prop := editorUndoesRow.holds Try.pinned (OpenSpec.ofChange editorUndoesSpec)

/-- ITS FALSE NEIGHBOUR: 'it returns false'. Refute it at one input. -/
def editorUndoesWrong : ChangeSpec := { name := "editorUndoes", fn := fun _ => fun
  | [d] => { results := [.lit (.bool false)], args := [d] }
  | _ => none }
def EditorUndoesWrongFalsely : Prop := editorUndoesRow.holds Try.pinned (OpenSpec.ofChange editorUndoesWrong)

/-- 'placardlaw13.EditorNobody': WHATEVER THE INPUT: true; the input reads as it did. -/
def editorNobodySpec : ChangeSpec := { name := "editorNobody", fn := fun _ => fun
  | [d1, d2, d3] => { results := [.lit (.bool true)], args := [d1, d2, d3] }
  | _ => none }
def editorNobodyRow : OpenClaim := { program := "ytenjkphlbdhaiaa", sum := "c7826ed062095118fcccd563534104adb29486e933071118ee2c4056077ff391", func := "placard/placardlaw13.EditorNobody", spec := "editorNobody", inPlace := ["internal/abi.NoEscape", "internal/bytealg.MakeNoZero"], unfollowed := true, recurses := true, apart := false }
def EditorNobodySaid : Prop := editorNobodyRow.holds Try.pinned (OpenSpec.ofChange editorNobodySpec)

/-- ITS FALSE NEIGHBOUR: 'it returns false'. Refute it at one input. -/
def editorNobodyWrong : ChangeSpec := { name := "editorNobody", fn := fun _ => fun
  | [d1, d2, d3] => { results := [.lit (.bool false)], args := [d1, d2, d3] }
  | _ => none }
def EditorNobodyWrongFalsely : Prop := editorNobodyRow.holds Try.pinned (OpenSpec.ofChange editorNobodyWrong)

/- THE SECOND FORM. 'bulk': how many values and letters a reading holds, each counted each time it is reached (what is shared counts as often as it is met; a slice's spare places count too). A statement '..UptoSaid' is the law's where the arguments, and the package variables that the reading takes, are together of bulk at most 1048576: NARROWER than '..Said'. Prove '..Said' where nothing that the law and all that it calls make is longer than what came in: it says more and counts as full. Else prove '..UptoSaid'. A law counts once. -/
mutual
def uptoBulk {H : Type} : DataW H → Nat
  | .lit (.string bytes) => bytes.length + 1
  | .lit _ => 1
  | .nil => 1
  | .ptr d => uptoBulk d + 1
  | .slice elems spare => uptoBulkAll elems + uptoBulkAll spare + 1
  | .agg parts => uptoBulkAll parts + 1
  | .iface _ d => uptoBulk d + 1
  | .map entries => uptoBulkEntries entries + 1
  | .held _ => 1
def uptoBulkAll {H : Type} : List (DataW H) → Nat
  | [] => 0
  | d :: r => uptoBulk d + uptoBulkAll r
def uptoBulkEntries {H : Type} : List (Lit × DataW H) → Nat
  | [] => 0
  | x :: r => uptoBulkEntry x + uptoBulkEntries r
def uptoBulkEntry {H : Type} : Lit × DataW H → Nat
  | (.string bytes, d) => bytes.length + uptoBulk d + 1
  | (_, d) => uptoBulk d + 1
 end
def uptoSmall : (H : Type) → List (DataW H) → Bool := fun _ ds => decide (uptoBulkAll ds ≤ 1048576)
def OpenSpec.upto (s : _root_.Go.ChangeSpec) : _root_.Go.OpenSpec := { _root_.Go.OpenSpec.ofChange s with cond := some uptoSmall }

/-- 'placardlaw12.GapMoves', WHERE WHAT IT READS IS OF BULK AT MOST 1048576: true; the input reads as it did. -/
def gapMovesUptoRow : OpenClaim := { program := "ytenjkphlbdhaiaa", sum := "c7826ed062095118fcccd563534104adb29486e933071118ee2c4056077ff391", func := "placard/placardlaw12.GapMoves", spec := "gapMoves", inPlace := ["internal/abi.NoEscape"], unfollowed := true, recurses := true, apart := false, narrowed := true }
def GapMovesUptoSaid : Prop := gapMovesUptoRow.holds Try.pinned (OpenSpec.upto gapMovesSpec)

/-- 'placardlaw12.GapThere', WHERE WHAT IT READS IS OF BULK AT MOST 1048576: true; the input reads as it did. -/
def gapThereUptoRow : OpenClaim := { program := "ytenjkphlbdhaiaa", sum := "c7826ed062095118fcccd563534104adb29486e933071118ee2c4056077ff391", func := "placard/placardlaw12.GapThere", spec := "gapThere", inPlace := ["internal/abi.NoEscape"], unfollowed := true, recurses := true, apart := false, narrowed := true }
def GapThereUptoSaid : Prop := gapThereUptoRow.holds Try.pinned (OpenSpec.upto gapThereSpec)

/-- 'placardlaw12.GapFinds', WHERE WHAT IT READS IS OF BULK AT MOST 1048576: true; the input reads as it did. -/
def gapFindsUptoRow : OpenClaim := { program := "ytenjkphlbdhaiaa", sum := "c7826ed062095118fcccd563534104adb29486e933071118ee2c4056077ff391", func := "placard/placardlaw12.GapFinds", spec := "gapFinds", inPlace := ["internal/abi.NoEscape"], unfollowed := true, recurses := true, apart := false, narrowed := true }
def GapFindsUptoSaid : Prop := gapFindsUptoRow.holds Try.pinned (OpenSpec.upto gapFindsSpec)

/-- 'placardlaw12.GapNobody', WHERE WHAT IT READS IS OF BULK AT MOST 1048576: true; the input reads as it did. -/
def gapNobodyUptoRow : OpenClaim := { program := "ytenjkphlbdhaiaa", sum := "c7826ed062095118fcccd563534104adb29486e933071118ee2c4056077ff391", func := "placard/placardlaw12.GapNobody", spec := "gapNobody", inPlace := ["internal/abi.NoEscape"], unfollowed := true, recurses := true, apart := false, narrowed := true }
def GapNobodyUptoSaid : Prop := gapNobodyUptoRow.holds Try.pinned (OpenSpec.upto gapNobodySpec)

/-- 'placardlaw13.EditorYanks', WHERE WHAT IT READS IS OF BULK AT MOST 1048576: true; the input reads as it did. -/
def editorYanksUptoRow : OpenClaim := { program := "ytenjkphlbdhaiaa", sum := "c7826ed062095118fcccd563534104adb29486e933071118ee2c4056077ff391", func := "placard/placardlaw13.EditorYanks", spec := "editorYanks", inPlace := ["internal/abi.NoEscape", "internal/bytealg.MakeNoZero"], unfollowed := true, recurses := true, apart := false, narrowed := true }
def EditorYanksUptoSaid : Prop := editorYanksUptoRow.holds Try.pinned (OpenSpec.upto editorYanksSpec)

/-- 'placardlaw13.EditorUndoes', WHERE WHAT IT READS IS OF BULK AT MOST 1048576: true; the input reads as it did. -/
def editorUndoesUptoRow : OpenClaim := { program := "ytenjkphlbdhaiaa", sum := "c7826ed062095118fcccd563534104adb29486e933071118ee2c4056077ff391", func := "placard/placardlaw13.EditorUndoes", spec := "editorUndoes", inPlace := ["internal/abi.NoEscape", "internal/bytealg.MakeNoZero"], unfollowed := true, recurses := true, apart := false, narrowed := true }
def EditorUndoesUptoSaid : Prop := editorUndoesUptoRow.holds Try.pinned (OpenSpec.upto editorUndoesSpec)

/-- 'placardlaw13.EditorNobody', WHERE WHAT IT READS IS OF BULK AT MOST 1048576: true; the input reads as it did. -/
def editorNobodyUptoRow : OpenClaim := { program := "ytenjkphlbdhaiaa", sum := "c7826ed062095118fcccd563534104adb29486e933071118ee2c4056077ff391", func := "placard/placardlaw13.EditorNobody", spec := "editorNobody", inPlace := ["internal/abi.NoEscape", "internal/bytealg.MakeNoZero"], unfollowed := true, recurses := true, apart := false, narrowed := true }
def EditorNobodyUptoSaid : Prop := editorNobodyUptoRow.holds Try.pinned (OpenSpec.upto editorNobodySpec)

end Rows
end Go.Proofs.Ytenjkphlbdhaiaa
