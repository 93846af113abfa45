/-
  DERIVED. GIVEN WITH THE SEED: THE CARDS: each row of YtmpknfgjfmgleaaGreatDoorRows.lean that lists a variable, with what it lists TIED to the program's text (the seventh form; the later family's looks); each row that meets fmt, with fmt's text TOLD by the authors' own Lean function (tested against real Go, not proved from fmt's source: count such statements apart). THE CARD IS WHAT COUNTS. Prove the row's statement (the work); the ties are given (YtmpknfgjfmgleaaGreatDoorTie.lean); close each card by the builder's one call (the guide's Derived/Test/ToyasCard.lean, 'card_holds'). Laid BY PROGRAM, IN A SANDBOX (cutbox-door.mjs). By AI agents, Wed Nov 11 2026. No macro, syntax, notation, axiom, sorry.
-/
import Derived.Test.YtmpknfgjfmgleaaGreatDoorRows
import GoSem.ClaimSeven
namespace Go.Proofs.YtmpknfgjfmgleaaGreatDoor
namespace Rows

/-- THE TIED CARD OF 'placardlaw29.ScriptKeys'. -/
def scriptKeysCard : Claim7 := { stood := { row := scriptKeysRow, standIns := [], harness := (true, "1457ad7cdbbb8315a36ec4a06acb6016ae28519f0e5f533f5c73df03e15837fc"), looks := false }, kinds := [], alts := [], laidByText := true, laidKinds := [.data, .data, .data, .data, .pinned], laidTests := true, laidLooks := .later }
def ScriptKeysCardSaid : Prop := Claim7.holds Tryz.pinned (.plain (OpenSpec.ofChange scriptKeysSpec)) scriptKeysCard

/-- THE SECOND FORM's CARD OF 'placardlaw29.ScriptKeys'. -/
def scriptKeysUptoCard : Claim7 := { stood := { row := scriptKeysUptoRow, standIns := [], harness := (true, "1457ad7cdbbb8315a36ec4a06acb6016ae28519f0e5f533f5c73df03e15837fc"), looks := false }, kinds := [], alts := [], laidByText := true, laidKinds := [.data, .data, .data, .data, .pinned], laidTests := true, laidLooks := .later }
def ScriptKeysUptoCardSaid : Prop := Claim7.holds Tryz.pinned (.plain (OpenSpec.upto scriptKeysSpec)) scriptKeysUptoCard
end Rows
end Go.Proofs.YtmpknfgjfmgleaaGreatDoor
