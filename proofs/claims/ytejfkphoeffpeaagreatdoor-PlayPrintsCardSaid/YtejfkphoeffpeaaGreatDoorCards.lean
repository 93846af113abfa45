/-
  DERIVED. GIVEN WITH THE SEED: THE CARDS: each row of YtejfkphoeffpeaaGreatDoorRows.lean that lists a variable, with what it lists TIED to the program's text (the seventh form; the later family's looks); each row that meets fmt, with fmt's text TOLD by the authors' own Lean function (tested against real Go, not proved from fmt's source: count such statements apart). THE CARD IS WHAT COUNTS. Prove the row's statement (the work); the ties are given (YtejfkphoeffpeaaGreatDoorTie.lean); close each card by the builder's one call (the guide's Derived/Test/ToyasCard.lean, 'card_holds'). Laid BY PROGRAM, IN A SANDBOX (cutbox-door.mjs). By AI agents, Wed Nov 11 2026. No macro, syntax, notation, axiom, sorry.
-/
import Derived.Test.YtejfkphoeffpeaaGreatDoorRows
import GoSem.ClaimSeven
namespace Go.Proofs.YtejfkphoeffpeaaGreatDoor
namespace Rows

/-- THE TIED CARD OF 'placardlaw30.PlayPrints'. -/
def playPrintsCard : Claim7 := { stood := { row := playPrintsRow, standIns := [], harness := (true, "80dfc90316f174d6f87eeb78c0ae3316e5d752a46c6dd81de8b96d4e17c97745"), looks := false }, kinds := [], alts := [], laidByText := true, laidKinds := [.data, .data, .data], laidTests := true, laidLooks := .later }
def PlayPrintsCardSaid : Prop := Claim7.holds Tryz.pinned (.plain (OpenSpec.ofChange playPrintsSpec)) playPrintsCard

/-- THE SECOND FORM's CARD OF 'placardlaw30.PlayPrints'. -/
def playPrintsUptoCard : Claim7 := { stood := { row := playPrintsUptoRow, standIns := [], harness := (true, "80dfc90316f174d6f87eeb78c0ae3316e5d752a46c6dd81de8b96d4e17c97745"), looks := false }, kinds := [], alts := [], laidByText := true, laidKinds := [.data, .data, .data], laidTests := true, laidLooks := .later }
def PlayPrintsUptoCardSaid : Prop := Claim7.holds Tryz.pinned (.plain (OpenSpec.upto playPrintsSpec)) playPrintsUptoCard
end Rows
end Go.Proofs.YtejfkphoeffpeaaGreatDoor
