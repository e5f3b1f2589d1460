/-
  DERIVED. GIVEN WITH THE SEED: THE CARDS: each row of YtifnmidecjmmnaaGreatDoorRows.lean that lists a variable, with what it lists TIED to the program's text (the seventh form; the later family's looks); each row that meets fmt, with fmt's text TOLD by the authors' own Lean function (tested against real Go, not proved from fmt's source: count such statements apart). THE CARD IS WHAT COUNTS. Prove the row's statement (the work); the ties are given (YtifnmidecjmmnaaGreatDoorTie.lean); close each card by the builder's one call (the guide's Derived/Test/ToyasCard.lean, 'card_holds'). Laid BY PROGRAM, IN A SANDBOX (cutbox-door.mjs). By AI agents, Wed Nov 11 2026. No macro, syntax, notation, axiom, sorry.
-/
import Derived.Test.YtifnmidecjmmnaaGreatDoorRows
import GoSem.ClaimSeven
namespace Go.Proofs.YtifnmidecjmmnaaGreatDoor
namespace Rows

/-- THE TIED CARD OF 'cartularylaw06.CoordCovers'. -/
def coordCoversCard : Claim7 := { stood := { row := coordCoversRow, standIns := [], harness := (true, "fb836c4c40eed59d6704ea2792d4eacdc154864da38eebd33033408a791bbad4"), looks := true }, kinds := [], alts := [], laidByText := true, laidKinds := [.data, .data, .data, .handle, .sentinel, .sentinel, .sentinel, .sentinel, .sentinel, .sentinel, .sentinel, .sentinel, .sentinel, .sentinel, .sentinel, .sentinel, .sentinel, .sentinel, .sentinel, .sentinel], laidTests := true, laidLooks := .later }
def CoordCoversCardSaid : Prop := Claim7.holds Tryz.pinned (.plain (OpenSpec.ofChange coordCoversSpec)) coordCoversCard

/-- THE SECOND FORM's CARD OF 'cartularylaw06.CoordCovers'. -/
def coordCoversUptoCard : Claim7 := { stood := { row := coordCoversUptoRow, standIns := [], harness := (true, "fb836c4c40eed59d6704ea2792d4eacdc154864da38eebd33033408a791bbad4"), looks := true }, kinds := [], alts := [], laidByText := true, laidKinds := [.data, .data, .data, .handle, .sentinel, .sentinel, .sentinel, .sentinel, .sentinel, .sentinel, .sentinel, .sentinel, .sentinel, .sentinel, .sentinel, .sentinel, .sentinel, .sentinel, .sentinel, .sentinel], laidTests := true, laidLooks := .later }
def CoordCoversUptoCardSaid : Prop := Claim7.holds Tryz.pinned (.plain (OpenSpec.upto coordCoversSpec)) coordCoversUptoCard
end Rows
end Go.Proofs.YtifnmidecjmmnaaGreatDoor
