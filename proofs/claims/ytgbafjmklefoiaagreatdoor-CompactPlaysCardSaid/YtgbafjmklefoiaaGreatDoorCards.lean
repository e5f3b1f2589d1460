/-
  DERIVED. GIVEN WITH THE SEED: THE CARDS: each row of YtgbafjmklefoiaaGreatDoorRows.lean that lists a variable, with what it lists TIED to the program's text (the seventh form; the later family's looks); each row that meets fmt, with fmt's text TOLD by the authors' own Lean function (tested against real Go, not proved from fmt's source: count such statements apart). THE CARD IS WHAT COUNTS. Prove the row's statement (the work); the ties are given (YtgbafjmklefoiaaGreatDoorTie.lean); close each card by the builder's one call (the guide's Derived/Test/ToyasCard.lean, 'card_holds'). Laid BY PROGRAM, IN A SANDBOX (cutbox-door.mjs). By AI agents, Wed Nov 11 2026. No macro, syntax, notation, axiom, sorry.
-/
import Derived.Test.YtgbafjmklefoiaaGreatDoorRows
import GoSem.ClaimSeven
namespace Go.Proofs.YtgbafjmklefoiaaGreatDoor
namespace Rows

/-- THE TIED CARD OF 'cartularylaw09.CompactPlays'. -/
def compactPlaysCard : Claim7 := { stood := { row := compactPlaysRow, standIns := [], harness := (true, "9b544ec74210242e5fb089d0222347b5aee34f6fc374dbf9389d44788d7950cb"), looks := true }, kinds := [], alts := [], laidByText := true, laidKinds := [.data, .data, .data, .handle, .sentinel, .sentinel, .sentinel, .sentinel, .sentinel, .sentinel, .sentinel, .sentinel, .sentinel, .sentinel, .sentinel, .sentinel, .sentinel, .sentinel, .sentinel, .sentinel, .data], laidTests := true, laidLooks := .later }
def CompactPlaysCardSaid : Prop := Claim7.holds Tryz.pinned (.plain (OpenSpec.ofChange compactPlaysSpec)) compactPlaysCard

/-- THE SECOND FORM's CARD OF 'cartularylaw09.CompactPlays'. -/
def compactPlaysUptoCard : Claim7 := { stood := { row := compactPlaysUptoRow, standIns := [], harness := (true, "9b544ec74210242e5fb089d0222347b5aee34f6fc374dbf9389d44788d7950cb"), looks := true }, kinds := [], alts := [], laidByText := true, laidKinds := [.data, .data, .data, .handle, .sentinel, .sentinel, .sentinel, .sentinel, .sentinel, .sentinel, .sentinel, .sentinel, .sentinel, .sentinel, .sentinel, .sentinel, .sentinel, .sentinel, .sentinel, .sentinel, .data], laidTests := true, laidLooks := .later }
def CompactPlaysUptoCardSaid : Prop := Claim7.holds Tryz.pinned (.plain (OpenSpec.upto compactPlaysSpec)) compactPlaysUptoCard
end Rows
end Go.Proofs.YtgbafjmklefoiaaGreatDoor
