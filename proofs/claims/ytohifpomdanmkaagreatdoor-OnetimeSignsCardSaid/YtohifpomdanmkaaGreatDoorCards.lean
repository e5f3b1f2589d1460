/-
  DERIVED. GIVEN WITH THE SEED: THE CARDS: each row of YtohifpomdanmkaaGreatDoorRows.lean that lists a variable, with what it lists TIED to the program's text (the seventh form; the later family's looks); each row that meets fmt, with fmt's text TOLD by the authors' own Lean function (tested against real Go, not proved from fmt's source: count such statements apart). THE CARD IS WHAT COUNTS. Prove the row's statement (the work); the ties are given (YtohifpomdanmkaaGreatDoorTie.lean); close each card by the builder's one call (the guide's Derived/Test/ToyasCard.lean, 'card_holds'). Laid BY PROGRAM, IN A SANDBOX (cutbox-door.mjs). By AI agents, Wed Nov 11 2026. No macro, syntax, notation, axiom, sorry.
-/
import Derived.Test.YtohifpomdanmkaaGreatDoorRows
import GoSem.ClaimSeven
namespace Go.Proofs.YtohifpomdanmkaaGreatDoor
namespace Rows

/-- THE TIED CARD OF 'cartularylaw22.OnetimeSigns'. -/
def onetimeSignsCard : Claim7 := { stood := { row := onetimeSignsRow, standIns := [], harness := (true, "2f4f9982f2e1fea055060355b8b3c4b633858e058163a1f03b9d987e67b9e4d0"), looks := false }, kinds := [], alts := [], laidByText := true, laidKinds := [.data, .data, .data, .sentinel, .data], laidTests := true, laidLooks := .later }
def OnetimeSignsCardSaid : Prop := Claim7.holds Tryz.pinned (.plain (OpenSpec.ofChange onetimeSignsSpec)) onetimeSignsCard

/-- THE SECOND FORM's CARD OF 'cartularylaw22.OnetimeSigns'. -/
def onetimeSignsUptoCard : Claim7 := { stood := { row := onetimeSignsUptoRow, standIns := [], harness := (true, "2f4f9982f2e1fea055060355b8b3c4b633858e058163a1f03b9d987e67b9e4d0"), looks := false }, kinds := [], alts := [], laidByText := true, laidKinds := [.data, .data, .data, .sentinel, .data], laidTests := true, laidLooks := .later }
def OnetimeSignsUptoCardSaid : Prop := Claim7.holds Tryz.pinned (.plain (OpenSpec.upto onetimeSignsSpec)) onetimeSignsUptoCard
end Rows
end Go.Proofs.YtohifpomdanmkaaGreatDoor
