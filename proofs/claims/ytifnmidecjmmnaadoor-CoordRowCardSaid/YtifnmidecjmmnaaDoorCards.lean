/-
  DERIVED. GIVEN WITH THE SEED: THE CARDS: each row of YtifnmidecjmmnaaDoorRows.lean that lists a variable, with what it lists TIED to the program's text (the seventh form; the later family's looks); each row that meets fmt, with fmt's text TOLD by the authors' own Lean function (tested against real Go, not proved from fmt's source: count such statements apart). THE CARD IS WHAT COUNTS. Prove the row's statement (the work); the ties are given (YtifnmidecjmmnaaDoorTie.lean); close each card by the builder's one call (the guide's Derived/Test/ToyasCard.lean, 'card_holds'). Laid BY PROGRAM, IN A SANDBOX (cutbox-door.mjs). By AI agents, Wed Nov 11 2026. No macro, syntax, notation, axiom, sorry.
-/
import Derived.Test.YtifnmidecjmmnaaDoorRows
import GoSem.ClaimSeven
namespace Go.Proofs.YtifnmidecjmmnaaDoor
namespace Rows

/-- THE TIED CARD OF 'cartularylaw06.CoordPairs'. -/
def coordPairsCard : Claim7 := { stood := { row := coordPairsRow, standIns := [], harness := (true, "ae92ba50e276e989afec6b1dc84501fa552a626b197d0cdae4a7ab4e4a591b4c"), looks := true }, kinds := [], alts := [], laidByText := true, laidKinds := [.data, .sentinel], laidTests := true, laidLooks := .later }
def CoordPairsCardSaid : Prop := Claim7.holds Tryd.pinned (.plain (OpenSpec.ofChange coordPairsSpec)) coordPairsCard

/-- THE TIED CARD OF 'cartularylaw06.CoordJoins'. -/
def coordJoinsCard : Claim7 := { stood := { row := coordJoinsRow, standIns := [], harness := (true, "ae92ba50e276e989afec6b1dc84501fa552a626b197d0cdae4a7ab4e4a591b4c"), looks := true }, kinds := [], alts := [], laidByText := true, laidKinds := [.data, .sentinel], laidTests := true, laidLooks := .later }
def CoordJoinsCardSaid : Prop := Claim7.holds Tryd.pinned (.plain (OpenSpec.ofChange coordJoinsSpec)) coordJoinsCard

/-- THE TIED CARD OF 'cartularylaw06.CoordMeets'. -/
def coordMeetsCard : Claim7 := { stood := { row := coordMeetsRow, standIns := [], harness := (true, "ae92ba50e276e989afec6b1dc84501fa552a626b197d0cdae4a7ab4e4a591b4c"), looks := true }, kinds := [], alts := [], laidByText := true, laidKinds := [.data, .sentinel], laidTests := true, laidLooks := .later }
def CoordMeetsCardSaid : Prop := Claim7.holds Tryd.pinned (.plain (OpenSpec.ofChange coordMeetsSpec)) coordMeetsCard

/-- THE TIED CARD OF 'cartularylaw06.CoordOrder'. -/
def coordOrderCard : Claim7 := { stood := { row := coordOrderRow, standIns := [], harness := (true, "ae92ba50e276e989afec6b1dc84501fa552a626b197d0cdae4a7ab4e4a591b4c"), looks := true }, kinds := [], alts := [], laidByText := true, laidKinds := [.data, .sentinel], laidTests := true, laidLooks := .later }
def CoordOrderCardSaid : Prop := Claim7.holds Tryd.pinned (.plain (OpenSpec.ofChange coordOrderSpec)) coordOrderCard

/-- THE TIED CARD OF 'cartularylaw06.CoordTrees'. -/
def coordTreesCard : Claim7 := { stood := { row := coordTreesRow, standIns := [], harness := (true, "ae92ba50e276e989afec6b1dc84501fa552a626b197d0cdae4a7ab4e4a591b4c"), looks := true }, kinds := [], alts := [], laidByText := true, laidKinds := [.data, .sentinel], laidTests := true, laidLooks := .later }
def CoordTreesCardSaid : Prop := Claim7.holds Tryd.pinned (.plain (OpenSpec.ofChange coordTreesSpec)) coordTreesCard

/-- THE TIED CARD OF 'cartularylaw06.CoordFamily'. -/
def coordFamilyCard : Claim7 := { stood := { row := coordFamilyRow, standIns := [], harness := (true, "ae92ba50e276e989afec6b1dc84501fa552a626b197d0cdae4a7ab4e4a591b4c"), looks := true }, kinds := [], alts := [], laidByText := true, laidKinds := [.data, .sentinel], laidTests := true, laidLooks := .later }
def CoordFamilyCardSaid : Prop := Claim7.holds Tryd.pinned (.plain (OpenSpec.ofChange coordFamilySpec)) coordFamilyCard

/-- THE TIED CARD OF 'cartularylaw06.CoordRow'. -/
def coordRowCard : Claim7 := { stood := { row := coordRowRow, standIns := [], harness := (true, "ae92ba50e276e989afec6b1dc84501fa552a626b197d0cdae4a7ab4e4a591b4c"), looks := true }, kinds := [], alts := [], laidByText := true, laidKinds := [.data, .handle, .sentinel, .sentinel, .sentinel, .sentinel, .sentinel, .sentinel, .sentinel, .sentinel, .sentinel, .sentinel, .sentinel, .sentinel, .sentinel, .sentinel, .sentinel, .sentinel], laidTests := true, laidLooks := .later }
def CoordRowCardSaid : Prop := Claim7.holds Tryd.pinned (.plain (OpenSpec.ofChange coordRowSpec)) coordRowCard

/-- THE SECOND FORM's CARD OF 'cartularylaw06.CoordPairs'. -/
def coordPairsUptoCard : Claim7 := { stood := { row := coordPairsUptoRow, standIns := [], harness := (true, "ae92ba50e276e989afec6b1dc84501fa552a626b197d0cdae4a7ab4e4a591b4c"), looks := true }, kinds := [], alts := [], laidByText := true, laidKinds := [.data, .sentinel], laidTests := true, laidLooks := .later }
def CoordPairsUptoCardSaid : Prop := Claim7.holds Tryd.pinned (.plain (OpenSpec.upto coordPairsSpec)) coordPairsUptoCard

/-- THE SECOND FORM's CARD OF 'cartularylaw06.CoordJoins'. -/
def coordJoinsUptoCard : Claim7 := { stood := { row := coordJoinsUptoRow, standIns := [], harness := (true, "ae92ba50e276e989afec6b1dc84501fa552a626b197d0cdae4a7ab4e4a591b4c"), looks := true }, kinds := [], alts := [], laidByText := true, laidKinds := [.data, .sentinel], laidTests := true, laidLooks := .later }
def CoordJoinsUptoCardSaid : Prop := Claim7.holds Tryd.pinned (.plain (OpenSpec.upto coordJoinsSpec)) coordJoinsUptoCard

/-- THE SECOND FORM's CARD OF 'cartularylaw06.CoordMeets'. -/
def coordMeetsUptoCard : Claim7 := { stood := { row := coordMeetsUptoRow, standIns := [], harness := (true, "ae92ba50e276e989afec6b1dc84501fa552a626b197d0cdae4a7ab4e4a591b4c"), looks := true }, kinds := [], alts := [], laidByText := true, laidKinds := [.data, .sentinel], laidTests := true, laidLooks := .later }
def CoordMeetsUptoCardSaid : Prop := Claim7.holds Tryd.pinned (.plain (OpenSpec.upto coordMeetsSpec)) coordMeetsUptoCard

/-- THE SECOND FORM's CARD OF 'cartularylaw06.CoordOrder'. -/
def coordOrderUptoCard : Claim7 := { stood := { row := coordOrderUptoRow, standIns := [], harness := (true, "ae92ba50e276e989afec6b1dc84501fa552a626b197d0cdae4a7ab4e4a591b4c"), looks := true }, kinds := [], alts := [], laidByText := true, laidKinds := [.data, .sentinel], laidTests := true, laidLooks := .later }
def CoordOrderUptoCardSaid : Prop := Claim7.holds Tryd.pinned (.plain (OpenSpec.upto coordOrderSpec)) coordOrderUptoCard

/-- THE SECOND FORM's CARD OF 'cartularylaw06.CoordTrees'. -/
def coordTreesUptoCard : Claim7 := { stood := { row := coordTreesUptoRow, standIns := [], harness := (true, "ae92ba50e276e989afec6b1dc84501fa552a626b197d0cdae4a7ab4e4a591b4c"), looks := true }, kinds := [], alts := [], laidByText := true, laidKinds := [.data, .sentinel], laidTests := true, laidLooks := .later }
def CoordTreesUptoCardSaid : Prop := Claim7.holds Tryd.pinned (.plain (OpenSpec.upto coordTreesSpec)) coordTreesUptoCard

/-- THE SECOND FORM's CARD OF 'cartularylaw06.CoordFamily'. -/
def coordFamilyUptoCard : Claim7 := { stood := { row := coordFamilyUptoRow, standIns := [], harness := (true, "ae92ba50e276e989afec6b1dc84501fa552a626b197d0cdae4a7ab4e4a591b4c"), looks := true }, kinds := [], alts := [], laidByText := true, laidKinds := [.data, .sentinel], laidTests := true, laidLooks := .later }
def CoordFamilyUptoCardSaid : Prop := Claim7.holds Tryd.pinned (.plain (OpenSpec.upto coordFamilySpec)) coordFamilyUptoCard

/-- THE SECOND FORM's CARD OF 'cartularylaw06.CoordRow'. -/
def coordRowUptoCard : Claim7 := { stood := { row := coordRowUptoRow, standIns := [], harness := (true, "ae92ba50e276e989afec6b1dc84501fa552a626b197d0cdae4a7ab4e4a591b4c"), looks := true }, kinds := [], alts := [], laidByText := true, laidKinds := [.data, .handle, .sentinel, .sentinel, .sentinel, .sentinel, .sentinel, .sentinel, .sentinel, .sentinel, .sentinel, .sentinel, .sentinel, .sentinel, .sentinel, .sentinel, .sentinel, .sentinel], laidTests := true, laidLooks := .later }
def CoordRowUptoCardSaid : Prop := Claim7.holds Tryd.pinned (.plain (OpenSpec.upto coordRowSpec)) coordRowUptoCard
end Rows
end Go.Proofs.YtifnmidecjmmnaaDoor
