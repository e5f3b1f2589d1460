/-
  DERIVED. GIVEN WITH THE SEED: THE CARDS: each row of YtecdaokgnkhgiaaDoorRows.lean that lists a variable, with what it lists TIED to the program's text (the seventh form; the later family's looks); each row that meets fmt, with fmt's text TOLD by the authors' own Lean function (tested against real Go, not proved from fmt's source: count such statements apart). THE CARD IS WHAT COUNTS. Prove the row's statement (the work); the ties are given (YtecdaokgnkhgiaaDoorTie.lean); close each card by the builder's one call (the guide's Derived/Test/ToyasCard.lean, 'card_holds'). Laid BY PROGRAM, IN A SANDBOX (cutbox-door.mjs). By AI agents, Wed Nov 11 2026. No macro, syntax, notation, axiom, sorry.
-/
import Derived.Test.YtecdaokgnkhgiaaDoorRows
import GoSem.ClaimSeven
namespace Go.Proofs.YtecdaokgnkhgiaaDoor
namespace Rows

/-- THE TIED CARD OF 'cartularylaw05.HashLeaves'. -/
def hashLeavesCard : Claim7 := { stood := { row := hashLeavesRow, standIns := [], harness := (true, "226c881c40f2c1b803b231ee22fbb8f2524bdd1729fcf6f147eeb199ce5f1851"), looks := true }, kinds := [], alts := [], laidByText := true, laidKinds := [.handle, .sentinel, .sentinel, .sentinel, .sentinel, .sentinel, .sentinel, .sentinel, .sentinel, .sentinel, .sentinel, .sentinel, .sentinel, .sentinel, .sentinel, .sentinel, .sentinel, .data], laidTests := true, laidLooks := .later }
def HashLeavesCardSaid : Prop := Claim7.holds Tryd.pinned (.plain (OpenSpec.ofChange hashLeavesSpec)) hashLeavesCard

/-- THE TIED CARD OF 'cartularylaw05.HashChains'. -/
def hashChainsCard : Claim7 := { stood := { row := hashChainsRow, standIns := [], harness := (true, "226c881c40f2c1b803b231ee22fbb8f2524bdd1729fcf6f147eeb199ce5f1851"), looks := true }, kinds := [], alts := [], laidByText := true, laidKinds := [.handle, .sentinel, .sentinel, .sentinel, .sentinel, .sentinel, .sentinel, .sentinel, .sentinel, .sentinel, .sentinel, .sentinel, .sentinel, .sentinel, .sentinel, .sentinel, .sentinel, .data], laidTests := true, laidLooks := .later }
def HashChainsCardSaid : Prop := Claim7.holds Tryd.pinned (.plain (OpenSpec.ofChange hashChainsSpec)) hashChainsCard

/-- THE TIED CARD OF 'cartularylaw05.HashAdds'. -/
def hashAddsCard : Claim7 := { stood := { row := hashAddsRow, standIns := [], harness := (true, "226c881c40f2c1b803b231ee22fbb8f2524bdd1729fcf6f147eeb199ce5f1851"), looks := true }, kinds := [], alts := [], laidByText := true, laidKinds := [.handle, .sentinel, .sentinel, .sentinel, .sentinel, .sentinel, .sentinel, .sentinel, .sentinel, .sentinel, .sentinel, .sentinel, .sentinel, .sentinel, .sentinel, .sentinel, .sentinel, .data], laidTests := true, laidLooks := .later }
def HashAddsCardSaid : Prop := Claim7.holds Tryd.pinned (.plain (OpenSpec.ofChange hashAddsSpec)) hashAddsCard

/-- THE TIED CARD OF 'cartularylaw05.HashNodes'. -/
def hashNodesCard : Claim7 := { stood := { row := hashNodesRow, standIns := [], harness := (true, "226c881c40f2c1b803b231ee22fbb8f2524bdd1729fcf6f147eeb199ce5f1851"), looks := true }, kinds := [], alts := [], laidByText := true, laidKinds := [.handle, .sentinel, .sentinel, .sentinel, .sentinel, .sentinel, .sentinel, .sentinel, .sentinel, .sentinel, .sentinel, .sentinel, .sentinel, .sentinel, .sentinel, .sentinel, .sentinel, .data], laidTests := true, laidLooks := .later }
def HashNodesCardSaid : Prop := Claim7.holds Tryd.pinned (.plain (OpenSpec.ofChange hashNodesSpec)) hashNodesCard

/-- THE TIED CARD OF 'cartularylaw05.HashBySha'. -/
def hashByShaCard : Claim7 := { stood := { row := hashByShaRow, standIns := [], harness := (true, "226c881c40f2c1b803b231ee22fbb8f2524bdd1729fcf6f147eeb199ce5f1851"), looks := true }, kinds := [], alts := [], laidByText := true, laidKinds := [.handle, .sentinel, .sentinel, .sentinel, .sentinel, .sentinel, .sentinel, .sentinel, .sentinel, .sentinel, .sentinel, .sentinel, .sentinel, .sentinel, .sentinel, .sentinel, .sentinel, .data], laidTests := true, laidLooks := .later }
def HashByShaCardSaid : Prop := Claim7.holds Tryd.pinned (.plain (OpenSpec.ofChange hashByShaSpec)) hashByShaCard

/-- THE TIED CARD OF 'cartularylaw05.HashReads'. -/
def hashReadsCard : Claim7 := { stood := { row := hashReadsRow, standIns := [], harness := (true, "226c881c40f2c1b803b231ee22fbb8f2524bdd1729fcf6f147eeb199ce5f1851"), looks := true }, kinds := [], alts := [], laidByText := true, laidKinds := [.handle, .sentinel, .sentinel, .sentinel, .sentinel, .sentinel, .sentinel, .sentinel, .sentinel, .sentinel, .sentinel, .sentinel, .sentinel, .sentinel, .sentinel, .sentinel, .sentinel, .data], laidTests := true, laidLooks := .later }
def HashReadsCardSaid : Prop := Claim7.holds Tryd.pinned (.plain (OpenSpec.ofChange hashReadsSpec)) hashReadsCard

/-- THE TIED CARD OF 'cartularylaw05.HashShows'. -/
def hashShowsCard : Claim7 := { stood := { row := hashShowsRow, standIns := [], harness := (true, "226c881c40f2c1b803b231ee22fbb8f2524bdd1729fcf6f147eeb199ce5f1851"), looks := true }, kinds := [], alts := [], laidByText := true, laidKinds := [.handle, .sentinel, .sentinel, .sentinel, .sentinel, .sentinel, .sentinel, .sentinel, .sentinel, .sentinel, .sentinel, .sentinel, .sentinel, .sentinel, .sentinel, .sentinel, .sentinel, .data], laidTests := true, laidLooks := .later }
def HashShowsCardSaid : Prop := Claim7.holds Tryd.pinned (.plain (OpenSpec.ofChange hashShowsSpec)) hashShowsCard

/-- THE TIED CARD OF 'cartularylaw05.HashNames'. -/
def hashNamesCard : Claim7 := { stood := { row := hashNamesRow, standIns := [], harness := (true, "226c881c40f2c1b803b231ee22fbb8f2524bdd1729fcf6f147eeb199ce5f1851"), looks := true }, kinds := [], alts := [], laidByText := true, laidKinds := [.handle, .sentinel, .sentinel, .sentinel, .sentinel, .sentinel, .sentinel, .sentinel, .sentinel, .sentinel, .sentinel, .sentinel, .sentinel, .sentinel, .sentinel, .sentinel, .sentinel, .data], laidTests := true, laidLooks := .later }
def HashNamesCardSaid : Prop := Claim7.holds Tryd.pinned (.plain (OpenSpec.ofChange hashNamesSpec)) hashNamesCard

/-- THE TIED CARD OF 'cartularylaw05.HashBack'. -/
def hashBackCard : Claim7 := { stood := { row := hashBackRow, standIns := [], harness := (true, "226c881c40f2c1b803b231ee22fbb8f2524bdd1729fcf6f147eeb199ce5f1851"), looks := true }, kinds := [], alts := [], laidByText := true, laidKinds := [.handle, .sentinel, .sentinel, .sentinel, .sentinel, .sentinel, .sentinel, .sentinel, .sentinel, .sentinel, .sentinel, .sentinel, .sentinel, .sentinel, .sentinel, .sentinel, .sentinel, .data], laidTests := true, laidLooks := .later }
def HashBackCardSaid : Prop := Claim7.holds Tryd.pinned (.plain (OpenSpec.ofChange hashBackSpec)) hashBackCard

/-- THE SECOND FORM's CARD OF 'cartularylaw05.HashLeaves'. -/
def hashLeavesUptoCard : Claim7 := { stood := { row := hashLeavesUptoRow, standIns := [], harness := (true, "226c881c40f2c1b803b231ee22fbb8f2524bdd1729fcf6f147eeb199ce5f1851"), looks := true }, kinds := [], alts := [], laidByText := true, laidKinds := [.handle, .sentinel, .sentinel, .sentinel, .sentinel, .sentinel, .sentinel, .sentinel, .sentinel, .sentinel, .sentinel, .sentinel, .sentinel, .sentinel, .sentinel, .sentinel, .sentinel, .data], laidTests := true, laidLooks := .later }
def HashLeavesUptoCardSaid : Prop := Claim7.holds Tryd.pinned (.plain (OpenSpec.upto hashLeavesSpec)) hashLeavesUptoCard

/-- THE SECOND FORM's CARD OF 'cartularylaw05.HashChains'. -/
def hashChainsUptoCard : Claim7 := { stood := { row := hashChainsUptoRow, standIns := [], harness := (true, "226c881c40f2c1b803b231ee22fbb8f2524bdd1729fcf6f147eeb199ce5f1851"), looks := true }, kinds := [], alts := [], laidByText := true, laidKinds := [.handle, .sentinel, .sentinel, .sentinel, .sentinel, .sentinel, .sentinel, .sentinel, .sentinel, .sentinel, .sentinel, .sentinel, .sentinel, .sentinel, .sentinel, .sentinel, .sentinel, .data], laidTests := true, laidLooks := .later }
def HashChainsUptoCardSaid : Prop := Claim7.holds Tryd.pinned (.plain (OpenSpec.upto hashChainsSpec)) hashChainsUptoCard

/-- THE SECOND FORM's CARD OF 'cartularylaw05.HashAdds'. -/
def hashAddsUptoCard : Claim7 := { stood := { row := hashAddsUptoRow, standIns := [], harness := (true, "226c881c40f2c1b803b231ee22fbb8f2524bdd1729fcf6f147eeb199ce5f1851"), looks := true }, kinds := [], alts := [], laidByText := true, laidKinds := [.handle, .sentinel, .sentinel, .sentinel, .sentinel, .sentinel, .sentinel, .sentinel, .sentinel, .sentinel, .sentinel, .sentinel, .sentinel, .sentinel, .sentinel, .sentinel, .sentinel, .data], laidTests := true, laidLooks := .later }
def HashAddsUptoCardSaid : Prop := Claim7.holds Tryd.pinned (.plain (OpenSpec.upto hashAddsSpec)) hashAddsUptoCard

/-- THE SECOND FORM's CARD OF 'cartularylaw05.HashNodes'. -/
def hashNodesUptoCard : Claim7 := { stood := { row := hashNodesUptoRow, standIns := [], harness := (true, "226c881c40f2c1b803b231ee22fbb8f2524bdd1729fcf6f147eeb199ce5f1851"), looks := true }, kinds := [], alts := [], laidByText := true, laidKinds := [.handle, .sentinel, .sentinel, .sentinel, .sentinel, .sentinel, .sentinel, .sentinel, .sentinel, .sentinel, .sentinel, .sentinel, .sentinel, .sentinel, .sentinel, .sentinel, .sentinel, .data], laidTests := true, laidLooks := .later }
def HashNodesUptoCardSaid : Prop := Claim7.holds Tryd.pinned (.plain (OpenSpec.upto hashNodesSpec)) hashNodesUptoCard

/-- THE SECOND FORM's CARD OF 'cartularylaw05.HashBySha'. -/
def hashByShaUptoCard : Claim7 := { stood := { row := hashByShaUptoRow, standIns := [], harness := (true, "226c881c40f2c1b803b231ee22fbb8f2524bdd1729fcf6f147eeb199ce5f1851"), looks := true }, kinds := [], alts := [], laidByText := true, laidKinds := [.handle, .sentinel, .sentinel, .sentinel, .sentinel, .sentinel, .sentinel, .sentinel, .sentinel, .sentinel, .sentinel, .sentinel, .sentinel, .sentinel, .sentinel, .sentinel, .sentinel, .data], laidTests := true, laidLooks := .later }
def HashByShaUptoCardSaid : Prop := Claim7.holds Tryd.pinned (.plain (OpenSpec.upto hashByShaSpec)) hashByShaUptoCard

/-- THE SECOND FORM's CARD OF 'cartularylaw05.HashReads'. -/
def hashReadsUptoCard : Claim7 := { stood := { row := hashReadsUptoRow, standIns := [], harness := (true, "226c881c40f2c1b803b231ee22fbb8f2524bdd1729fcf6f147eeb199ce5f1851"), looks := true }, kinds := [], alts := [], laidByText := true, laidKinds := [.handle, .sentinel, .sentinel, .sentinel, .sentinel, .sentinel, .sentinel, .sentinel, .sentinel, .sentinel, .sentinel, .sentinel, .sentinel, .sentinel, .sentinel, .sentinel, .sentinel, .data], laidTests := true, laidLooks := .later }
def HashReadsUptoCardSaid : Prop := Claim7.holds Tryd.pinned (.plain (OpenSpec.upto hashReadsSpec)) hashReadsUptoCard

/-- THE SECOND FORM's CARD OF 'cartularylaw05.HashShows'. -/
def hashShowsUptoCard : Claim7 := { stood := { row := hashShowsUptoRow, standIns := [], harness := (true, "226c881c40f2c1b803b231ee22fbb8f2524bdd1729fcf6f147eeb199ce5f1851"), looks := true }, kinds := [], alts := [], laidByText := true, laidKinds := [.handle, .sentinel, .sentinel, .sentinel, .sentinel, .sentinel, .sentinel, .sentinel, .sentinel, .sentinel, .sentinel, .sentinel, .sentinel, .sentinel, .sentinel, .sentinel, .sentinel, .data], laidTests := true, laidLooks := .later }
def HashShowsUptoCardSaid : Prop := Claim7.holds Tryd.pinned (.plain (OpenSpec.upto hashShowsSpec)) hashShowsUptoCard

/-- THE SECOND FORM's CARD OF 'cartularylaw05.HashNames'. -/
def hashNamesUptoCard : Claim7 := { stood := { row := hashNamesUptoRow, standIns := [], harness := (true, "226c881c40f2c1b803b231ee22fbb8f2524bdd1729fcf6f147eeb199ce5f1851"), looks := true }, kinds := [], alts := [], laidByText := true, laidKinds := [.handle, .sentinel, .sentinel, .sentinel, .sentinel, .sentinel, .sentinel, .sentinel, .sentinel, .sentinel, .sentinel, .sentinel, .sentinel, .sentinel, .sentinel, .sentinel, .sentinel, .data], laidTests := true, laidLooks := .later }
def HashNamesUptoCardSaid : Prop := Claim7.holds Tryd.pinned (.plain (OpenSpec.upto hashNamesSpec)) hashNamesUptoCard

/-- THE SECOND FORM's CARD OF 'cartularylaw05.HashBack'. -/
def hashBackUptoCard : Claim7 := { stood := { row := hashBackUptoRow, standIns := [], harness := (true, "226c881c40f2c1b803b231ee22fbb8f2524bdd1729fcf6f147eeb199ce5f1851"), looks := true }, kinds := [], alts := [], laidByText := true, laidKinds := [.handle, .sentinel, .sentinel, .sentinel, .sentinel, .sentinel, .sentinel, .sentinel, .sentinel, .sentinel, .sentinel, .sentinel, .sentinel, .sentinel, .sentinel, .sentinel, .sentinel, .data], laidTests := true, laidLooks := .later }
def HashBackUptoCardSaid : Prop := Claim7.holds Tryd.pinned (.plain (OpenSpec.upto hashBackSpec)) hashBackUptoCard
end Rows
end Go.Proofs.YtecdaokgnkhgiaaDoor
