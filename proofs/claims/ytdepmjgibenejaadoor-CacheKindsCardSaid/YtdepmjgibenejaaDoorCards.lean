/-
  DERIVED. GIVEN WITH THE SEED: THE CARDS: each row of YtdepmjgibenejaaDoorRows.lean that lists a variable, with what it lists TIED to the program's text (the seventh form; the later family's looks); each row that meets fmt, with fmt's text TOLD by the authors' own Lean function (tested against real Go, not proved from fmt's source: count such statements apart). THE CARD IS WHAT COUNTS. Prove the row's statement (the work); the ties are given (YtdepmjgibenejaaDoorTie.lean); close each card by the builder's one call (the guide's Derived/Test/ToyasCard.lean, 'card_holds'). Laid BY PROGRAM, IN A SANDBOX (cutbox-door.mjs). By AI agents, Wed Nov 11 2026. No macro, syntax, notation, axiom, sorry.
-/
import Derived.Test.YtdepmjgibenejaaDoorRows
import GoSem.ClaimSeven
namespace Go.Proofs.YtdepmjgibenejaaDoor
namespace Rows

/-- THE TIED CARD OF 'cartularylaw13.CacheKinds'. -/
def cacheKindsCard : Claim7 := { stood := { row := cacheKindsRow, standIns := [], harness := (true, "3039274e45c61072feab3c7a8d623ebacf7281100a9b7ee46cabddf42796d507"), looks := true }, kinds := [], alts := [], laidByText := true, laidKinds := [.sentinel], laidTests := true, laidLooks := .later }
def CacheKindsCardSaid : Prop := Claim7.holds Tryd.pinned (.plain (OpenSpec.ofChange cacheKindsSpec)) cacheKindsCard

/-- THE TIED CARD OF 'cartularylaw13.CacheNone'. -/
def cacheNoneCard : Claim7 := { stood := { row := cacheNoneRow, standIns := [], harness := (true, "3039274e45c61072feab3c7a8d623ebacf7281100a9b7ee46cabddf42796d507"), looks := true }, kinds := [], alts := [], laidByText := true, laidKinds := [.sentinel], laidTests := true, laidLooks := .later }
def CacheNoneCardSaid : Prop := Claim7.holds Tryd.pinned (.plain (OpenSpec.ofChange cacheNoneSpec)) cacheNoneCard

/-- THE TIED CARD OF 'cartularylaw13.CacheKeeps'. -/
def cacheKeepsCard : Claim7 := { stood := { row := cacheKeepsRow, standIns := [], harness := (true, "3039274e45c61072feab3c7a8d623ebacf7281100a9b7ee46cabddf42796d507"), looks := true }, kinds := [], alts := [], laidByText := true, laidKinds := [.handle, .sentinel, .sentinel, .sentinel, .sentinel, .sentinel, .sentinel, .sentinel, .sentinel, .sentinel, .sentinel, .sentinel, .sentinel, .sentinel, .sentinel, .sentinel, .sentinel], laidTests := true, laidLooks := .later }
def CacheKeepsCardSaid : Prop := Claim7.holds Tryd.pinned (.plain (OpenSpec.ofChange cacheKeepsSpec)) cacheKeepsCard

/-- THE SECOND FORM's CARD OF 'cartularylaw13.CacheKinds'. -/
def cacheKindsUptoCard : Claim7 := { stood := { row := cacheKindsUptoRow, standIns := [], harness := (true, "3039274e45c61072feab3c7a8d623ebacf7281100a9b7ee46cabddf42796d507"), looks := true }, kinds := [], alts := [], laidByText := true, laidKinds := [.sentinel], laidTests := true, laidLooks := .later }
def CacheKindsUptoCardSaid : Prop := Claim7.holds Tryd.pinned (.plain (OpenSpec.upto cacheKindsSpec)) cacheKindsUptoCard

/-- THE SECOND FORM's CARD OF 'cartularylaw13.CacheNone'. -/
def cacheNoneUptoCard : Claim7 := { stood := { row := cacheNoneUptoRow, standIns := [], harness := (true, "3039274e45c61072feab3c7a8d623ebacf7281100a9b7ee46cabddf42796d507"), looks := true }, kinds := [], alts := [], laidByText := true, laidKinds := [.sentinel], laidTests := true, laidLooks := .later }
def CacheNoneUptoCardSaid : Prop := Claim7.holds Tryd.pinned (.plain (OpenSpec.upto cacheNoneSpec)) cacheNoneUptoCard

/-- THE SECOND FORM's CARD OF 'cartularylaw13.CacheKeeps'. -/
def cacheKeepsUptoCard : Claim7 := { stood := { row := cacheKeepsUptoRow, standIns := [], harness := (true, "3039274e45c61072feab3c7a8d623ebacf7281100a9b7ee46cabddf42796d507"), looks := true }, kinds := [], alts := [], laidByText := true, laidKinds := [.handle, .sentinel, .sentinel, .sentinel, .sentinel, .sentinel, .sentinel, .sentinel, .sentinel, .sentinel, .sentinel, .sentinel, .sentinel, .sentinel, .sentinel, .sentinel, .sentinel], laidTests := true, laidLooks := .later }
def CacheKeepsUptoCardSaid : Prop := Claim7.holds Tryd.pinned (.plain (OpenSpec.upto cacheKeepsSpec)) cacheKeepsUptoCard
end Rows
end Go.Proofs.YtdepmjgibenejaaDoor
