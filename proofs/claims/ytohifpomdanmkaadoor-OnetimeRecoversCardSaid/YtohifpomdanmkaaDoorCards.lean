/-
  DERIVED. GIVEN WITH THE SEED: THE CARDS: each row of YtohifpomdanmkaaDoorRows.lean that lists a variable, with what it lists TIED to the program's text (the seventh form; the later family's looks); each row that meets fmt, with fmt's text TOLD by the authors' own Lean function (tested against real Go, not proved from fmt's source: count such statements apart). THE CARD IS WHAT COUNTS. Prove the row's statement (the work); the ties are given (YtohifpomdanmkaaDoorTie.lean); close each card by the builder's one call (the guide's Derived/Test/ToyasCard.lean, 'card_holds'). Laid BY PROGRAM, IN A SANDBOX (cutbox-door.mjs). By AI agents, Wed Nov 11 2026. No macro, syntax, notation, axiom, sorry.
-/
import Derived.Test.YtohifpomdanmkaaDoorRows
import GoSem.ClaimSeven
namespace Go.Proofs.YtohifpomdanmkaaDoor
namespace Rows

/-- THE TIED CARD OF 'cartularylaw22.OnetimeRecovers'. -/
def onetimeRecoversCard : Claim7 := { stood := { row := onetimeRecoversRow, standIns := [], harness := (true, "0cb557779018cedca26429867a40aec78f8c027b3a62f457fc9941b90961fec8"), looks := true }, kinds := [], alts := [], laidByText := true, laidKinds := [.handle, .sentinel, .sentinel, .sentinel, .sentinel, .sentinel, .sentinel, .sentinel, .sentinel, .sentinel, .sentinel, .sentinel, .sentinel, .sentinel, .sentinel, .sentinel, .sentinel, .data], laidTests := true, laidLooks := .later }
def OnetimeRecoversCardSaid : Prop := Claim7.holds Tryd.pinned (.plain (OpenSpec.ofChange onetimeRecoversSpec)) onetimeRecoversCard

/-- THE TIED CARD OF 'cartularylaw22.OnetimeTrue'. -/
def onetimeTrueCard : Claim7 := { stood := { row := onetimeTrueRow, standIns := [], harness := (true, "0cb557779018cedca26429867a40aec78f8c027b3a62f457fc9941b90961fec8"), looks := true }, kinds := [], alts := [], laidByText := true, laidKinds := [.handle, .sentinel, .sentinel, .sentinel, .sentinel, .sentinel, .sentinel, .sentinel, .sentinel, .sentinel, .sentinel, .sentinel, .sentinel, .sentinel, .sentinel, .sentinel, .sentinel, .data], laidTests := true, laidLooks := .later }
def OnetimeTrueCardSaid : Prop := Claim7.holds Tryd.pinned (.plain (OpenSpec.ofChange onetimeTrueSpec)) onetimeTrueCard

/-- THE TIED CARD OF 'cartularylaw22.OnetimeSteps'. -/
def onetimeStepsCard : Claim7 := { stood := { row := onetimeStepsRow, standIns := [], harness := (true, "0cb557779018cedca26429867a40aec78f8c027b3a62f457fc9941b90961fec8"), looks := true }, kinds := [], alts := [], laidByText := true, laidKinds := [.handle, .sentinel, .sentinel, .sentinel, .sentinel, .sentinel, .sentinel, .sentinel, .sentinel, .sentinel, .sentinel, .sentinel, .sentinel, .sentinel, .sentinel, .sentinel, .sentinel, .data], laidTests := true, laidLooks := .later }
def OnetimeStepsCardSaid : Prop := Claim7.holds Tryd.pinned (.plain (OpenSpec.ofChange onetimeStepsSpec)) onetimeStepsCard

/-- THE TIED CARD OF 'cartularylaw22.OnetimeGoes'. -/
def onetimeGoesCard : Claim7 := { stood := { row := onetimeGoesRow, standIns := [], harness := (true, "0cb557779018cedca26429867a40aec78f8c027b3a62f457fc9941b90961fec8"), looks := true }, kinds := [], alts := [], laidByText := true, laidKinds := [.handle, .sentinel, .sentinel, .sentinel, .sentinel, .sentinel, .sentinel, .sentinel, .sentinel, .sentinel, .sentinel, .sentinel, .sentinel, .sentinel, .sentinel, .sentinel, .sentinel, .data], laidTests := true, laidLooks := .later }
def OnetimeGoesCardSaid : Prop := Claim7.holds Tryd.pinned (.plain (OpenSpec.ofChange onetimeGoesSpec)) onetimeGoesCard

/-- THE SECOND FORM's CARD OF 'cartularylaw22.OnetimeRecovers'. -/
def onetimeRecoversUptoCard : Claim7 := { stood := { row := onetimeRecoversUptoRow, standIns := [], harness := (true, "0cb557779018cedca26429867a40aec78f8c027b3a62f457fc9941b90961fec8"), looks := true }, kinds := [], alts := [], laidByText := true, laidKinds := [.handle, .sentinel, .sentinel, .sentinel, .sentinel, .sentinel, .sentinel, .sentinel, .sentinel, .sentinel, .sentinel, .sentinel, .sentinel, .sentinel, .sentinel, .sentinel, .sentinel, .data], laidTests := true, laidLooks := .later }
def OnetimeRecoversUptoCardSaid : Prop := Claim7.holds Tryd.pinned (.plain (OpenSpec.upto onetimeRecoversSpec)) onetimeRecoversUptoCard

/-- THE SECOND FORM's CARD OF 'cartularylaw22.OnetimeTrue'. -/
def onetimeTrueUptoCard : Claim7 := { stood := { row := onetimeTrueUptoRow, standIns := [], harness := (true, "0cb557779018cedca26429867a40aec78f8c027b3a62f457fc9941b90961fec8"), looks := true }, kinds := [], alts := [], laidByText := true, laidKinds := [.handle, .sentinel, .sentinel, .sentinel, .sentinel, .sentinel, .sentinel, .sentinel, .sentinel, .sentinel, .sentinel, .sentinel, .sentinel, .sentinel, .sentinel, .sentinel, .sentinel, .data], laidTests := true, laidLooks := .later }
def OnetimeTrueUptoCardSaid : Prop := Claim7.holds Tryd.pinned (.plain (OpenSpec.upto onetimeTrueSpec)) onetimeTrueUptoCard

/-- THE SECOND FORM's CARD OF 'cartularylaw22.OnetimeSteps'. -/
def onetimeStepsUptoCard : Claim7 := { stood := { row := onetimeStepsUptoRow, standIns := [], harness := (true, "0cb557779018cedca26429867a40aec78f8c027b3a62f457fc9941b90961fec8"), looks := true }, kinds := [], alts := [], laidByText := true, laidKinds := [.handle, .sentinel, .sentinel, .sentinel, .sentinel, .sentinel, .sentinel, .sentinel, .sentinel, .sentinel, .sentinel, .sentinel, .sentinel, .sentinel, .sentinel, .sentinel, .sentinel, .data], laidTests := true, laidLooks := .later }
def OnetimeStepsUptoCardSaid : Prop := Claim7.holds Tryd.pinned (.plain (OpenSpec.upto onetimeStepsSpec)) onetimeStepsUptoCard

/-- THE SECOND FORM's CARD OF 'cartularylaw22.OnetimeGoes'. -/
def onetimeGoesUptoCard : Claim7 := { stood := { row := onetimeGoesUptoRow, standIns := [], harness := (true, "0cb557779018cedca26429867a40aec78f8c027b3a62f457fc9941b90961fec8"), looks := true }, kinds := [], alts := [], laidByText := true, laidKinds := [.handle, .sentinel, .sentinel, .sentinel, .sentinel, .sentinel, .sentinel, .sentinel, .sentinel, .sentinel, .sentinel, .sentinel, .sentinel, .sentinel, .sentinel, .sentinel, .sentinel, .data], laidTests := true, laidLooks := .later }
def OnetimeGoesUptoCardSaid : Prop := Claim7.holds Tryd.pinned (.plain (OpenSpec.upto onetimeGoesSpec)) onetimeGoesUptoCard
end Rows
end Go.Proofs.YtohifpomdanmkaaDoor
