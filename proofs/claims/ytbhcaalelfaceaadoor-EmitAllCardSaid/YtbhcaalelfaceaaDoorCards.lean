/-
  DERIVED. GIVEN WITH THE SEED: THE CARDS: each row of YtbhcaalelfaceaaDoorRows.lean that lists a variable, with what it lists TIED to the program's text (the seventh form; the later family's looks); each row that meets fmt, with fmt's text TOLD by the authors' own Lean function (tested against real Go, not proved from fmt's source: count such statements apart). THE CARD IS WHAT COUNTS. Prove the row's statement (the work); the ties are given (YtbhcaalelfaceaaDoorTie.lean); close each card by the builder's one call (the guide's Derived/Test/ToyasCard.lean, 'card_holds'). Laid BY PROGRAM, IN A SANDBOX (cutbox-door.mjs). By AI agents, Wed Nov 11 2026. No macro, syntax, notation, axiom, sorry.
-/
import Derived.Test.YtbhcaalelfaceaaDoorRows
import GoSem.ClaimSeven
namespace Go.Proofs.YtbhcaalelfaceaaDoor
namespace Rows

/-- THE TIED CARD OF 'cartularylaw10.EmitGoes'. -/
def emitGoesCard : Claim7 := { stood := { row := emitGoesRow, standIns := [], harness := (true, "ba08aae8328aeb736bfb6c6bff23b179132754a36206fe27e0e5a360cb4108fb"), looks := true }, kinds := [], alts := [], laidByText := true, laidKinds := [.data, .handle, .sentinel, .sentinel, .sentinel, .sentinel, .sentinel, .sentinel, .sentinel, .sentinel, .sentinel, .sentinel, .sentinel, .sentinel, .sentinel, .sentinel, .sentinel, .sentinel, .data], laidTests := true, laidLooks := .later }
def EmitGoesCardSaid : Prop := Claim7.holds Tryd.pinned (.plain (OpenSpec.ofChange emitGoesSpec)) emitGoesCard

/-- THE TIED CARD OF 'cartularylaw10.EmitNone'. -/
def emitNoneCard : Claim7 := { stood := { row := emitNoneRow, standIns := [], harness := (true, "ba08aae8328aeb736bfb6c6bff23b179132754a36206fe27e0e5a360cb4108fb"), looks := true }, kinds := [], alts := [], laidByText := true, laidKinds := [.data, .handle, .sentinel, .sentinel, .sentinel, .sentinel, .sentinel, .sentinel, .sentinel, .sentinel, .sentinel, .sentinel, .sentinel, .sentinel, .sentinel, .sentinel, .sentinel, .sentinel, .data], laidTests := true, laidLooks := .later }
def EmitNoneCardSaid : Prop := Claim7.holds Tryd.pinned (.plain (OpenSpec.ofChange emitNoneSpec)) emitNoneCard

/-- THE TIED CARD OF 'cartularylaw10.EmitFolds'. -/
def emitFoldsCard : Claim7 := { stood := { row := emitFoldsRow, standIns := [], harness := (true, "ba08aae8328aeb736bfb6c6bff23b179132754a36206fe27e0e5a360cb4108fb"), looks := true }, kinds := [], alts := [], laidByText := true, laidKinds := [.data, .handle, .sentinel, .sentinel, .sentinel, .sentinel, .sentinel, .sentinel, .sentinel, .sentinel, .sentinel, .sentinel, .sentinel, .sentinel, .sentinel, .sentinel, .sentinel, .sentinel, .data], laidTests := true, laidLooks := .later }
def EmitFoldsCardSaid : Prop := Claim7.holds Tryd.pinned (.plain (OpenSpec.ofChange emitFoldsSpec)) emitFoldsCard

/-- THE TIED CARD OF 'cartularylaw10.EmitAll'. -/
def emitAllCard : Claim7 := { stood := { row := emitAllRow, standIns := [], harness := (true, "ba08aae8328aeb736bfb6c6bff23b179132754a36206fe27e0e5a360cb4108fb"), looks := true }, kinds := [], alts := [], laidByText := true, laidKinds := [.data, .handle, .sentinel, .sentinel, .sentinel, .sentinel, .sentinel, .sentinel, .sentinel, .sentinel, .sentinel, .sentinel, .sentinel, .sentinel, .sentinel, .sentinel, .sentinel, .sentinel, .data], laidTests := true, laidLooks := .later }
def EmitAllCardSaid : Prop := Claim7.holds Tryd.pinned (.plain (OpenSpec.ofChange emitAllSpec)) emitAllCard

/-- THE SECOND FORM's CARD OF 'cartularylaw10.EmitGoes'. -/
def emitGoesUptoCard : Claim7 := { stood := { row := emitGoesUptoRow, standIns := [], harness := (true, "ba08aae8328aeb736bfb6c6bff23b179132754a36206fe27e0e5a360cb4108fb"), looks := true }, kinds := [], alts := [], laidByText := true, laidKinds := [.data, .handle, .sentinel, .sentinel, .sentinel, .sentinel, .sentinel, .sentinel, .sentinel, .sentinel, .sentinel, .sentinel, .sentinel, .sentinel, .sentinel, .sentinel, .sentinel, .sentinel, .data], laidTests := true, laidLooks := .later }
def EmitGoesUptoCardSaid : Prop := Claim7.holds Tryd.pinned (.plain (OpenSpec.upto emitGoesSpec)) emitGoesUptoCard

/-- THE SECOND FORM's CARD OF 'cartularylaw10.EmitNone'. -/
def emitNoneUptoCard : Claim7 := { stood := { row := emitNoneUptoRow, standIns := [], harness := (true, "ba08aae8328aeb736bfb6c6bff23b179132754a36206fe27e0e5a360cb4108fb"), looks := true }, kinds := [], alts := [], laidByText := true, laidKinds := [.data, .handle, .sentinel, .sentinel, .sentinel, .sentinel, .sentinel, .sentinel, .sentinel, .sentinel, .sentinel, .sentinel, .sentinel, .sentinel, .sentinel, .sentinel, .sentinel, .sentinel, .data], laidTests := true, laidLooks := .later }
def EmitNoneUptoCardSaid : Prop := Claim7.holds Tryd.pinned (.plain (OpenSpec.upto emitNoneSpec)) emitNoneUptoCard

/-- THE SECOND FORM's CARD OF 'cartularylaw10.EmitFolds'. -/
def emitFoldsUptoCard : Claim7 := { stood := { row := emitFoldsUptoRow, standIns := [], harness := (true, "ba08aae8328aeb736bfb6c6bff23b179132754a36206fe27e0e5a360cb4108fb"), looks := true }, kinds := [], alts := [], laidByText := true, laidKinds := [.data, .handle, .sentinel, .sentinel, .sentinel, .sentinel, .sentinel, .sentinel, .sentinel, .sentinel, .sentinel, .sentinel, .sentinel, .sentinel, .sentinel, .sentinel, .sentinel, .sentinel, .data], laidTests := true, laidLooks := .later }
def EmitFoldsUptoCardSaid : Prop := Claim7.holds Tryd.pinned (.plain (OpenSpec.upto emitFoldsSpec)) emitFoldsUptoCard

/-- THE SECOND FORM's CARD OF 'cartularylaw10.EmitAll'. -/
def emitAllUptoCard : Claim7 := { stood := { row := emitAllUptoRow, standIns := [], harness := (true, "ba08aae8328aeb736bfb6c6bff23b179132754a36206fe27e0e5a360cb4108fb"), looks := true }, kinds := [], alts := [], laidByText := true, laidKinds := [.data, .handle, .sentinel, .sentinel, .sentinel, .sentinel, .sentinel, .sentinel, .sentinel, .sentinel, .sentinel, .sentinel, .sentinel, .sentinel, .sentinel, .sentinel, .sentinel, .sentinel, .data], laidTests := true, laidLooks := .later }
def EmitAllUptoCardSaid : Prop := Claim7.holds Tryd.pinned (.plain (OpenSpec.upto emitAllSpec)) emitAllUptoCard
end Rows
end Go.Proofs.YtbhcaalelfaceaaDoor
