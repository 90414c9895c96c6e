/-
  DERIVED. GIVEN WITH THE SEED: THE CARDS: each row of YtijinopghlpdbaaDoorRows.lean that lists a variable, with what it lists TIED to the program's text (the seventh form; the later family's looks); each row that meets fmt, with fmt's text TOLD by the authors' own Lean function (tested against real Go, not proved from fmt's source: count such statements apart). THE CARD IS WHAT COUNTS. Prove the row's statement (the work); the ties are given (YtijinopghlpdbaaDoorTie.lean); close each card by the builder's one call (the guide's Derived/Test/ToyasCard.lean, 'card_holds'). Laid BY PROGRAM, IN A SANDBOX (cutbox-door.mjs). By AI agents, Wed Nov 11 2026. No macro, syntax, notation, axiom, sorry.
-/
import Derived.Test.YtijinopghlpdbaaDoorRows
import GoSem.ClaimSeven
namespace Go.Proofs.YtijinopghlpdbaaDoor
namespace Rows

/-- THE TIED CARD OF 'callboardlaw12.TypedVars'. -/
def typedVarsCard : Claim7 := { stood := { row := typedVarsRow, standIns := [], harness := (true, "dbb55999511c5b6dbdea3e29a09e246301140a94a323c913763f2a02036b865d"), looks := true }, kinds := [], alts := [], laidByText := true, laidKinds := [.data, .data, .data, .data, .sentinel, .sentinel, .widerDeep, .data, .data, .pinned], laidTests := true, laidLooks := .later }
def TypedVarsCardSaid : Prop := Claim7.holds Tryd.pinned (.plain (OpenSpec.ofChange typedVarsSpec)) typedVarsCard

/-- THE TIED CARD OF 'callboardlaw12.TypedParts'. -/
def typedPartsCard : Claim7 := { stood := { row := typedPartsRow, standIns := [], harness := (true, "dbb55999511c5b6dbdea3e29a09e246301140a94a323c913763f2a02036b865d"), looks := true }, kinds := [], alts := [], laidByText := true, laidKinds := [.data, .data, .data, .data, .sentinel, .sentinel, .widerDeep, .data, .data, .pinned], laidTests := true, laidLooks := .later }
def TypedPartsCardSaid : Prop := Claim7.holds Tryd.pinned (.plain (OpenSpec.ofChange typedPartsSpec)) typedPartsCard

/-- THE TIED CARD OF 'callboardlaw12.TypedTurned'. -/
def typedTurnedCard : Claim7 := { stood := { row := typedTurnedRow, standIns := [], harness := (true, "dbb55999511c5b6dbdea3e29a09e246301140a94a323c913763f2a02036b865d"), looks := true }, kinds := [], alts := [], laidByText := true, laidKinds := [.data, .data, .data, .data, .sentinel, .sentinel, .widerDeep, .data, .data, .pinned], laidTests := true, laidLooks := .later }
def TypedTurnedCardSaid : Prop := Claim7.holds Tryd.pinned (.plain (OpenSpec.ofChange typedTurnedSpec)) typedTurnedCard

/-- THE SECOND FORM's CARD OF 'callboardlaw12.TypedVars'. -/
def typedVarsUptoCard : Claim7 := { stood := { row := typedVarsUptoRow, standIns := [], harness := (true, "dbb55999511c5b6dbdea3e29a09e246301140a94a323c913763f2a02036b865d"), looks := true }, kinds := [], alts := [], laidByText := true, laidKinds := [.data, .data, .data, .data, .sentinel, .sentinel, .widerDeep, .data, .data, .pinned], laidTests := true, laidLooks := .later }
def TypedVarsUptoCardSaid : Prop := Claim7.holds Tryd.pinned (.plain (OpenSpec.upto typedVarsSpec)) typedVarsUptoCard

/-- THE SECOND FORM's CARD OF 'callboardlaw12.TypedParts'. -/
def typedPartsUptoCard : Claim7 := { stood := { row := typedPartsUptoRow, standIns := [], harness := (true, "dbb55999511c5b6dbdea3e29a09e246301140a94a323c913763f2a02036b865d"), looks := true }, kinds := [], alts := [], laidByText := true, laidKinds := [.data, .data, .data, .data, .sentinel, .sentinel, .widerDeep, .data, .data, .pinned], laidTests := true, laidLooks := .later }
def TypedPartsUptoCardSaid : Prop := Claim7.holds Tryd.pinned (.plain (OpenSpec.upto typedPartsSpec)) typedPartsUptoCard

/-- THE SECOND FORM's CARD OF 'callboardlaw12.TypedTurned'. -/
def typedTurnedUptoCard : Claim7 := { stood := { row := typedTurnedUptoRow, standIns := [], harness := (true, "dbb55999511c5b6dbdea3e29a09e246301140a94a323c913763f2a02036b865d"), looks := true }, kinds := [], alts := [], laidByText := true, laidKinds := [.data, .data, .data, .data, .sentinel, .sentinel, .widerDeep, .data, .data, .pinned], laidTests := true, laidLooks := .later }
def TypedTurnedUptoCardSaid : Prop := Claim7.holds Tryd.pinned (.plain (OpenSpec.upto typedTurnedSpec)) typedTurnedUptoCard
end Rows
end Go.Proofs.YtijinopghlpdbaaDoor
