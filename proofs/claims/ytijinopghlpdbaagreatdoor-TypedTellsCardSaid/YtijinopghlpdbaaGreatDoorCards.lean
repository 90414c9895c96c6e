/-
  DERIVED. GIVEN WITH THE SEED: THE CARDS: each row of YtijinopghlpdbaaGreatDoorRows.lean that lists a variable, with what it lists TIED to the program's text (the seventh form; the later family's looks); each row that meets fmt, with fmt's text TOLD by the authors' own Lean function (tested against real Go, not proved from fmt's source: count such statements apart). THE CARD IS WHAT COUNTS. Prove the row's statement (the work); the ties are given (YtijinopghlpdbaaGreatDoorTie.lean); close each card by the builder's one call (the guide's Derived/Test/ToyasCard.lean, 'card_holds'). Laid BY PROGRAM, IN A SANDBOX (cutbox-door.mjs). By AI agents, Wed Nov 11 2026. No macro, syntax, notation, axiom, sorry.
-/
import Derived.Test.YtijinopghlpdbaaGreatDoorRows
import GoSem.ClaimSeven
namespace Go.Proofs.YtijinopghlpdbaaGreatDoor
namespace Rows

/-- THE TIED CARD OF 'callboardlaw12.TypedTells'. -/
def typedTellsCard : Claim7 := { stood := { row := typedTellsRow, standIns := [], harness := (true, "ba421033bf3d9126ba6350fa611d2515ab7f78b6e01a9e02c19f5c4bef4bf7c2"), looks := true }, kinds := [], alts := [], laidByText := true, laidKinds := [.data, .data, .data, .data, .sentinel, .sentinel, .widerDeep, .data, .data, .pinned], laidTests := true, laidLooks := .later }
def TypedTellsCardSaid : Prop := Claim7.holds Tryz.pinned (.plain (OpenSpec.ofChange typedTellsSpec)) typedTellsCard

/-- THE TIED CARD OF 'callboardlaw12.TypedNames'. -/
def typedNamesCard : Claim7 := { stood := { row := typedNamesRow, standIns := [], harness := (true, "ba421033bf3d9126ba6350fa611d2515ab7f78b6e01a9e02c19f5c4bef4bf7c2"), looks := true }, kinds := [], alts := [], laidByText := true, laidKinds := [.data, .data, .data, .data, .sentinel, .sentinel, .widerDeep, .data, .data, .pinned], laidTests := true, laidLooks := .later }
def TypedNamesCardSaid : Prop := Claim7.holds Tryz.pinned (.plain (OpenSpec.ofChange typedNamesSpec)) typedNamesCard

/-- THE TIED CARD OF 'callboardlaw12.TypedComes'. -/
def typedComesCard : Claim7 := { stood := { row := typedComesRow, standIns := [], harness := (true, "ba421033bf3d9126ba6350fa611d2515ab7f78b6e01a9e02c19f5c4bef4bf7c2"), looks := true }, kinds := [], alts := [], laidByText := true, laidKinds := [.data, .data, .data, .data, .sentinel, .sentinel, .widerDeep, .data, .data, .pinned], laidTests := true, laidLooks := .later }
def TypedComesCardSaid : Prop := Claim7.holds Tryz.pinned (.plain (OpenSpec.ofChange typedComesSpec)) typedComesCard

/-- THE SECOND FORM's CARD OF 'callboardlaw12.TypedTells'. -/
def typedTellsUptoCard : Claim7 := { stood := { row := typedTellsUptoRow, standIns := [], harness := (true, "ba421033bf3d9126ba6350fa611d2515ab7f78b6e01a9e02c19f5c4bef4bf7c2"), looks := true }, kinds := [], alts := [], laidByText := true, laidKinds := [.data, .data, .data, .data, .sentinel, .sentinel, .widerDeep, .data, .data, .pinned], laidTests := true, laidLooks := .later }
def TypedTellsUptoCardSaid : Prop := Claim7.holds Tryz.pinned (.plain (OpenSpec.upto typedTellsSpec)) typedTellsUptoCard

/-- THE SECOND FORM's CARD OF 'callboardlaw12.TypedNames'. -/
def typedNamesUptoCard : Claim7 := { stood := { row := typedNamesUptoRow, standIns := [], harness := (true, "ba421033bf3d9126ba6350fa611d2515ab7f78b6e01a9e02c19f5c4bef4bf7c2"), looks := true }, kinds := [], alts := [], laidByText := true, laidKinds := [.data, .data, .data, .data, .sentinel, .sentinel, .widerDeep, .data, .data, .pinned], laidTests := true, laidLooks := .later }
def TypedNamesUptoCardSaid : Prop := Claim7.holds Tryz.pinned (.plain (OpenSpec.upto typedNamesSpec)) typedNamesUptoCard

/-- THE SECOND FORM's CARD OF 'callboardlaw12.TypedComes'. -/
def typedComesUptoCard : Claim7 := { stood := { row := typedComesUptoRow, standIns := [], harness := (true, "ba421033bf3d9126ba6350fa611d2515ab7f78b6e01a9e02c19f5c4bef4bf7c2"), looks := true }, kinds := [], alts := [], laidByText := true, laidKinds := [.data, .data, .data, .data, .sentinel, .sentinel, .widerDeep, .data, .data, .pinned], laidTests := true, laidLooks := .later }
def TypedComesUptoCardSaid : Prop := Claim7.holds Tryz.pinned (.plain (OpenSpec.upto typedComesSpec)) typedComesUptoCard
end Rows
end Go.Proofs.YtijinopghlpdbaaGreatDoor
