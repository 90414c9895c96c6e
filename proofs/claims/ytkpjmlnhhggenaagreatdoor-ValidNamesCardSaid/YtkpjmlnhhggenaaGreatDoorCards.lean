/-
  DERIVED. GIVEN WITH THE SEED: THE CARDS: each row of YtkpjmlnhhggenaaGreatDoorRows.lean that lists a variable, with what it lists TIED to the program's text (the seventh form; the later family's looks); each row that meets fmt, with fmt's text TOLD by the authors' own Lean function (tested against real Go, not proved from fmt's source: count such statements apart). THE CARD IS WHAT COUNTS. Prove the row's statement (the work); the ties are given (YtkpjmlnhhggenaaGreatDoorTie.lean); close each card by the builder's one call (the guide's Derived/Test/ToyasCard.lean, 'card_holds'). Laid BY PROGRAM, IN A SANDBOX (cutbox-door.mjs). By AI agents, Wed Nov 11 2026. No macro, syntax, notation, axiom, sorry.
-/
import Derived.Test.YtkpjmlnhhggenaaGreatDoorRows
import GoSem.ClaimSeven
namespace Go.Proofs.YtkpjmlnhhggenaaGreatDoor
namespace Rows

/-- THE TIED CARD OF 'callboardlaw16.ValidNames'. -/
def validNamesCard : Claim7 := { stood := { row := validNamesRow, standIns := [], harness := (true, "351c847bee1ed7b72f99574f16994d5c3a93258d4c9fedb326e6aed1dd96eb53"), looks := true }, kinds := [], alts := [], laidByText := true, laidKinds := [.data, .data, .data, .data, .sentinel, .sentinel, .widerDeep, .widerDeep, .widerDeep, .data, .data, .pinned], laidTests := true, laidLooks := .later }
def ValidNamesCardSaid : Prop := Claim7.holds Tryz.pinned (.plain (OpenSpec.ofChange validNamesSpec)) validNamesCard

/-- THE TIED CARD OF 'callboardlaw16.ValidWhole'. -/
def validWholeCard : Claim7 := { stood := { row := validWholeRow, standIns := [], harness := (true, "351c847bee1ed7b72f99574f16994d5c3a93258d4c9fedb326e6aed1dd96eb53"), looks := true }, kinds := [], alts := [], laidByText := true, laidKinds := [.data, .data, .data, .data, .sentinel, .sentinel, .widerDeep, .widerDeep, .widerDeep, .data, .data, .pinned], laidTests := true, laidLooks := .later }
def ValidWholeCardSaid : Prop := Claim7.holds Tryz.pinned (.plain (OpenSpec.ofChange validWholeSpec)) validWholeCard

/-- THE TIED CARD OF 'callboardlaw16.ValidTold'. -/
def validToldCard : Claim7 := { stood := { row := validToldRow, standIns := [], harness := (true, "351c847bee1ed7b72f99574f16994d5c3a93258d4c9fedb326e6aed1dd96eb53"), looks := true }, kinds := [], alts := [], laidByText := true, laidKinds := [.data, .data, .data, .data, .sentinel, .sentinel, .widerDeep, .widerDeep, .widerDeep, .data, .data, .pinned], laidTests := true, laidLooks := .later }
def ValidToldCardSaid : Prop := Claim7.holds Tryz.pinned (.plain (OpenSpec.ofChange validToldSpec)) validToldCard

/-- THE TIED CARD OF 'callboardlaw16.ValidMore'. -/
def validMoreCard : Claim7 := { stood := { row := validMoreRow, standIns := [], harness := (true, "351c847bee1ed7b72f99574f16994d5c3a93258d4c9fedb326e6aed1dd96eb53"), looks := true }, kinds := [], alts := [], laidByText := true, laidKinds := [.data, .data, .data, .data, .sentinel, .sentinel, .widerDeep, .widerDeep, .widerDeep, .data, .data, .pinned], laidTests := true, laidLooks := .later }
def ValidMoreCardSaid : Prop := Claim7.holds Tryz.pinned (.plain (OpenSpec.ofChange validMoreSpec)) validMoreCard

/-- THE TIED CARD OF 'callboardlaw16.ValidLess'. -/
def validLessCard : Claim7 := { stood := { row := validLessRow, standIns := [], harness := (true, "351c847bee1ed7b72f99574f16994d5c3a93258d4c9fedb326e6aed1dd96eb53"), looks := true }, kinds := [], alts := [], laidByText := true, laidKinds := [.data, .data, .data, .data, .sentinel, .sentinel, .widerDeep, .widerDeep, .widerDeep, .data, .data, .pinned], laidTests := true, laidLooks := .later }
def ValidLessCardSaid : Prop := Claim7.holds Tryz.pinned (.plain (OpenSpec.ofChange validLessSpec)) validLessCard

/-- THE SECOND FORM's CARD OF 'callboardlaw16.ValidNames'. -/
def validNamesUptoCard : Claim7 := { stood := { row := validNamesUptoRow, standIns := [], harness := (true, "351c847bee1ed7b72f99574f16994d5c3a93258d4c9fedb326e6aed1dd96eb53"), looks := true }, kinds := [], alts := [], laidByText := true, laidKinds := [.data, .data, .data, .data, .sentinel, .sentinel, .widerDeep, .widerDeep, .widerDeep, .data, .data, .pinned], laidTests := true, laidLooks := .later }
def ValidNamesUptoCardSaid : Prop := Claim7.holds Tryz.pinned (.plain (OpenSpec.upto validNamesSpec)) validNamesUptoCard

/-- THE SECOND FORM's CARD OF 'callboardlaw16.ValidWhole'. -/
def validWholeUptoCard : Claim7 := { stood := { row := validWholeUptoRow, standIns := [], harness := (true, "351c847bee1ed7b72f99574f16994d5c3a93258d4c9fedb326e6aed1dd96eb53"), looks := true }, kinds := [], alts := [], laidByText := true, laidKinds := [.data, .data, .data, .data, .sentinel, .sentinel, .widerDeep, .widerDeep, .widerDeep, .data, .data, .pinned], laidTests := true, laidLooks := .later }
def ValidWholeUptoCardSaid : Prop := Claim7.holds Tryz.pinned (.plain (OpenSpec.upto validWholeSpec)) validWholeUptoCard

/-- THE SECOND FORM's CARD OF 'callboardlaw16.ValidTold'. -/
def validToldUptoCard : Claim7 := { stood := { row := validToldUptoRow, standIns := [], harness := (true, "351c847bee1ed7b72f99574f16994d5c3a93258d4c9fedb326e6aed1dd96eb53"), looks := true }, kinds := [], alts := [], laidByText := true, laidKinds := [.data, .data, .data, .data, .sentinel, .sentinel, .widerDeep, .widerDeep, .widerDeep, .data, .data, .pinned], laidTests := true, laidLooks := .later }
def ValidToldUptoCardSaid : Prop := Claim7.holds Tryz.pinned (.plain (OpenSpec.upto validToldSpec)) validToldUptoCard

/-- THE SECOND FORM's CARD OF 'callboardlaw16.ValidMore'. -/
def validMoreUptoCard : Claim7 := { stood := { row := validMoreUptoRow, standIns := [], harness := (true, "351c847bee1ed7b72f99574f16994d5c3a93258d4c9fedb326e6aed1dd96eb53"), looks := true }, kinds := [], alts := [], laidByText := true, laidKinds := [.data, .data, .data, .data, .sentinel, .sentinel, .widerDeep, .widerDeep, .widerDeep, .data, .data, .pinned], laidTests := true, laidLooks := .later }
def ValidMoreUptoCardSaid : Prop := Claim7.holds Tryz.pinned (.plain (OpenSpec.upto validMoreSpec)) validMoreUptoCard

/-- THE SECOND FORM's CARD OF 'callboardlaw16.ValidLess'. -/
def validLessUptoCard : Claim7 := { stood := { row := validLessUptoRow, standIns := [], harness := (true, "351c847bee1ed7b72f99574f16994d5c3a93258d4c9fedb326e6aed1dd96eb53"), looks := true }, kinds := [], alts := [], laidByText := true, laidKinds := [.data, .data, .data, .data, .sentinel, .sentinel, .widerDeep, .widerDeep, .widerDeep, .data, .data, .pinned], laidTests := true, laidLooks := .later }
def ValidLessUptoCardSaid : Prop := Claim7.holds Tryz.pinned (.plain (OpenSpec.upto validLessSpec)) validLessUptoCard
end Rows
end Go.Proofs.YtkpjmlnhhggenaaGreatDoor
