/-
  DERIVED. GIVEN WITH THE SEED: THE CARDS: each row of YtpekccomahikbaaDoorRows.lean that lists a variable, with what it lists TIED to the program's text (the seventh form; the later family's looks); each row that meets fmt, with fmt's text TOLD by the authors' own Lean function (tested against real Go, not proved from fmt's source: count such statements apart). THE CARD IS WHAT COUNTS. Prove the row's statement (the work); the ties are given (YtpekccomahikbaaDoorTie.lean); close each card by the builder's one call (the guide's Derived/Test/ToyasCard.lean, 'card_holds'). Laid BY PROGRAM, IN A SANDBOX (cutbox-door.mjs). By AI agents, Wed Nov 11 2026. No macro, syntax, notation, axiom, sorry.
-/
import Derived.Test.YtpekccomahikbaaDoorRows
import GoSem.ClaimSeven
namespace Go.Proofs.YtpekccomahikbaaDoor
namespace Rows

/-- THE TIED CARD OF 'callboardlaw09.ValueOne'. -/
def valueOneCard : Claim7 := { stood := { row := valueOneRow, standIns := [], harness := (true, "1f5e7cdfeaf49b73c25e89272218e78c5cba2c05056e1346b42e10f6841acbed"), looks := false }, kinds := [], alts := [], laidByText := true, laidKinds := [.data, .data, .data], laidTests := true, laidLooks := .later }
def ValueOneCardSaid : Prop := Claim7.holds Tryd.pinned (.plain (OpenSpec.ofChange valueOneSpec)) valueOneCard

/-- THE TIED CARD OF 'callboardlaw09.ValueNames'. -/
def valueNamesCard : Claim7 := { stood := { row := valueNamesRow, standIns := [], harness := (true, "1f5e7cdfeaf49b73c25e89272218e78c5cba2c05056e1346b42e10f6841acbed"), looks := false }, kinds := [], alts := [], laidByText := true, laidKinds := [.data, .data, .data], laidTests := true, laidLooks := .later }
def ValueNamesCardSaid : Prop := Claim7.holds Tryd.pinned (.plain (OpenSpec.ofChange valueNamesSpec)) valueNamesCard

/-- THE TIED CARD OF 'callboardlaw09.ValueMay'. -/
def valueMayCard : Claim7 := { stood := { row := valueMayRow, standIns := [], harness := (true, "1f5e7cdfeaf49b73c25e89272218e78c5cba2c05056e1346b42e10f6841acbed"), looks := false }, kinds := [], alts := [], laidByText := true, laidKinds := [.data, .data, .data], laidTests := true, laidLooks := .later }
def ValueMayCardSaid : Prop := Claim7.holds Tryd.pinned (.plain (OpenSpec.ofChange valueMaySpec)) valueMayCard

/-- THE SECOND FORM's CARD OF 'callboardlaw09.ValueOne'. -/
def valueOneUptoCard : Claim7 := { stood := { row := valueOneUptoRow, standIns := [], harness := (true, "1f5e7cdfeaf49b73c25e89272218e78c5cba2c05056e1346b42e10f6841acbed"), looks := false }, kinds := [], alts := [], laidByText := true, laidKinds := [.data, .data, .data], laidTests := true, laidLooks := .later }
def ValueOneUptoCardSaid : Prop := Claim7.holds Tryd.pinned (.plain (OpenSpec.upto valueOneSpec)) valueOneUptoCard

/-- THE SECOND FORM's CARD OF 'callboardlaw09.ValueNames'. -/
def valueNamesUptoCard : Claim7 := { stood := { row := valueNamesUptoRow, standIns := [], harness := (true, "1f5e7cdfeaf49b73c25e89272218e78c5cba2c05056e1346b42e10f6841acbed"), looks := false }, kinds := [], alts := [], laidByText := true, laidKinds := [.data, .data, .data], laidTests := true, laidLooks := .later }
def ValueNamesUptoCardSaid : Prop := Claim7.holds Tryd.pinned (.plain (OpenSpec.upto valueNamesSpec)) valueNamesUptoCard

/-- THE SECOND FORM's CARD OF 'callboardlaw09.ValueMay'. -/
def valueMayUptoCard : Claim7 := { stood := { row := valueMayUptoRow, standIns := [], harness := (true, "1f5e7cdfeaf49b73c25e89272218e78c5cba2c05056e1346b42e10f6841acbed"), looks := false }, kinds := [], alts := [], laidByText := true, laidKinds := [.data, .data, .data], laidTests := true, laidLooks := .later }
def ValueMayUptoCardSaid : Prop := Claim7.holds Tryd.pinned (.plain (OpenSpec.upto valueMaySpec)) valueMayUptoCard
end Rows
end Go.Proofs.YtpekccomahikbaaDoor
