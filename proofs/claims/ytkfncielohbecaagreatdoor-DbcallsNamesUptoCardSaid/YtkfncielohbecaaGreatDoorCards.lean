/-
  DERIVED. GIVEN WITH THE SEED: THE CARDS: each row of YtkfncielohbecaaGreatDoorRows.lean that lists a variable, with what it lists TIED to the program's text (the seventh form; the later family's looks); each row that meets fmt, with fmt's text TOLD by the authors' own Lean function (tested against real Go, not proved from fmt's source: count such statements apart). THE CARD IS WHAT COUNTS. Prove the row's statement (the work); the ties are given (YtkfncielohbecaaGreatDoorTie.lean); close each card by the builder's one call (the guide's Derived/Test/ToyasCard.lean, 'card_holds'). Laid BY PROGRAM, IN A SANDBOX (cutbox-door.mjs). By AI agents, Wed Nov 11 2026. No macro, syntax, notation, axiom, sorry.
-/
import Derived.Test.YtkfncielohbecaaGreatDoorRows
import GoSem.ClaimSeven
namespace Go.Proofs.YtkfncielohbecaaGreatDoor
namespace Rows

/-- THE TIED CARD OF 'hornbeamlaw18.DbcallsNames'. -/
def dbcallsNamesCard : Claim7 := { stood := { row := dbcallsNamesRow, standIns := [], harness := (true, "da1e842b410a7e180fa76a10242529e8c136c67a737f153883f72808d6b3d027"), looks := true }, kinds := [], alts := [], laidByText := true, laidKinds := [.listed, .data], laidTests := true, laidLooks := .later }
def DbcallsNamesCardSaid : Prop := Claim7.holds Tryz.pinned (.plain (OpenSpec.ofChange dbcallsNamesSpec)) dbcallsNamesCard

/-- THE TIED CARD OF 'hornbeamlaw18.DbcallsStays'. -/
def dbcallsStaysCard : Claim7 := { stood := { row := dbcallsStaysRow, standIns := [], harness := (true, "da1e842b410a7e180fa76a10242529e8c136c67a737f153883f72808d6b3d027"), looks := true }, kinds := [], alts := [], laidByText := true, laidKinds := [.listed, .data], laidTests := true, laidLooks := .later }
def DbcallsStaysCardSaid : Prop := Claim7.holds Tryz.pinned (.plain (OpenSpec.ofChange dbcallsStaysSpec)) dbcallsStaysCard

/-- THE SECOND FORM's CARD OF 'hornbeamlaw18.DbcallsNames'. -/
def dbcallsNamesUptoCard : Claim7 := { stood := { row := dbcallsNamesUptoRow, standIns := [], harness := (true, "da1e842b410a7e180fa76a10242529e8c136c67a737f153883f72808d6b3d027"), looks := true }, kinds := [], alts := [], laidByText := true, laidKinds := [.listed, .data], laidTests := true, laidLooks := .later }
def DbcallsNamesUptoCardSaid : Prop := Claim7.holds Tryz.pinned (.plain (OpenSpec.upto dbcallsNamesSpec)) dbcallsNamesUptoCard

/-- THE SECOND FORM's CARD OF 'hornbeamlaw18.DbcallsStays'. -/
def dbcallsStaysUptoCard : Claim7 := { stood := { row := dbcallsStaysUptoRow, standIns := [], harness := (true, "da1e842b410a7e180fa76a10242529e8c136c67a737f153883f72808d6b3d027"), looks := true }, kinds := [], alts := [], laidByText := true, laidKinds := [.listed, .data], laidTests := true, laidLooks := .later }
def DbcallsStaysUptoCardSaid : Prop := Claim7.holds Tryz.pinned (.plain (OpenSpec.upto dbcallsStaysSpec)) dbcallsStaysUptoCard
end Rows
end Go.Proofs.YtkfncielohbecaaGreatDoor
