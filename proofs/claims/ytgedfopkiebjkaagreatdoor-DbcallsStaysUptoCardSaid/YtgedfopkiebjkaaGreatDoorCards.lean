/-
  DERIVED. GIVEN WITH THE SEED: THE CARDS: each row of YtgedfopkiebjkaaGreatDoorRows.lean that lists a variable, with what it lists TIED to the program's text (the seventh form; the later family's looks); each row that meets fmt, with fmt's text TOLD by the authors' own Lean function (tested against real Go, not proved from fmt's source: count such statements apart). THE CARD IS WHAT COUNTS. Prove the row's statement (the work); the ties are given (YtgedfopkiebjkaaGreatDoorTie.lean); close each card by the builder's one call (the guide's Derived/Test/ToyasCard.lean, 'card_holds'). Laid BY PROGRAM, IN A SANDBOX (cutbox-door.mjs). By AI agents, Wed Nov 11 2026. No macro, syntax, notation, axiom, sorry.
-/
import Derived.Test.YtgedfopkiebjkaaGreatDoorRows
import GoSem.ClaimSeven
namespace Go.Proofs.YtgedfopkiebjkaaGreatDoor
namespace Rows

/-- THE TIED CARD OF 'hornbeamlaw18.DbcallsAsserts'. -/
def dbcallsAssertsCard : Claim7 := { stood := { row := dbcallsAssertsRow, standIns := [], harness := (true, "8b7b044b6b737f8105443cc15d9c39274f3e890a52a6d631efcda9049ab9b22e"), looks := true }, kinds := [], alts := [], laidByText := true, laidKinds := [.listed, .data], laidTests := true, laidLooks := .later }
def DbcallsAssertsCardSaid : Prop := Claim7.holds Tryz.pinned (.plain (OpenSpec.ofChange dbcallsAssertsSpec)) dbcallsAssertsCard

/-- THE TIED CARD OF 'hornbeamlaw18.DbcallsErases'. -/
def dbcallsErasesCard : Claim7 := { stood := { row := dbcallsErasesRow, standIns := [], harness := (true, "8b7b044b6b737f8105443cc15d9c39274f3e890a52a6d631efcda9049ab9b22e"), looks := true }, kinds := [], alts := [], laidByText := true, laidKinds := [.listed, .data], laidTests := true, laidLooks := .later }
def DbcallsErasesCardSaid : Prop := Claim7.holds Tryz.pinned (.plain (OpenSpec.ofChange dbcallsErasesSpec)) dbcallsErasesCard

/-- THE TIED CARD OF 'hornbeamlaw18.DbcallsStays'. -/
def dbcallsStaysCard : Claim7 := { stood := { row := dbcallsStaysRow, standIns := [], harness := (true, "8b7b044b6b737f8105443cc15d9c39274f3e890a52a6d631efcda9049ab9b22e"), looks := true }, kinds := [], alts := [], laidByText := true, laidKinds := [.listed, .data], laidTests := true, laidLooks := .later }
def DbcallsStaysCardSaid : Prop := Claim7.holds Tryz.pinned (.plain (OpenSpec.ofChange dbcallsStaysSpec)) dbcallsStaysCard

/-- THE SECOND FORM's CARD OF 'hornbeamlaw18.DbcallsAsserts'. -/
def dbcallsAssertsUptoCard : Claim7 := { stood := { row := dbcallsAssertsUptoRow, standIns := [], harness := (true, "8b7b044b6b737f8105443cc15d9c39274f3e890a52a6d631efcda9049ab9b22e"), looks := true }, kinds := [], alts := [], laidByText := true, laidKinds := [.listed, .data], laidTests := true, laidLooks := .later }
def DbcallsAssertsUptoCardSaid : Prop := Claim7.holds Tryz.pinned (.plain (OpenSpec.upto dbcallsAssertsSpec)) dbcallsAssertsUptoCard

/-- THE SECOND FORM's CARD OF 'hornbeamlaw18.DbcallsErases'. -/
def dbcallsErasesUptoCard : Claim7 := { stood := { row := dbcallsErasesUptoRow, standIns := [], harness := (true, "8b7b044b6b737f8105443cc15d9c39274f3e890a52a6d631efcda9049ab9b22e"), looks := true }, kinds := [], alts := [], laidByText := true, laidKinds := [.listed, .data], laidTests := true, laidLooks := .later }
def DbcallsErasesUptoCardSaid : Prop := Claim7.holds Tryz.pinned (.plain (OpenSpec.upto dbcallsErasesSpec)) dbcallsErasesUptoCard

/-- THE SECOND FORM's CARD OF 'hornbeamlaw18.DbcallsStays'. -/
def dbcallsStaysUptoCard : Claim7 := { stood := { row := dbcallsStaysUptoRow, standIns := [], harness := (true, "8b7b044b6b737f8105443cc15d9c39274f3e890a52a6d631efcda9049ab9b22e"), looks := true }, kinds := [], alts := [], laidByText := true, laidKinds := [.listed, .data], laidTests := true, laidLooks := .later }
def DbcallsStaysUptoCardSaid : Prop := Claim7.holds Tryz.pinned (.plain (OpenSpec.upto dbcallsStaysSpec)) dbcallsStaysUptoCard
end Rows
end Go.Proofs.YtgedfopkiebjkaaGreatDoor
