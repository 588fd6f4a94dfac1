/-
  DERIVED. GIVEN WITH THE SEED: THE CARDS: each row of YtkkppaoehnpboaaGreatDoorRows.lean that lists a variable, with what it lists TIED to the program's text (the seventh form; the later family's looks); each row that meets fmt, with fmt's text TOLD by the authors' own Lean function (tested against real Go, not proved from fmt's source: count such statements apart). THE CARD IS WHAT COUNTS. Prove the row's statement (the work); the ties are given (YtkkppaoehnpboaaGreatDoorTie.lean); close each card by the builder's one call (the guide's Derived/Test/ToyasCard.lean, 'card_holds'). Laid BY PROGRAM, IN A SANDBOX (cutbox-door.mjs). By AI agents, Wed Nov 11 2026. No macro, syntax, notation, axiom, sorry.
-/
import Derived.Test.YtkkppaoehnpboaaGreatDoorRows
import GoSem.ClaimSeven
namespace Go.Proofs.YtkkppaoehnpboaaGreatDoor
namespace Rows

/-- THE TIED CARD OF 'hornbeamlaw18.DbcallsDeclares'. -/
def dbcallsDeclaresCard : Claim7 := { stood := { row := dbcallsDeclaresRow, standIns := [], harness := (true, "a0b1035f3ebd00c135e3630cd5a295dd0adc0bf66ae9273156948106ca0e7768"), looks := true }, kinds := [], alts := [], laidByText := true, laidKinds := [.listed, .data], laidTests := true, laidLooks := .later }
def DbcallsDeclaresCardSaid : Prop := Claim7.holds Tryz.pinned (.plain (OpenSpec.ofChange dbcallsDeclaresSpec)) dbcallsDeclaresCard

/-- THE SECOND FORM's CARD OF 'hornbeamlaw18.DbcallsDeclares'. -/
def dbcallsDeclaresUptoCard : Claim7 := { stood := { row := dbcallsDeclaresUptoRow, standIns := [], harness := (true, "a0b1035f3ebd00c135e3630cd5a295dd0adc0bf66ae9273156948106ca0e7768"), looks := true }, kinds := [], alts := [], laidByText := true, laidKinds := [.listed, .data], laidTests := true, laidLooks := .later }
def DbcallsDeclaresUptoCardSaid : Prop := Claim7.holds Tryz.pinned (.plain (OpenSpec.upto dbcallsDeclaresSpec)) dbcallsDeclaresUptoCard
end Rows
end Go.Proofs.YtkkppaoehnpboaaGreatDoor
