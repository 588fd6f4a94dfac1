/-
  NARROWER THAN 'FOR EVERY INPUT', by the rows' own cells (each row's printed sentence says how): DbCalls: loops · DbScripts: loops.
  DERIVED. THE GIVEN ROWS OF THIS SEAT. 2 by the template 'for every input the law returns true; each argument reads behind the call as it read before'; 0 by the template 'total and deterministic' (their statements: YtligpohiokpnhaaGreatTotals.lean).
  GIVEN WITH THE SEED: the statements are not yours to turn. If you find one false, say at which input.
  Laid BY PROGRAM, IN A SANDBOX (cutbox-rows.mjs): the forced cells as the released guide's own fill.sh prints them over the translation e64bda88d7ec491d… (all of the seat's roots in one cut). By AI agents, Wed Nov 11 2026. No macro, syntax, notation, axiom, sorry.
-/
import Derived.Test.YtligpohiokpnhaaGreatChecked
import GoSem.Claim
import GoSem.ClaimJoined
import GoSem.ClaimMapViews
import Derived.JoinedTies
import Derived.KernelRfl
namespace Go.Proofs.YtligpohiokpnhaaGreat
/- THE CELL 'sum', in the pinned program and in every row, IS THE sha256 OF THE DUMP (.gsa) THAT YtligpohiokpnhaaGreatProg.lean LOADS. Nothing in Lean hashes anything: it is a label: what it is worth is what the hold of that sum in a sandbox is worth. -/
noncomputable def Tryz.pinned : Pinned := { name := "ytligpohiokpnhaagreat", sum := "e64bda88d7ec491d91f5a3180db90f2e601a1b0ce3c40c5f264a1fc3b18fb847", checked := Tryz.checked }
namespace Rows
def none {H : Type} : Left H := { results := [], args := [] }

/-- 'hornbeamlaw17.DbCalls': WHATEVER THE INPUT: true; the input reads as it did. -/
def dbCallsSpec : ChangeSpec := { name := "dbCalls", fn := fun _ => fun
  | [d1, d2] => { results := [.lit (.bool true)], args := [d1, d2] }
  | _ => none }
def dbCallsRow : OpenClaim := { program := "ytligpohiokpnhaagreat", sum := "e64bda88d7ec491d91f5a3180db90f2e601a1b0ce3c40c5f264a1fc3b18fb847", func := "hornbeam/hornbeamlaw17.DbCalls", spec := "dbCalls", inPlace := ["slices.overlaps[hornbeam/api.Proc]", "slices.overlaps[hornbeam/api.Stored]"], unfollowed := true, recurses := true, loops := true, apart := false }
def DbCallsSaid : Prop := dbCallsRow.holds Tryz.pinned (OpenSpec.ofChange dbCallsSpec)

/-- ITS FALSE NEIGHBOUR: 'it returns false'. Refute it at one input. -/
def dbCallsWrong : ChangeSpec := { name := "dbCalls", fn := fun _ => fun
  | [d1, d2] => { results := [.lit (.bool false)], args := [d1, d2] }
  | _ => none }
def DbCallsWrongFalsely : Prop := dbCallsRow.holds Tryz.pinned (OpenSpec.ofChange dbCallsWrong)

/-- 'hornbeamlaw17.DbScripts': WHATEVER THE INPUT: true; the input reads as it did. -/
def dbScriptsSpec : ChangeSpec := { name := "dbScripts", fn := fun _ => fun
  | [d] => { results := [.lit (.bool true)], args := [d] }
  | _ => none }
def dbScriptsRow : OpenClaim := { program := "ytligpohiokpnhaagreat", sum := "e64bda88d7ec491d91f5a3180db90f2e601a1b0ce3c40c5f264a1fc3b18fb847", func := "hornbeam/hornbeamlaw17.DbScripts", spec := "dbScripts", inPlace := ["slices.overlaps[hornbeam/api.Proc]", "slices.overlaps[hornbeam/api.Stored]"], unfollowed := true, recurses := true, loops := true, apart := false }
def DbScriptsSaid : Prop := dbScriptsRow.holds Tryz.pinned (OpenSpec.ofChange dbScriptsSpec)

/-- ITS FALSE NEIGHBOUR: 'it returns false'. Refute it at one input. -/
def dbScriptsWrong : ChangeSpec := { name := "dbScripts", fn := fun _ => fun
  | [d] => { results := [.lit (.bool false)], args := [d] }
  | _ => none }
def DbScriptsWrongFalsely : Prop := dbScriptsRow.holds Tryz.pinned (OpenSpec.ofChange dbScriptsWrong)

/- THE SECOND FORM. 'bulk': how many values and letters a reading holds, each counted each time it is reached (what is shared counts as often as it is met; a slice's spare places count too). A statement '..UptoSaid' is the law's where the arguments, and the package variables that the reading takes, are together of bulk at most 1048576: NARROWER than '..Said'. Prove '..Said' where nothing that the law and all that it calls make is longer than what came in: it says more and counts as full. Else prove '..UptoSaid'. A law counts once. -/
mutual
def uptoBulk {H : Type} : DataW H → Nat
  | .lit (.string bytes) => bytes.length + 1
  | .lit _ => 1
  | .nil => 1
  | .ptr d => uptoBulk d + 1
  | .slice elems spare => uptoBulkAll elems + uptoBulkAll spare + 1
  | .agg parts => uptoBulkAll parts + 1
  | .iface _ d => uptoBulk d + 1
  | .map entries => uptoBulkEntries entries + 1
  | .held _ => 1
def uptoBulkAll {H : Type} : List (DataW H) → Nat
  | [] => 0
  | d :: r => uptoBulk d + uptoBulkAll r
def uptoBulkEntries {H : Type} : List (Lit × DataW H) → Nat
  | [] => 0
  | x :: r => uptoBulkEntry x + uptoBulkEntries r
def uptoBulkEntry {H : Type} : Lit × DataW H → Nat
  | (.string bytes, d) => bytes.length + uptoBulk d + 1
  | (_, d) => uptoBulk d + 1
 end
def uptoSmall : (H : Type) → List (DataW H) → Bool := fun _ ds => decide (uptoBulkAll ds ≤ 1048576)
def OpenSpec.upto (s : _root_.Go.ChangeSpec) : _root_.Go.OpenSpec := { _root_.Go.OpenSpec.ofChange s with cond := some uptoSmall }

/-- 'hornbeamlaw17.DbCalls', WHERE WHAT IT READS IS OF BULK AT MOST 1048576: true; the input reads as it did. -/
def dbCallsUptoRow : OpenClaim := { program := "ytligpohiokpnhaagreat", sum := "e64bda88d7ec491d91f5a3180db90f2e601a1b0ce3c40c5f264a1fc3b18fb847", func := "hornbeam/hornbeamlaw17.DbCalls", spec := "dbCalls", inPlace := ["slices.overlaps[hornbeam/api.Proc]", "slices.overlaps[hornbeam/api.Stored]"], unfollowed := true, recurses := true, loops := true, apart := false, narrowed := true }
def DbCallsUptoSaid : Prop := dbCallsUptoRow.holds Tryz.pinned (OpenSpec.upto dbCallsSpec)

/-- 'hornbeamlaw17.DbScripts', WHERE WHAT IT READS IS OF BULK AT MOST 1048576: true; the input reads as it did. -/
def dbScriptsUptoRow : OpenClaim := { program := "ytligpohiokpnhaagreat", sum := "e64bda88d7ec491d91f5a3180db90f2e601a1b0ce3c40c5f264a1fc3b18fb847", func := "hornbeam/hornbeamlaw17.DbScripts", spec := "dbScripts", inPlace := ["slices.overlaps[hornbeam/api.Proc]", "slices.overlaps[hornbeam/api.Stored]"], unfollowed := true, recurses := true, loops := true, apart := false, narrowed := true }
def DbScriptsUptoSaid : Prop := dbScriptsUptoRow.holds Tryz.pinned (OpenSpec.upto dbScriptsSpec)

end Rows
end Go.Proofs.YtligpohiokpnhaaGreat
