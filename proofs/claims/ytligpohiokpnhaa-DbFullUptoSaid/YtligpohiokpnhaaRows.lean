/-
  NARROWER THAN 'FOR EVERY INPUT', by the rows' own cells (each row's printed sentence says how): DbFull: loops · DbAdds: loops · DbDeclares: loops · DbRemoves: loops · DbNumbers: loops.
  DERIVED. THE GIVEN ROWS OF THIS SEAT. 5 by the template 'for every input the law returns true; each argument reads behind the call as it read before'; 0 by the template 'total and deterministic' (their statements: YtligpohiokpnhaaTotals.lean).
  GIVEN WITH THE SEED: the statements are not yours to turn. If you find one false, say at which input.
  Laid BY PROGRAM, IN A SANDBOX (cutbox-rows.mjs): the forced cells as the released guide's own fill.sh prints them over the translation 2575084ed58f9f5f… (all of the seat's roots in one cut). By AI agents, Wed Nov 11 2026. No macro, syntax, notation, axiom, sorry.
-/
import Derived.Test.YtligpohiokpnhaaChecked
import GoSem.Claim
import GoSem.ClaimJoined
import GoSem.ClaimMapViews
import Derived.JoinedTies
import Derived.KernelRfl
namespace Go.Proofs.Ytligpohiokpnhaa
/- THE CELL 'sum', in the pinned program and in every row, IS THE sha256 OF THE DUMP (.gsa) THAT YtligpohiokpnhaaProg.lean LOADS. Nothing in Lean hashes anything: it is a label: what it is worth is what the hold of that sum in a sandbox is worth. -/
noncomputable def Try.pinned : Pinned := { name := "ytligpohiokpnhaa", sum := "2575084ed58f9f5f20f10d402413561b1b739d9759ff54a2be26fe06209ea66b", checked := Try.checked }
namespace Rows
def none {H : Type} : Left H := { results := [], args := [] }

/-- 'hornbeamlaw17.DbFull': WHATEVER THE INPUT: true; the input reads as it did. -/
def dbFullSpec : ChangeSpec := { name := "dbFull", fn := fun _ => fun
  | [d1, d2] => { results := [.lit (.bool true)], args := [d1, d2] }
  | _ => none }
def dbFullRow : OpenClaim := { program := "ytligpohiokpnhaa", sum := "2575084ed58f9f5f20f10d402413561b1b739d9759ff54a2be26fe06209ea66b", func := "hornbeam/hornbeamlaw17.DbFull", spec := "dbFull", inPlace := ["slices.overlaps[hornbeam/api.Proc]", "slices.overlaps[hornbeam/api.Stored]"], unfollowed := true, recurses := true, loops := true, apart := false }
def DbFullSaid : Prop := dbFullRow.holds Try.pinned (OpenSpec.ofChange dbFullSpec)

/-- ITS FALSE NEIGHBOUR: 'it returns false'. Refute it at one input. -/
def dbFullWrong : ChangeSpec := { name := "dbFull", fn := fun _ => fun
  | [d1, d2] => { results := [.lit (.bool false)], args := [d1, d2] }
  | _ => none }
def DbFullWrongFalsely : Prop := dbFullRow.holds Try.pinned (OpenSpec.ofChange dbFullWrong)

/-- 'hornbeamlaw17.DbAdds': WHATEVER THE INPUT: true; the input reads as it did. -/
def dbAddsSpec : ChangeSpec := { name := "dbAdds", fn := fun _ => fun
  | [d1, d2, d3, d4] => { results := [.lit (.bool true)], args := [d1, d2, d3, d4] }
  | _ => none }
def dbAddsRow : OpenClaim := { program := "ytligpohiokpnhaa", sum := "2575084ed58f9f5f20f10d402413561b1b739d9759ff54a2be26fe06209ea66b", func := "hornbeam/hornbeamlaw17.DbAdds", spec := "dbAdds", inPlace := ["slices.overlaps[hornbeam/api.Proc]", "slices.overlaps[hornbeam/api.Stored]"], unfollowed := true, recurses := true, loops := true, apart := false }
def DbAddsSaid : Prop := dbAddsRow.holds Try.pinned (OpenSpec.ofChange dbAddsSpec)

/-- ITS FALSE NEIGHBOUR: 'it returns false'. Refute it at one input. -/
def dbAddsWrong : ChangeSpec := { name := "dbAdds", fn := fun _ => fun
  | [d1, d2, d3, d4] => { results := [.lit (.bool false)], args := [d1, d2, d3, d4] }
  | _ => none }
def DbAddsWrongFalsely : Prop := dbAddsRow.holds Try.pinned (OpenSpec.ofChange dbAddsWrong)

/-- 'hornbeamlaw17.DbDeclares': WHATEVER THE INPUT: true; the input reads as it did. -/
def dbDeclaresSpec : ChangeSpec := { name := "dbDeclares", fn := fun _ => fun
  | [d1, d2, d3, d4] => { results := [.lit (.bool true)], args := [d1, d2, d3, d4] }
  | _ => none }
def dbDeclaresRow : OpenClaim := { program := "ytligpohiokpnhaa", sum := "2575084ed58f9f5f20f10d402413561b1b739d9759ff54a2be26fe06209ea66b", func := "hornbeam/hornbeamlaw17.DbDeclares", spec := "dbDeclares", inPlace := ["slices.overlaps[hornbeam/api.Proc]", "slices.overlaps[hornbeam/api.Stored]"], unfollowed := true, recurses := true, loops := true, apart := false }
def DbDeclaresSaid : Prop := dbDeclaresRow.holds Try.pinned (OpenSpec.ofChange dbDeclaresSpec)

/-- ITS FALSE NEIGHBOUR: 'it returns false'. Refute it at one input. -/
def dbDeclaresWrong : ChangeSpec := { name := "dbDeclares", fn := fun _ => fun
  | [d1, d2, d3, d4] => { results := [.lit (.bool false)], args := [d1, d2, d3, d4] }
  | _ => none }
def DbDeclaresWrongFalsely : Prop := dbDeclaresRow.holds Try.pinned (OpenSpec.ofChange dbDeclaresWrong)

/-- 'hornbeamlaw17.DbRemoves': WHATEVER THE INPUT: true; the input reads as it did. -/
def dbRemovesSpec : ChangeSpec := { name := "dbRemoves", fn := fun _ => fun
  | [d1, d2, d3, d4] => { results := [.lit (.bool true)], args := [d1, d2, d3, d4] }
  | _ => none }
def dbRemovesRow : OpenClaim := { program := "ytligpohiokpnhaa", sum := "2575084ed58f9f5f20f10d402413561b1b739d9759ff54a2be26fe06209ea66b", func := "hornbeam/hornbeamlaw17.DbRemoves", spec := "dbRemoves", inPlace := ["slices.overlaps[hornbeam/api.Proc]", "slices.overlaps[hornbeam/api.Stored]"], unfollowed := true, recurses := true, loops := true, apart := false }
def DbRemovesSaid : Prop := dbRemovesRow.holds Try.pinned (OpenSpec.ofChange dbRemovesSpec)

/-- ITS FALSE NEIGHBOUR: 'it returns false'. Refute it at one input. -/
def dbRemovesWrong : ChangeSpec := { name := "dbRemoves", fn := fun _ => fun
  | [d1, d2, d3, d4] => { results := [.lit (.bool false)], args := [d1, d2, d3, d4] }
  | _ => none }
def DbRemovesWrongFalsely : Prop := dbRemovesRow.holds Try.pinned (OpenSpec.ofChange dbRemovesWrong)

/-- 'hornbeamlaw17.DbNumbers': WHATEVER THE INPUT: true; the input reads as it did. -/
def dbNumbersSpec : ChangeSpec := { name := "dbNumbers", fn := fun _ => fun
  | [d] => { results := [.lit (.bool true)], args := [d] }
  | _ => none }
def dbNumbersRow : OpenClaim := { program := "ytligpohiokpnhaa", sum := "2575084ed58f9f5f20f10d402413561b1b739d9759ff54a2be26fe06209ea66b", func := "hornbeam/hornbeamlaw17.DbNumbers", spec := "dbNumbers", inPlace := ["slices.overlaps[hornbeam/api.Proc]", "slices.overlaps[hornbeam/api.Stored]"], unfollowed := true, recurses := true, loops := true, apart := false }
def DbNumbersSaid : Prop := dbNumbersRow.holds Try.pinned (OpenSpec.ofChange dbNumbersSpec)

/-- ITS FALSE NEIGHBOUR: 'it returns false'. Refute it at one input. -/
def dbNumbersWrong : ChangeSpec := { name := "dbNumbers", fn := fun _ => fun
  | [d] => { results := [.lit (.bool false)], args := [d] }
  | _ => none }
def DbNumbersWrongFalsely : Prop := dbNumbersRow.holds Try.pinned (OpenSpec.ofChange dbNumbersWrong)

/- THE SECOND FORM. 'bulk': how many values and letters a reading holds, each counted each time it is reached (what is shared counts as often as it is met; a slice's spare places count too). A statement '..UptoSaid' is the law's where the arguments, and the package variables that the reading takes, are together of bulk at most 1048576: NARROWER than '..Said'. Prove '..Said' where nothing that the law and all that it calls make is longer than what came in: it says more and counts as full. Else prove '..UptoSaid'. A law counts once. -/
mutual
def uptoBulk {H : Type} : DataW H → Nat
  | .lit (.string bytes) => bytes.length + 1
  | .lit _ => 1
  | .nil => 1
  | .ptr d => uptoBulk d + 1
  | .slice elems spare => uptoBulkAll elems + uptoBulkAll spare + 1
  | .agg parts => uptoBulkAll parts + 1
  | .iface _ d => uptoBulk d + 1
  | .map entries => uptoBulkEntries entries + 1
  | .held _ => 1
def uptoBulkAll {H : Type} : List (DataW H) → Nat
  | [] => 0
  | d :: r => uptoBulk d + uptoBulkAll r
def uptoBulkEntries {H : Type} : List (Lit × DataW H) → Nat
  | [] => 0
  | x :: r => uptoBulkEntry x + uptoBulkEntries r
def uptoBulkEntry {H : Type} : Lit × DataW H → Nat
  | (.string bytes, d) => bytes.length + uptoBulk d + 1
  | (_, d) => uptoBulk d + 1
 end
def uptoSmall : (H : Type) → List (DataW H) → Bool := fun _ ds => decide (uptoBulkAll ds ≤ 1048576)
def OpenSpec.upto (s : _root_.Go.ChangeSpec) : _root_.Go.OpenSpec := { _root_.Go.OpenSpec.ofChange s with cond := some uptoSmall }

/-- 'hornbeamlaw17.DbFull', WHERE WHAT IT READS IS OF BULK AT MOST 1048576: true; the input reads as it did. -/
def dbFullUptoRow : OpenClaim := { program := "ytligpohiokpnhaa", sum := "2575084ed58f9f5f20f10d402413561b1b739d9759ff54a2be26fe06209ea66b", func := "hornbeam/hornbeamlaw17.DbFull", spec := "dbFull", inPlace := ["slices.overlaps[hornbeam/api.Proc]", "slices.overlaps[hornbeam/api.Stored]"], unfollowed := true, recurses := true, loops := true, apart := false, narrowed := true }
def DbFullUptoSaid : Prop := dbFullUptoRow.holds Try.pinned (OpenSpec.upto dbFullSpec)

/-- 'hornbeamlaw17.DbAdds', WHERE WHAT IT READS IS OF BULK AT MOST 1048576: true; the input reads as it did. -/
def dbAddsUptoRow : OpenClaim := { program := "ytligpohiokpnhaa", sum := "2575084ed58f9f5f20f10d402413561b1b739d9759ff54a2be26fe06209ea66b", func := "hornbeam/hornbeamlaw17.DbAdds", spec := "dbAdds", inPlace := ["slices.overlaps[hornbeam/api.Proc]", "slices.overlaps[hornbeam/api.Stored]"], unfollowed := true, recurses := true, loops := true, apart := false, narrowed := true }
def DbAddsUptoSaid : Prop := dbAddsUptoRow.holds Try.pinned (OpenSpec.upto dbAddsSpec)

/-- 'hornbeamlaw17.DbDeclares', WHERE WHAT IT READS IS OF BULK AT MOST 1048576: true; the input reads as it did. -/
def dbDeclaresUptoRow : OpenClaim := { program := "ytligpohiokpnhaa", sum := "2575084ed58f9f5f20f10d402413561b1b739d9759ff54a2be26fe06209ea66b", func := "hornbeam/hornbeamlaw17.DbDeclares", spec := "dbDeclares", inPlace := ["slices.overlaps[hornbeam/api.Proc]", "slices.overlaps[hornbeam/api.Stored]"], unfollowed := true, recurses := true, loops := true, apart := false, narrowed := true }
def DbDeclaresUptoSaid : Prop := dbDeclaresUptoRow.holds Try.pinned (OpenSpec.upto dbDeclaresSpec)

/-- 'hornbeamlaw17.DbRemoves', WHERE WHAT IT READS IS OF BULK AT MOST 1048576: true; the input reads as it did. -/
def dbRemovesUptoRow : OpenClaim := { program := "ytligpohiokpnhaa", sum := "2575084ed58f9f5f20f10d402413561b1b739d9759ff54a2be26fe06209ea66b", func := "hornbeam/hornbeamlaw17.DbRemoves", spec := "dbRemoves", inPlace := ["slices.overlaps[hornbeam/api.Proc]", "slices.overlaps[hornbeam/api.Stored]"], unfollowed := true, recurses := true, loops := true, apart := false, narrowed := true }
def DbRemovesUptoSaid : Prop := dbRemovesUptoRow.holds Try.pinned (OpenSpec.upto dbRemovesSpec)

/-- 'hornbeamlaw17.DbNumbers', WHERE WHAT IT READS IS OF BULK AT MOST 1048576: true; the input reads as it did. -/
def dbNumbersUptoRow : OpenClaim := { program := "ytligpohiokpnhaa", sum := "2575084ed58f9f5f20f10d402413561b1b739d9759ff54a2be26fe06209ea66b", func := "hornbeam/hornbeamlaw17.DbNumbers", spec := "dbNumbers", inPlace := ["slices.overlaps[hornbeam/api.Proc]", "slices.overlaps[hornbeam/api.Stored]"], unfollowed := true, recurses := true, loops := true, apart := false, narrowed := true }
def DbNumbersUptoSaid : Prop := dbNumbersUptoRow.holds Try.pinned (OpenSpec.upto dbNumbersSpec)

end Rows
end Go.Proofs.Ytligpohiokpnhaa
