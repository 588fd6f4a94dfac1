/-
  NARROWER THAN 'FOR EVERY INPUT', by the rows' own cells (each row's printed sentence says how): InspectOrders: loops · InspectBuilds: loops · InspectCopies: loops · InspectSorts: loops · InspectLengths: loops · InspectTests: loops.
  DERIVED. THE GIVEN ROWS OF THIS SEAT. 8 by the template 'for every input the law returns true; each argument reads behind the call as it read before'; 0 by the template 'total and deterministic' (their statements: YtiifblpdlphchaaGreatRRTotals.lean).
  GIVEN WITH THE SEED: the statements are not yours to turn. If you find one false, say at which input.
  Laid BY PROGRAM, IN A SANDBOX (cutbox-rows.mjs): the forced cells as the released guide's own fill.sh prints them over the translation 3db3a6a59db1e36e… (all of the seat's roots in one cut). By AI agents, Wed Nov 11 2026. No macro, syntax, notation, axiom, sorry.
-/
import Derived.Test.YtiifblpdlphchaaGreatRRChecked
import GoSem.Claim
import GoSem.ClaimJoined
import GoSem.ClaimMapViews
import Derived.JoinedTies
import Derived.KernelRfl
namespace Go.Proofs.YtiifblpdlphchaaGreatRR
/- THE CELL 'sum', in the pinned program and in every row, IS THE sha256 OF THE DUMP (.gsa) THAT YtiifblpdlphchaaGreatRRProg.lean LOADS. Nothing in Lean hashes anything: it is a label: what it is worth is what the hold of that sum in a sandbox is worth. -/
noncomputable def Tryz.pinned : Pinned := { name := "ytiifblpdlphchaagreatrr", sum := "3db3a6a59db1e36ea29df4a3f75888d4cbf8a1f2dd0edd9baa9afcd1f5c26d1f", checked := Tryz.checked }
namespace Rows
def none {H : Type} : Left H := { results := [], args := [] }

/-- 'hornbeamlaw14.InspectHas': WHATEVER THE INPUT: true; the input reads as it did. -/
def inspectHasSpec : ChangeSpec := { name := "inspectHas", fn := fun _ => fun
  | [d1, d2] => { results := [.lit (.bool true)], args := [d1, d2] }
  | _ => none }
def inspectHasRow : OpenClaim := { program := "ytiifblpdlphchaagreatrr", sum := "3db3a6a59db1e36ea29df4a3f75888d4cbf8a1f2dd0edd9baa9afcd1f5c26d1f", func := "hornbeam/hornbeamlaw14.InspectHas", spec := "inspectHas", inPlace := ["internal/bytealg.abigen_runtime_cmpstring", "slices.overlaps[hornbeam/api.Binding]"], unfollowed := true, recurses := true, apart := false }
def InspectHasSaid : Prop := inspectHasRow.holds Tryz.pinned (OpenSpec.ofChange inspectHasSpec)

/-- ITS FALSE NEIGHBOUR: 'it returns false'. Refute it at one input. -/
def inspectHasWrong : ChangeSpec := { name := "inspectHas", fn := fun _ => fun
  | [d1, d2] => { results := [.lit (.bool false)], args := [d1, d2] }
  | _ => none }
def InspectHasWrongFalsely : Prop := inspectHasRow.holds Tryz.pinned (OpenSpec.ofChange inspectHasWrong)

/-- 'hornbeamlaw14.InspectOrders': WHATEVER THE INPUT: true; the input reads as it did. -/
def inspectOrdersSpec : ChangeSpec := { name := "inspectOrders", fn := fun _ => fun
  | [d1, d2] => { results := [.lit (.bool true)], args := [d1, d2] }
  | _ => none }
def inspectOrdersRow : OpenClaim := { program := "ytiifblpdlphchaagreatrr", sum := "3db3a6a59db1e36ea29df4a3f75888d4cbf8a1f2dd0edd9baa9afcd1f5c26d1f", func := "hornbeam/hornbeamlaw14.InspectOrders", spec := "inspectOrders", inPlace := ["internal/bytealg.abigen_runtime_cmpstring", "slices.overlaps[hornbeam/api.Binding]"], unfollowed := true, recurses := true, loops := true, apart := false }
def InspectOrdersSaid : Prop := inspectOrdersRow.holds Tryz.pinned (OpenSpec.ofChange inspectOrdersSpec)

/-- ITS FALSE NEIGHBOUR: 'it returns false'. Refute it at one input. -/
def inspectOrdersWrong : ChangeSpec := { name := "inspectOrders", fn := fun _ => fun
  | [d1, d2] => { results := [.lit (.bool false)], args := [d1, d2] }
  | _ => none }
def InspectOrdersWrongFalsely : Prop := inspectOrdersRow.holds Tryz.pinned (OpenSpec.ofChange inspectOrdersWrong)

/-- 'hornbeamlaw14.InspectBuilds': WHATEVER THE INPUT: true; the input reads as it did. -/
def inspectBuildsSpec : ChangeSpec := { name := "inspectBuilds", fn := fun _ => fun
  | [d] => { results := [.lit (.bool true)], args := [d] }
  | _ => none }
def inspectBuildsRow : OpenClaim := { program := "ytiifblpdlphchaagreatrr", sum := "3db3a6a59db1e36ea29df4a3f75888d4cbf8a1f2dd0edd9baa9afcd1f5c26d1f", func := "hornbeam/hornbeamlaw14.InspectBuilds", spec := "inspectBuilds", inPlace := ["internal/bytealg.abigen_runtime_cmpstring", "slices.overlaps[hornbeam/api.Binding]"], unfollowed := true, recurses := true, loops := true, apart := false }
def InspectBuildsSaid : Prop := inspectBuildsRow.holds Tryz.pinned (OpenSpec.ofChange inspectBuildsSpec)

/-- ITS FALSE NEIGHBOUR: 'it returns false'. Refute it at one input. -/
def inspectBuildsWrong : ChangeSpec := { name := "inspectBuilds", fn := fun _ => fun
  | [d] => { results := [.lit (.bool false)], args := [d] }
  | _ => none }
def InspectBuildsWrongFalsely : Prop := inspectBuildsRow.holds Tryz.pinned (OpenSpec.ofChange inspectBuildsWrong)

/-- 'hornbeamlaw14.InspectCopies': WHATEVER THE INPUT: true; the input reads as it did. -/
def inspectCopiesSpec : ChangeSpec := { name := "inspectCopies", fn := fun _ => fun
  | [d1, d2] => { results := [.lit (.bool true)], args := [d1, d2] }
  | _ => none }
def inspectCopiesRow : OpenClaim := { program := "ytiifblpdlphchaagreatrr", sum := "3db3a6a59db1e36ea29df4a3f75888d4cbf8a1f2dd0edd9baa9afcd1f5c26d1f", func := "hornbeam/hornbeamlaw14.InspectCopies", spec := "inspectCopies", inPlace := ["internal/bytealg.abigen_runtime_cmpstring", "slices.overlaps[hornbeam/api.Binding]"], unfollowed := true, recurses := true, loops := true, apart := false }
def InspectCopiesSaid : Prop := inspectCopiesRow.holds Tryz.pinned (OpenSpec.ofChange inspectCopiesSpec)

/-- ITS FALSE NEIGHBOUR: 'it returns false'. Refute it at one input. -/
def inspectCopiesWrong : ChangeSpec := { name := "inspectCopies", fn := fun _ => fun
  | [d1, d2] => { results := [.lit (.bool false)], args := [d1, d2] }
  | _ => none }
def InspectCopiesWrongFalsely : Prop := inspectCopiesRow.holds Tryz.pinned (OpenSpec.ofChange inspectCopiesWrong)

/-- 'hornbeamlaw14.InspectSorts': WHATEVER THE INPUT: true; the input reads as it did. -/
def inspectSortsSpec : ChangeSpec := { name := "inspectSorts", fn := fun _ => fun
  | [d] => { results := [.lit (.bool true)], args := [d] }
  | _ => none }
def inspectSortsRow : OpenClaim := { program := "ytiifblpdlphchaagreatrr", sum := "3db3a6a59db1e36ea29df4a3f75888d4cbf8a1f2dd0edd9baa9afcd1f5c26d1f", func := "hornbeam/hornbeamlaw14.InspectSorts", spec := "inspectSorts", inPlace := ["internal/bytealg.abigen_runtime_cmpstring", "slices.overlaps[hornbeam/api.Binding]"], unfollowed := true, recurses := true, loops := true, apart := false }
def InspectSortsSaid : Prop := inspectSortsRow.holds Tryz.pinned (OpenSpec.ofChange inspectSortsSpec)

/-- ITS FALSE NEIGHBOUR: 'it returns false'. Refute it at one input. -/
def inspectSortsWrong : ChangeSpec := { name := "inspectSorts", fn := fun _ => fun
  | [d] => { results := [.lit (.bool false)], args := [d] }
  | _ => none }
def InspectSortsWrongFalsely : Prop := inspectSortsRow.holds Tryz.pinned (OpenSpec.ofChange inspectSortsWrong)

/-- 'hornbeamlaw14.InspectLengths': WHATEVER THE INPUT: true; the input reads as it did. -/
def inspectLengthsSpec : ChangeSpec := { name := "inspectLengths", fn := fun _ => fun
  | [d1, d2] => { results := [.lit (.bool true)], args := [d1, d2] }
  | _ => none }
def inspectLengthsRow : OpenClaim := { program := "ytiifblpdlphchaagreatrr", sum := "3db3a6a59db1e36ea29df4a3f75888d4cbf8a1f2dd0edd9baa9afcd1f5c26d1f", func := "hornbeam/hornbeamlaw14.InspectLengths", spec := "inspectLengths", inPlace := ["internal/bytealg.abigen_runtime_cmpstring", "slices.overlaps[hornbeam/api.Binding]"], unfollowed := true, recurses := true, loops := true, apart := false }
def InspectLengthsSaid : Prop := inspectLengthsRow.holds Tryz.pinned (OpenSpec.ofChange inspectLengthsSpec)

/-- ITS FALSE NEIGHBOUR: 'it returns false'. Refute it at one input. -/
def inspectLengthsWrong : ChangeSpec := { name := "inspectLengths", fn := fun _ => fun
  | [d1, d2] => { results := [.lit (.bool false)], args := [d1, d2] }
  | _ => none }
def InspectLengthsWrongFalsely : Prop := inspectLengthsRow.holds Tryz.pinned (OpenSpec.ofChange inspectLengthsWrong)

/-- 'hornbeamlaw14.InspectBetween': WHATEVER THE INPUT: true; the input reads as it did. -/
def inspectBetweenSpec : ChangeSpec := { name := "inspectBetween", fn := fun _ => fun
  | [d1, d2, d3] => { results := [.lit (.bool true)], args := [d1, d2, d3] }
  | _ => none }
def inspectBetweenRow : OpenClaim := { program := "ytiifblpdlphchaagreatrr", sum := "3db3a6a59db1e36ea29df4a3f75888d4cbf8a1f2dd0edd9baa9afcd1f5c26d1f", func := "hornbeam/hornbeamlaw14.InspectBetween", spec := "inspectBetween", inPlace := ["internal/bytealg.abigen_runtime_cmpstring", "slices.overlaps[hornbeam/api.Binding]"], unfollowed := true, recurses := true, apart := false }
def InspectBetweenSaid : Prop := inspectBetweenRow.holds Tryz.pinned (OpenSpec.ofChange inspectBetweenSpec)

/-- ITS FALSE NEIGHBOUR: 'it returns false'. Refute it at one input. -/
def inspectBetweenWrong : ChangeSpec := { name := "inspectBetween", fn := fun _ => fun
  | [d1, d2, d3] => { results := [.lit (.bool false)], args := [d1, d2, d3] }
  | _ => none }
def InspectBetweenWrongFalsely : Prop := inspectBetweenRow.holds Tryz.pinned (OpenSpec.ofChange inspectBetweenWrong)

/-- 'hornbeamlaw14.InspectTests': WHATEVER THE INPUT: true; the input reads as it did. -/
def inspectTestsSpec : ChangeSpec := { name := "inspectTests", fn := fun _ => fun
  | [d] => { results := [.lit (.bool true)], args := [d] }
  | _ => none }
def inspectTestsRow : OpenClaim := { program := "ytiifblpdlphchaagreatrr", sum := "3db3a6a59db1e36ea29df4a3f75888d4cbf8a1f2dd0edd9baa9afcd1f5c26d1f", func := "hornbeam/hornbeamlaw14.InspectTests", spec := "inspectTests", inPlace := ["internal/bytealg.abigen_runtime_cmpstring", "slices.overlaps[hornbeam/api.Binding]"], unfollowed := true, recurses := true, loops := true, apart := false }
def InspectTestsSaid : Prop := inspectTestsRow.holds Tryz.pinned (OpenSpec.ofChange inspectTestsSpec)

/-- ITS FALSE NEIGHBOUR: 'it returns false'. Refute it at one input. -/
def inspectTestsWrong : ChangeSpec := { name := "inspectTests", fn := fun _ => fun
  | [d] => { results := [.lit (.bool false)], args := [d] }
  | _ => none }
def InspectTestsWrongFalsely : Prop := inspectTestsRow.holds Tryz.pinned (OpenSpec.ofChange inspectTestsWrong)

/- THE SECOND FORM. 'bulk': how many values and letters a reading holds, each counted each time it is reached (what is shared counts as often as it is met; a slice's spare places count too). A statement '..UptoSaid' is the law's where the arguments, and the package variables that the reading takes, are together of bulk at most 1048576: NARROWER than '..Said'. Prove '..Said' where nothing that the law and all that it calls make is longer than what came in: it says more and counts as full. Else prove '..UptoSaid'. A law counts once. -/
mutual
def uptoBulk {H : Type} : DataW H → Nat
  | .lit (.string bytes) => bytes.length + 1
  | .lit _ => 1
  | .nil => 1
  | .ptr d => uptoBulk d + 1
  | .slice elems spare => uptoBulkAll elems + uptoBulkAll spare + 1
  | .agg parts => uptoBulkAll parts + 1
  | .iface _ d => uptoBulk d + 1
  | .map entries => uptoBulkEntries entries + 1
  | .held _ => 1
def uptoBulkAll {H : Type} : List (DataW H) → Nat
  | [] => 0
  | d :: r => uptoBulk d + uptoBulkAll r
def uptoBulkEntries {H : Type} : List (Lit × DataW H) → Nat
  | [] => 0
  | x :: r => uptoBulkEntry x + uptoBulkEntries r
def uptoBulkEntry {H : Type} : Lit × DataW H → Nat
  | (.string bytes, d) => bytes.length + uptoBulk d + 1
  | (_, d) => uptoBulk d + 1
 end
def uptoSmall : (H : Type) → List (DataW H) → Bool := fun _ ds => decide (uptoBulkAll ds ≤ 1048576)
def OpenSpec.upto (s : _root_.Go.ChangeSpec) : _root_.Go.OpenSpec := { _root_.Go.OpenSpec.ofChange s with cond := some uptoSmall }

/-- 'hornbeamlaw14.InspectHas', WHERE WHAT IT READS IS OF BULK AT MOST 1048576: true; the input reads as it did. -/
def inspectHasUptoRow : OpenClaim := { program := "ytiifblpdlphchaagreatrr", sum := "3db3a6a59db1e36ea29df4a3f75888d4cbf8a1f2dd0edd9baa9afcd1f5c26d1f", func := "hornbeam/hornbeamlaw14.InspectHas", spec := "inspectHas", inPlace := ["internal/bytealg.abigen_runtime_cmpstring", "slices.overlaps[hornbeam/api.Binding]"], unfollowed := true, recurses := true, apart := false, narrowed := true }
def InspectHasUptoSaid : Prop := inspectHasUptoRow.holds Tryz.pinned (OpenSpec.upto inspectHasSpec)

/-- 'hornbeamlaw14.InspectOrders', WHERE WHAT IT READS IS OF BULK AT MOST 1048576: true; the input reads as it did. -/
def inspectOrdersUptoRow : OpenClaim := { program := "ytiifblpdlphchaagreatrr", sum := "3db3a6a59db1e36ea29df4a3f75888d4cbf8a1f2dd0edd9baa9afcd1f5c26d1f", func := "hornbeam/hornbeamlaw14.InspectOrders", spec := "inspectOrders", inPlace := ["internal/bytealg.abigen_runtime_cmpstring", "slices.overlaps[hornbeam/api.Binding]"], unfollowed := true, recurses := true, loops := true, apart := false, narrowed := true }
def InspectOrdersUptoSaid : Prop := inspectOrdersUptoRow.holds Tryz.pinned (OpenSpec.upto inspectOrdersSpec)

/-- 'hornbeamlaw14.InspectBuilds', WHERE WHAT IT READS IS OF BULK AT MOST 1048576: true; the input reads as it did. -/
def inspectBuildsUptoRow : OpenClaim := { program := "ytiifblpdlphchaagreatrr", sum := "3db3a6a59db1e36ea29df4a3f75888d4cbf8a1f2dd0edd9baa9afcd1f5c26d1f", func := "hornbeam/hornbeamlaw14.InspectBuilds", spec := "inspectBuilds", inPlace := ["internal/bytealg.abigen_runtime_cmpstring", "slices.overlaps[hornbeam/api.Binding]"], unfollowed := true, recurses := true, loops := true, apart := false, narrowed := true }
def InspectBuildsUptoSaid : Prop := inspectBuildsUptoRow.holds Tryz.pinned (OpenSpec.upto inspectBuildsSpec)

/-- 'hornbeamlaw14.InspectCopies', WHERE WHAT IT READS IS OF BULK AT MOST 1048576: true; the input reads as it did. -/
def inspectCopiesUptoRow : OpenClaim := { program := "ytiifblpdlphchaagreatrr", sum := "3db3a6a59db1e36ea29df4a3f75888d4cbf8a1f2dd0edd9baa9afcd1f5c26d1f", func := "hornbeam/hornbeamlaw14.InspectCopies", spec := "inspectCopies", inPlace := ["internal/bytealg.abigen_runtime_cmpstring", "slices.overlaps[hornbeam/api.Binding]"], unfollowed := true, recurses := true, loops := true, apart := false, narrowed := true }
def InspectCopiesUptoSaid : Prop := inspectCopiesUptoRow.holds Tryz.pinned (OpenSpec.upto inspectCopiesSpec)

/-- 'hornbeamlaw14.InspectSorts', WHERE WHAT IT READS IS OF BULK AT MOST 1048576: true; the input reads as it did. -/
def inspectSortsUptoRow : OpenClaim := { program := "ytiifblpdlphchaagreatrr", sum := "3db3a6a59db1e36ea29df4a3f75888d4cbf8a1f2dd0edd9baa9afcd1f5c26d1f", func := "hornbeam/hornbeamlaw14.InspectSorts", spec := "inspectSorts", inPlace := ["internal/bytealg.abigen_runtime_cmpstring", "slices.overlaps[hornbeam/api.Binding]"], unfollowed := true, recurses := true, loops := true, apart := false, narrowed := true }
def InspectSortsUptoSaid : Prop := inspectSortsUptoRow.holds Tryz.pinned (OpenSpec.upto inspectSortsSpec)

/-- 'hornbeamlaw14.InspectLengths', WHERE WHAT IT READS IS OF BULK AT MOST 1048576: true; the input reads as it did. -/
def inspectLengthsUptoRow : OpenClaim := { program := "ytiifblpdlphchaagreatrr", sum := "3db3a6a59db1e36ea29df4a3f75888d4cbf8a1f2dd0edd9baa9afcd1f5c26d1f", func := "hornbeam/hornbeamlaw14.InspectLengths", spec := "inspectLengths", inPlace := ["internal/bytealg.abigen_runtime_cmpstring", "slices.overlaps[hornbeam/api.Binding]"], unfollowed := true, recurses := true, loops := true, apart := false, narrowed := true }
def InspectLengthsUptoSaid : Prop := inspectLengthsUptoRow.holds Tryz.pinned (OpenSpec.upto inspectLengthsSpec)

/-- 'hornbeamlaw14.InspectBetween', WHERE WHAT IT READS IS OF BULK AT MOST 1048576: true; the input reads as it did. -/
def inspectBetweenUptoRow : OpenClaim := { program := "ytiifblpdlphchaagreatrr", sum := "3db3a6a59db1e36ea29df4a3f75888d4cbf8a1f2dd0edd9baa9afcd1f5c26d1f", func := "hornbeam/hornbeamlaw14.InspectBetween", spec := "inspectBetween", inPlace := ["internal/bytealg.abigen_runtime_cmpstring", "slices.overlaps[hornbeam/api.Binding]"], unfollowed := true, recurses := true, apart := false, narrowed := true }
def InspectBetweenUptoSaid : Prop := inspectBetweenUptoRow.holds Tryz.pinned (OpenSpec.upto inspectBetweenSpec)

/-- 'hornbeamlaw14.InspectTests', WHERE WHAT IT READS IS OF BULK AT MOST 1048576: true; the input reads as it did. -/
def inspectTestsUptoRow : OpenClaim := { program := "ytiifblpdlphchaagreatrr", sum := "3db3a6a59db1e36ea29df4a3f75888d4cbf8a1f2dd0edd9baa9afcd1f5c26d1f", func := "hornbeam/hornbeamlaw14.InspectTests", spec := "inspectTests", inPlace := ["internal/bytealg.abigen_runtime_cmpstring", "slices.overlaps[hornbeam/api.Binding]"], unfollowed := true, recurses := true, loops := true, apart := false, narrowed := true }
def InspectTestsUptoSaid : Prop := inspectTestsUptoRow.holds Tryz.pinned (OpenSpec.upto inspectTestsSpec)

end Rows
end Go.Proofs.YtiifblpdlphchaaGreatRR
