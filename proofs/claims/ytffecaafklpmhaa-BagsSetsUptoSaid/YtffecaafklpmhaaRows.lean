/-
  NARROWER THAN 'FOR EVERY INPUT', by the rows' own cells (each row's printed sentence says how): BagsSets: loops · BagsPartition: loops · BagsWitness: loops.
  DERIVED. THE GIVEN ROWS OF THIS SEAT. 3 by the template 'for every input the law returns true; each argument reads behind the call as it read before'; 0 by the template 'total and deterministic' (their statements: YtffecaafklpmhaaTotals.lean).
  GIVEN WITH THE SEED: the statements are not yours to turn. If you find one false, say at which input.
  Laid BY PROGRAM, IN A SANDBOX (cutbox-rows.mjs): the forced cells as the released guide's own fill.sh prints them over the translation 354d7c7f9c9f04d3… (all of the seat's roots in one cut). By AI agents, Wed Nov 11 2026. No macro, syntax, notation, axiom, sorry.
-/
import Derived.Test.YtffecaafklpmhaaChecked
import GoSem.Claim
import GoSem.ClaimJoined
import GoSem.ClaimMapViews
import Derived.JoinedTies
import Derived.KernelRfl
namespace Go.Proofs.Ytffecaafklpmhaa
/- THE CELL 'sum', in the pinned program and in every row, IS THE sha256 OF THE DUMP (.gsa) THAT YtffecaafklpmhaaProg.lean LOADS. Nothing in Lean hashes anything: it is a label: what it is worth is what the hold of that sum in a sandbox is worth. -/
noncomputable def Try.pinned : Pinned := { name := "ytffecaafklpmhaa", sum := "354d7c7f9c9f04d367386fd68f1aadae01b368d95893619551a67bd7c820bc90", checked := Try.checked }
namespace Rows
def none {H : Type} : Left H := { results := [], args := [] }

/-- 'hornbeamlaw19.BagsSets': WHATEVER THE INPUT: true; the input reads as it did. -/
def bagsSetsSpec : ChangeSpec := { name := "bagsSets", fn := fun _ => fun
  | [d1, d2, d3] => { results := [.lit (.bool true)], args := [d1, d2, d3] }
  | _ => none }
def bagsSetsRow : OpenClaim := { program := "ytffecaafklpmhaa", sum := "354d7c7f9c9f04d367386fd68f1aadae01b368d95893619551a67bd7c820bc90", func := "hornbeam/hornbeamlaw19.BagsSets", spec := "bagsSets", inPlace := ["internal/bytealg.abigen_runtime_cmpstring", "slices.overlaps[hornbeam/api.Binding]"], unfollowed := true, recurses := true, loops := true, apart := false }
def BagsSetsSaid : Prop := bagsSetsRow.holds Try.pinned (OpenSpec.ofChange bagsSetsSpec)

/-- ITS FALSE NEIGHBOUR: 'it returns false'. Refute it at one input. -/
def bagsSetsWrong : ChangeSpec := { name := "bagsSets", fn := fun _ => fun
  | [d1, d2, d3] => { results := [.lit (.bool false)], args := [d1, d2, d3] }
  | _ => none }
def BagsSetsWrongFalsely : Prop := bagsSetsRow.holds Try.pinned (OpenSpec.ofChange bagsSetsWrong)

/-- 'hornbeamlaw19.BagsPartition': WHATEVER THE INPUT: true; the input reads as it did. -/
def bagsPartitionSpec : ChangeSpec := { name := "bagsPartition", fn := fun _ => fun
  | [d1, d2] => { results := [.lit (.bool true)], args := [d1, d2] }
  | _ => none }
def bagsPartitionRow : OpenClaim := { program := "ytffecaafklpmhaa", sum := "354d7c7f9c9f04d367386fd68f1aadae01b368d95893619551a67bd7c820bc90", func := "hornbeam/hornbeamlaw19.BagsPartition", spec := "bagsPartition", inPlace := ["internal/bytealg.abigen_runtime_cmpstring", "slices.overlaps[hornbeam/api.Binding]"], unfollowed := true, recurses := true, loops := true, apart := false }
def BagsPartitionSaid : Prop := bagsPartitionRow.holds Try.pinned (OpenSpec.ofChange bagsPartitionSpec)

/-- ITS FALSE NEIGHBOUR: 'it returns false'. Refute it at one input. -/
def bagsPartitionWrong : ChangeSpec := { name := "bagsPartition", fn := fun _ => fun
  | [d1, d2] => { results := [.lit (.bool false)], args := [d1, d2] }
  | _ => none }
def BagsPartitionWrongFalsely : Prop := bagsPartitionRow.holds Try.pinned (OpenSpec.ofChange bagsPartitionWrong)

/-- 'hornbeamlaw19.BagsWitness': WHATEVER THE INPUT: true; the input reads as it did. -/
def bagsWitnessSpec : ChangeSpec := { name := "bagsWitness", fn := fun _ => fun
  | [d1, d2] => { results := [.lit (.bool true)], args := [d1, d2] }
  | _ => none }
def bagsWitnessRow : OpenClaim := { program := "ytffecaafklpmhaa", sum := "354d7c7f9c9f04d367386fd68f1aadae01b368d95893619551a67bd7c820bc90", func := "hornbeam/hornbeamlaw19.BagsWitness", spec := "bagsWitness", inPlace := ["internal/bytealg.abigen_runtime_cmpstring", "slices.overlaps[hornbeam/api.Binding]"], unfollowed := true, recurses := true, loops := true, apart := false }
def BagsWitnessSaid : Prop := bagsWitnessRow.holds Try.pinned (OpenSpec.ofChange bagsWitnessSpec)

/-- ITS FALSE NEIGHBOUR: 'it returns false'. Refute it at one input. -/
def bagsWitnessWrong : ChangeSpec := { name := "bagsWitness", fn := fun _ => fun
  | [d1, d2] => { results := [.lit (.bool false)], args := [d1, d2] }
  | _ => none }
def BagsWitnessWrongFalsely : Prop := bagsWitnessRow.holds Try.pinned (OpenSpec.ofChange bagsWitnessWrong)

/- THE SECOND FORM. 'bulk': how many values and letters a reading holds, each counted each time it is reached (what is shared counts as often as it is met; a slice's spare places count too). A statement '..UptoSaid' is the law's where the arguments, and the package variables that the reading takes, are together of bulk at most 1048576: NARROWER than '..Said'. Prove '..Said' where nothing that the law and all that it calls make is longer than what came in: it says more and counts as full. Else prove '..UptoSaid'. A law counts once. -/
mutual
def uptoBulk {H : Type} : DataW H → Nat
  | .lit (.string bytes) => bytes.length + 1
  | .lit _ => 1
  | .nil => 1
  | .ptr d => uptoBulk d + 1
  | .slice elems spare => uptoBulkAll elems + uptoBulkAll spare + 1
  | .agg parts => uptoBulkAll parts + 1
  | .iface _ d => uptoBulk d + 1
  | .map entries => uptoBulkEntries entries + 1
  | .held _ => 1
def uptoBulkAll {H : Type} : List (DataW H) → Nat
  | [] => 0
  | d :: r => uptoBulk d + uptoBulkAll r
def uptoBulkEntries {H : Type} : List (Lit × DataW H) → Nat
  | [] => 0
  | x :: r => uptoBulkEntry x + uptoBulkEntries r
def uptoBulkEntry {H : Type} : Lit × DataW H → Nat
  | (.string bytes, d) => bytes.length + uptoBulk d + 1
  | (_, d) => uptoBulk d + 1
 end
def uptoSmall : (H : Type) → List (DataW H) → Bool := fun _ ds => decide (uptoBulkAll ds ≤ 1048576)
def OpenSpec.upto (s : _root_.Go.ChangeSpec) : _root_.Go.OpenSpec := { _root_.Go.OpenSpec.ofChange s with cond := some uptoSmall }

/-- 'hornbeamlaw19.BagsSets', WHERE WHAT IT READS IS OF BULK AT MOST 1048576: true; the input reads as it did. -/
def bagsSetsUptoRow : OpenClaim := { program := "ytffecaafklpmhaa", sum := "354d7c7f9c9f04d367386fd68f1aadae01b368d95893619551a67bd7c820bc90", func := "hornbeam/hornbeamlaw19.BagsSets", spec := "bagsSets", inPlace := ["internal/bytealg.abigen_runtime_cmpstring", "slices.overlaps[hornbeam/api.Binding]"], unfollowed := true, recurses := true, loops := true, apart := false, narrowed := true }
def BagsSetsUptoSaid : Prop := bagsSetsUptoRow.holds Try.pinned (OpenSpec.upto bagsSetsSpec)

/-- 'hornbeamlaw19.BagsPartition', WHERE WHAT IT READS IS OF BULK AT MOST 1048576: true; the input reads as it did. -/
def bagsPartitionUptoRow : OpenClaim := { program := "ytffecaafklpmhaa", sum := "354d7c7f9c9f04d367386fd68f1aadae01b368d95893619551a67bd7c820bc90", func := "hornbeam/hornbeamlaw19.BagsPartition", spec := "bagsPartition", inPlace := ["internal/bytealg.abigen_runtime_cmpstring", "slices.overlaps[hornbeam/api.Binding]"], unfollowed := true, recurses := true, loops := true, apart := false, narrowed := true }
def BagsPartitionUptoSaid : Prop := bagsPartitionUptoRow.holds Try.pinned (OpenSpec.upto bagsPartitionSpec)

/-- 'hornbeamlaw19.BagsWitness', WHERE WHAT IT READS IS OF BULK AT MOST 1048576: true; the input reads as it did. -/
def bagsWitnessUptoRow : OpenClaim := { program := "ytffecaafklpmhaa", sum := "354d7c7f9c9f04d367386fd68f1aadae01b368d95893619551a67bd7c820bc90", func := "hornbeam/hornbeamlaw19.BagsWitness", spec := "bagsWitness", inPlace := ["internal/bytealg.abigen_runtime_cmpstring", "slices.overlaps[hornbeam/api.Binding]"], unfollowed := true, recurses := true, loops := true, apart := false, narrowed := true }
def BagsWitnessUptoSaid : Prop := bagsWitnessUptoRow.holds Try.pinned (OpenSpec.upto bagsWitnessSpec)

end Rows
end Go.Proofs.Ytffecaafklpmhaa
