/-
  NARROWER THAN 'FOR EVERY INPUT', by the rows' own cells (each row's printed sentence says how): BagsGroups: loops · BagsCalls: loops · BagsAgain: loops · BagsFree: loops · BagsExpands: loops.
  DERIVED. THE GIVEN ROWS OF THIS SEAT. 6 by the template 'for every input the law returns true; each argument reads behind the call as it read before'; 0 by the template 'total and deterministic' (their statements: YtffecaafklpmhaaGreatTotals.lean).
  GIVEN WITH THE SEED: the statements are not yours to turn. If you find one false, say at which input.
  Laid BY PROGRAM, IN A SANDBOX (cutbox-rows.mjs): the forced cells as the released guide's own fill.sh prints them over the translation bc0e477ee68fc70e… (all of the seat's roots in one cut). By AI agents, Wed Nov 11 2026. No macro, syntax, notation, axiom, sorry.
-/
import Derived.Test.YtffecaafklpmhaaGreatChecked
import GoSem.Claim
import GoSem.ClaimJoined
import GoSem.ClaimMapViews
import Derived.JoinedTies
import Derived.KernelRfl
namespace Go.Proofs.YtffecaafklpmhaaGreat
/- THE CELL 'sum', in the pinned program and in every row, IS THE sha256 OF THE DUMP (.gsa) THAT YtffecaafklpmhaaGreatProg.lean LOADS. Nothing in Lean hashes anything: it is a label: what it is worth is what the hold of that sum in a sandbox is worth. -/
noncomputable def Tryz.pinned : Pinned := { name := "ytffecaafklpmhaagreat", sum := "bc0e477ee68fc70e73ec3ee0cd5f4855e7bd02400c8e79849bab85a2691f465b", checked := Tryz.checked }
namespace Rows
def none {H : Type} : Left H := { results := [], args := [] }

/-- 'hornbeamlaw19.BagsGroups': WHATEVER THE INPUT: true; the input reads as it did. -/
def bagsGroupsSpec : ChangeSpec := { name := "bagsGroups", fn := fun _ => fun
  | [d] => { results := [.lit (.bool true)], args := [d] }
  | _ => none }
def bagsGroupsRow : OpenClaim := { program := "ytffecaafklpmhaagreat", sum := "bc0e477ee68fc70e73ec3ee0cd5f4855e7bd02400c8e79849bab85a2691f465b", func := "hornbeam/hornbeamlaw19.BagsGroups", spec := "bagsGroups", inPlace := ["internal/bytealg.abigen_runtime_cmpstring", "slices.overlaps[hornbeam/api.Binding]"], unfollowed := true, recurses := true, loops := true, apart := false }
def BagsGroupsSaid : Prop := bagsGroupsRow.holds Tryz.pinned (OpenSpec.ofChange bagsGroupsSpec)

/-- ITS FALSE NEIGHBOUR: 'it returns false'. Refute it at one input. -/
def bagsGroupsWrong : ChangeSpec := { name := "bagsGroups", fn := fun _ => fun
  | [d] => { results := [.lit (.bool false)], args := [d] }
  | _ => none }
def BagsGroupsWrongFalsely : Prop := bagsGroupsRow.holds Tryz.pinned (OpenSpec.ofChange bagsGroupsWrong)

/-- 'hornbeamlaw19.BagsCalls': WHATEVER THE INPUT: true; the input reads as it did. -/
def bagsCallsSpec : ChangeSpec := { name := "bagsCalls", fn := fun _ => fun
  | [d1, d2, d3] => { results := [.lit (.bool true)], args := [d1, d2, d3] }
  | _ => none }
def bagsCallsRow : OpenClaim := { program := "ytffecaafklpmhaagreat", sum := "bc0e477ee68fc70e73ec3ee0cd5f4855e7bd02400c8e79849bab85a2691f465b", func := "hornbeam/hornbeamlaw19.BagsCalls", spec := "bagsCalls", inPlace := ["internal/bytealg.abigen_runtime_cmpstring", "slices.overlaps[hornbeam/api.Binding]"], unfollowed := true, recurses := true, loops := true, apart := false }
def BagsCallsSaid : Prop := bagsCallsRow.holds Tryz.pinned (OpenSpec.ofChange bagsCallsSpec)

/-- ITS FALSE NEIGHBOUR: 'it returns false'. Refute it at one input. -/
def bagsCallsWrong : ChangeSpec := { name := "bagsCalls", fn := fun _ => fun
  | [d1, d2, d3] => { results := [.lit (.bool false)], args := [d1, d2, d3] }
  | _ => none }
def BagsCallsWrongFalsely : Prop := bagsCallsRow.holds Tryz.pinned (OpenSpec.ofChange bagsCallsWrong)

/-- 'hornbeamlaw19.BagsAgain': WHATEVER THE INPUT: true; the input reads as it did. -/
def bagsAgainSpec : ChangeSpec := { name := "bagsAgain", fn := fun _ => fun
  | [d] => { results := [.lit (.bool true)], args := [d] }
  | _ => none }
def bagsAgainRow : OpenClaim := { program := "ytffecaafklpmhaagreat", sum := "bc0e477ee68fc70e73ec3ee0cd5f4855e7bd02400c8e79849bab85a2691f465b", func := "hornbeam/hornbeamlaw19.BagsAgain", spec := "bagsAgain", inPlace := ["internal/bytealg.abigen_runtime_cmpstring", "slices.overlaps[hornbeam/api.Binding]"], unfollowed := true, recurses := true, loops := true, apart := false }
def BagsAgainSaid : Prop := bagsAgainRow.holds Tryz.pinned (OpenSpec.ofChange bagsAgainSpec)

/-- ITS FALSE NEIGHBOUR: 'it returns false'. Refute it at one input. -/
def bagsAgainWrong : ChangeSpec := { name := "bagsAgain", fn := fun _ => fun
  | [d] => { results := [.lit (.bool false)], args := [d] }
  | _ => none }
def BagsAgainWrongFalsely : Prop := bagsAgainRow.holds Tryz.pinned (OpenSpec.ofChange bagsAgainWrong)

/-- 'hornbeamlaw19.BagsFree': WHATEVER THE INPUT: true; the input reads as it did. -/
def bagsFreeSpec : ChangeSpec := { name := "bagsFree", fn := fun _ => fun
  | [d1, d2] => { results := [.lit (.bool true)], args := [d1, d2] }
  | _ => none }
def bagsFreeRow : OpenClaim := { program := "ytffecaafklpmhaagreat", sum := "bc0e477ee68fc70e73ec3ee0cd5f4855e7bd02400c8e79849bab85a2691f465b", func := "hornbeam/hornbeamlaw19.BagsFree", spec := "bagsFree", inPlace := ["internal/bytealg.abigen_runtime_cmpstring", "slices.overlaps[hornbeam/api.Binding]"], unfollowed := true, recurses := true, loops := true, apart := false }
def BagsFreeSaid : Prop := bagsFreeRow.holds Tryz.pinned (OpenSpec.ofChange bagsFreeSpec)

/-- ITS FALSE NEIGHBOUR: 'it returns false'. Refute it at one input. -/
def bagsFreeWrong : ChangeSpec := { name := "bagsFree", fn := fun _ => fun
  | [d1, d2] => { results := [.lit (.bool false)], args := [d1, d2] }
  | _ => none }
def BagsFreeWrongFalsely : Prop := bagsFreeRow.holds Tryz.pinned (OpenSpec.ofChange bagsFreeWrong)

/-- 'hornbeamlaw19.BagsExpands': WHATEVER THE INPUT: true; the input reads as it did. -/
def bagsExpandsSpec : ChangeSpec := { name := "bagsExpands", fn := fun _ => fun
  | [d] => { results := [.lit (.bool true)], args := [d] }
  | _ => none }
def bagsExpandsRow : OpenClaim := { program := "ytffecaafklpmhaagreat", sum := "bc0e477ee68fc70e73ec3ee0cd5f4855e7bd02400c8e79849bab85a2691f465b", func := "hornbeam/hornbeamlaw19.BagsExpands", spec := "bagsExpands", inPlace := ["internal/bytealg.abigen_runtime_cmpstring", "slices.overlaps[hornbeam/api.Binding]"], unfollowed := true, recurses := true, loops := true, apart := false }
def BagsExpandsSaid : Prop := bagsExpandsRow.holds Tryz.pinned (OpenSpec.ofChange bagsExpandsSpec)

/-- ITS FALSE NEIGHBOUR: 'it returns false'. Refute it at one input. -/
def bagsExpandsWrong : ChangeSpec := { name := "bagsExpands", fn := fun _ => fun
  | [d] => { results := [.lit (.bool false)], args := [d] }
  | _ => none }
def BagsExpandsWrongFalsely : Prop := bagsExpandsRow.holds Tryz.pinned (OpenSpec.ofChange bagsExpandsWrong)

/-- 'hornbeamlaw19.BagsExamples': WHATEVER THE INPUT: true; the input reads as it did. -/
def bagsExamplesSpec : ChangeSpec := { name := "bagsExamples", fn := fun _ => fun
  | [] => { results := [.lit (.bool true)], args := [] }
  | _ => none }
def bagsExamplesRow : OpenClaim := { program := "ytffecaafklpmhaagreat", sum := "bc0e477ee68fc70e73ec3ee0cd5f4855e7bd02400c8e79849bab85a2691f465b", func := "hornbeam/hornbeamlaw19.BagsExamples", spec := "bagsExamples", inPlace := ["internal/bytealg.abigen_runtime_cmpstring", "slices.overlaps[hornbeam/api.Binding]"], unfollowed := true, recurses := true, apart := false }
def BagsExamplesSaid : Prop := bagsExamplesRow.holds Tryz.pinned (OpenSpec.ofChange bagsExamplesSpec)

/-- ITS FALSE NEIGHBOUR: 'it returns false'. Refute it at one input. -/
def bagsExamplesWrong : ChangeSpec := { name := "bagsExamples", fn := fun _ => fun
  | [] => { results := [.lit (.bool false)], args := [] }
  | _ => none }
def BagsExamplesWrongFalsely : Prop := bagsExamplesRow.holds Tryz.pinned (OpenSpec.ofChange bagsExamplesWrong)

/- THE SECOND FORM. 'bulk': how many values and letters a reading holds, each counted each time it is reached (what is shared counts as often as it is met; a slice's spare places count too). A statement '..UptoSaid' is the law's where the arguments, and the package variables that the reading takes, are together of bulk at most 1048576: NARROWER than '..Said'. Prove '..Said' where nothing that the law and all that it calls make is longer than what came in: it says more and counts as full. Else prove '..UptoSaid'. A law counts once. -/
mutual
def uptoBulk {H : Type} : DataW H → Nat
  | .lit (.string bytes) => bytes.length + 1
  | .lit _ => 1
  | .nil => 1
  | .ptr d => uptoBulk d + 1
  | .slice elems spare => uptoBulkAll elems + uptoBulkAll spare + 1
  | .agg parts => uptoBulkAll parts + 1
  | .iface _ d => uptoBulk d + 1
  | .map entries => uptoBulkEntries entries + 1
  | .held _ => 1
def uptoBulkAll {H : Type} : List (DataW H) → Nat
  | [] => 0
  | d :: r => uptoBulk d + uptoBulkAll r
def uptoBulkEntries {H : Type} : List (Lit × DataW H) → Nat
  | [] => 0
  | x :: r => uptoBulkEntry x + uptoBulkEntries r
def uptoBulkEntry {H : Type} : Lit × DataW H → Nat
  | (.string bytes, d) => bytes.length + uptoBulk d + 1
  | (_, d) => uptoBulk d + 1
 end
def uptoSmall : (H : Type) → List (DataW H) → Bool := fun _ ds => decide (uptoBulkAll ds ≤ 1048576)
def OpenSpec.upto (s : _root_.Go.ChangeSpec) : _root_.Go.OpenSpec := { _root_.Go.OpenSpec.ofChange s with cond := some uptoSmall }

/-- 'hornbeamlaw19.BagsGroups', WHERE WHAT IT READS IS OF BULK AT MOST 1048576: true; the input reads as it did. -/
def bagsGroupsUptoRow : OpenClaim := { program := "ytffecaafklpmhaagreat", sum := "bc0e477ee68fc70e73ec3ee0cd5f4855e7bd02400c8e79849bab85a2691f465b", func := "hornbeam/hornbeamlaw19.BagsGroups", spec := "bagsGroups", inPlace := ["internal/bytealg.abigen_runtime_cmpstring", "slices.overlaps[hornbeam/api.Binding]"], unfollowed := true, recurses := true, loops := true, apart := false, narrowed := true }
def BagsGroupsUptoSaid : Prop := bagsGroupsUptoRow.holds Tryz.pinned (OpenSpec.upto bagsGroupsSpec)

/-- 'hornbeamlaw19.BagsCalls', WHERE WHAT IT READS IS OF BULK AT MOST 1048576: true; the input reads as it did. -/
def bagsCallsUptoRow : OpenClaim := { program := "ytffecaafklpmhaagreat", sum := "bc0e477ee68fc70e73ec3ee0cd5f4855e7bd02400c8e79849bab85a2691f465b", func := "hornbeam/hornbeamlaw19.BagsCalls", spec := "bagsCalls", inPlace := ["internal/bytealg.abigen_runtime_cmpstring", "slices.overlaps[hornbeam/api.Binding]"], unfollowed := true, recurses := true, loops := true, apart := false, narrowed := true }
def BagsCallsUptoSaid : Prop := bagsCallsUptoRow.holds Tryz.pinned (OpenSpec.upto bagsCallsSpec)

/-- 'hornbeamlaw19.BagsAgain', WHERE WHAT IT READS IS OF BULK AT MOST 1048576: true; the input reads as it did. -/
def bagsAgainUptoRow : OpenClaim := { program := "ytffecaafklpmhaagreat", sum := "bc0e477ee68fc70e73ec3ee0cd5f4855e7bd02400c8e79849bab85a2691f465b", func := "hornbeam/hornbeamlaw19.BagsAgain", spec := "bagsAgain", inPlace := ["internal/bytealg.abigen_runtime_cmpstring", "slices.overlaps[hornbeam/api.Binding]"], unfollowed := true, recurses := true, loops := true, apart := false, narrowed := true }
def BagsAgainUptoSaid : Prop := bagsAgainUptoRow.holds Tryz.pinned (OpenSpec.upto bagsAgainSpec)

/-- 'hornbeamlaw19.BagsFree', WHERE WHAT IT READS IS OF BULK AT MOST 1048576: true; the input reads as it did. -/
def bagsFreeUptoRow : OpenClaim := { program := "ytffecaafklpmhaagreat", sum := "bc0e477ee68fc70e73ec3ee0cd5f4855e7bd02400c8e79849bab85a2691f465b", func := "hornbeam/hornbeamlaw19.BagsFree", spec := "bagsFree", inPlace := ["internal/bytealg.abigen_runtime_cmpstring", "slices.overlaps[hornbeam/api.Binding]"], unfollowed := true, recurses := true, loops := true, apart := false, narrowed := true }
def BagsFreeUptoSaid : Prop := bagsFreeUptoRow.holds Tryz.pinned (OpenSpec.upto bagsFreeSpec)

/-- 'hornbeamlaw19.BagsExpands', WHERE WHAT IT READS IS OF BULK AT MOST 1048576: true; the input reads as it did. -/
def bagsExpandsUptoRow : OpenClaim := { program := "ytffecaafklpmhaagreat", sum := "bc0e477ee68fc70e73ec3ee0cd5f4855e7bd02400c8e79849bab85a2691f465b", func := "hornbeam/hornbeamlaw19.BagsExpands", spec := "bagsExpands", inPlace := ["internal/bytealg.abigen_runtime_cmpstring", "slices.overlaps[hornbeam/api.Binding]"], unfollowed := true, recurses := true, loops := true, apart := false, narrowed := true }
def BagsExpandsUptoSaid : Prop := bagsExpandsUptoRow.holds Tryz.pinned (OpenSpec.upto bagsExpandsSpec)

/-- 'hornbeamlaw19.BagsExamples', WHERE WHAT IT READS IS OF BULK AT MOST 1048576: true; the input reads as it did. -/
def bagsExamplesUptoRow : OpenClaim := { program := "ytffecaafklpmhaagreat", sum := "bc0e477ee68fc70e73ec3ee0cd5f4855e7bd02400c8e79849bab85a2691f465b", func := "hornbeam/hornbeamlaw19.BagsExamples", spec := "bagsExamples", inPlace := ["internal/bytealg.abigen_runtime_cmpstring", "slices.overlaps[hornbeam/api.Binding]"], unfollowed := true, recurses := true, apart := false, narrowed := true }
def BagsExamplesUptoSaid : Prop := bagsExamplesUptoRow.holds Tryz.pinned (OpenSpec.upto bagsExamplesSpec)

end Rows
end Go.Proofs.YtffecaafklpmhaaGreat
