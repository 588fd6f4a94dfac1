/-
  NARROWER THAN 'FOR EVERY INPUT', by the rows' own cells (each row's printed sentence says how): OrderCompares: loops · OrderSorts: loops · OrderRanks: loops · OrderTotal: loops · OrderArguments: loops · OrderSorted: loops · OrderKeyed: loops · OrderRanked: loops.
  DERIVED. THE GIVEN ROWS OF THIS SEAT. 9 by the template 'for every input the law returns true; each argument reads behind the call as it read before'; 0 by the template 'total and deterministic' (their statements: YteaehiceghhajaaTotals.lean).
  GIVEN WITH THE SEED: the statements are not yours to turn. If you find one false, say at which input.
  Laid BY PROGRAM, IN A SANDBOX (cutbox-rows.mjs): the forced cells as the released guide's own fill.sh prints them over the translation 338f90ce3d581c7a… (all of the seat's roots in one cut). By AI agents, Wed Nov 11 2026. No macro, syntax, notation, axiom, sorry.
-/
import Derived.Test.YteaehiceghhajaaChecked
import GoSem.Claim
import GoSem.ClaimJoined
import GoSem.ClaimMapViews
import Derived.JoinedTies
import Derived.KernelRfl
namespace Go.Proofs.Yteaehiceghhajaa
/- THE CELL 'sum', in the pinned program and in every row, IS THE sha256 OF THE DUMP (.gsa) THAT YteaehiceghhajaaProg.lean LOADS. Nothing in Lean hashes anything: it is a label: what it is worth is what the hold of that sum in a sandbox is worth. -/
noncomputable def Try.pinned : Pinned := { name := "yteaehiceghhajaa", sum := "338f90ce3d581c7a01168daca1bddb58d4eef8b866e8d74c1e359c9f3d2cabf8", checked := Try.checked }
namespace Rows
def none {H : Type} : Left H := { results := [], args := [] }

/-- 'hornbeamlaw04.OrderCompares': WHATEVER THE INPUT: true; the input reads as it did. -/
def orderComparesSpec : ChangeSpec := { name := "orderCompares", fn := fun _ => fun
  | [d1, d2] => { results := [.lit (.bool true)], args := [d1, d2] }
  | _ => none }
def orderComparesRow : OpenClaim := { program := "yteaehiceghhajaa", sum := "338f90ce3d581c7a01168daca1bddb58d4eef8b866e8d74c1e359c9f3d2cabf8", func := "hornbeam/hornbeamlaw04.OrderCompares", spec := "orderCompares", inPlace := ["internal/bytealg.abigen_runtime_cmpstring"], unfollowed := true, recurses := true, loops := true, apart := false }
def OrderComparesSaid : Prop := orderComparesRow.holds Try.pinned (OpenSpec.ofChange orderComparesSpec)

/-- ITS FALSE NEIGHBOUR: 'it returns false'. Refute it at one input. -/
def orderComparesWrong : ChangeSpec := { name := "orderCompares", fn := fun _ => fun
  | [d1, d2] => { results := [.lit (.bool false)], args := [d1, d2] }
  | _ => none }
def OrderComparesWrongFalsely : Prop := orderComparesRow.holds Try.pinned (OpenSpec.ofChange orderComparesWrong)

/-- 'hornbeamlaw04.OrderSorts': WHATEVER THE INPUT: true; the input reads as it did. -/
def orderSortsSpec : ChangeSpec := { name := "orderSorts", fn := fun _ => fun
  | [d] => { results := [.lit (.bool true)], args := [d] }
  | _ => none }
def orderSortsRow : OpenClaim := { program := "yteaehiceghhajaa", sum := "338f90ce3d581c7a01168daca1bddb58d4eef8b866e8d74c1e359c9f3d2cabf8", func := "hornbeam/hornbeamlaw04.OrderSorts", spec := "orderSorts", inPlace := ["internal/bytealg.abigen_runtime_cmpstring"], unfollowed := true, recurses := true, loops := true, apart := false }
def OrderSortsSaid : Prop := orderSortsRow.holds Try.pinned (OpenSpec.ofChange orderSortsSpec)

/-- ITS FALSE NEIGHBOUR: 'it returns false'. Refute it at one input. -/
def orderSortsWrong : ChangeSpec := { name := "orderSorts", fn := fun _ => fun
  | [d] => { results := [.lit (.bool false)], args := [d] }
  | _ => none }
def OrderSortsWrongFalsely : Prop := orderSortsRow.holds Try.pinned (OpenSpec.ofChange orderSortsWrong)

/-- 'hornbeamlaw04.OrderRanks': WHATEVER THE INPUT: true; the input reads as it did. -/
def orderRanksSpec : ChangeSpec := { name := "orderRanks", fn := fun _ => fun
  | [d1, d2] => { results := [.lit (.bool true)], args := [d1, d2] }
  | _ => none }
def orderRanksRow : OpenClaim := { program := "yteaehiceghhajaa", sum := "338f90ce3d581c7a01168daca1bddb58d4eef8b866e8d74c1e359c9f3d2cabf8", func := "hornbeam/hornbeamlaw04.OrderRanks", spec := "orderRanks", inPlace := ["internal/bytealg.abigen_runtime_cmpstring"], unfollowed := true, recurses := true, loops := true, apart := false }
def OrderRanksSaid : Prop := orderRanksRow.holds Try.pinned (OpenSpec.ofChange orderRanksSpec)

/-- ITS FALSE NEIGHBOUR: 'it returns false'. Refute it at one input. -/
def orderRanksWrong : ChangeSpec := { name := "orderRanks", fn := fun _ => fun
  | [d1, d2] => { results := [.lit (.bool false)], args := [d1, d2] }
  | _ => none }
def OrderRanksWrongFalsely : Prop := orderRanksRow.holds Try.pinned (OpenSpec.ofChange orderRanksWrong)

/-- 'hornbeamlaw04.OrderTotal': WHATEVER THE INPUT: true; the input reads as it did. -/
def orderTotalSpec : ChangeSpec := { name := "orderTotal", fn := fun _ => fun
  | [d1, d2, d3] => { results := [.lit (.bool true)], args := [d1, d2, d3] }
  | _ => none }
def orderTotalRow : OpenClaim := { program := "yteaehiceghhajaa", sum := "338f90ce3d581c7a01168daca1bddb58d4eef8b866e8d74c1e359c9f3d2cabf8", func := "hornbeam/hornbeamlaw04.OrderTotal", spec := "orderTotal", inPlace := ["internal/bytealg.abigen_runtime_cmpstring"], unfollowed := true, recurses := true, loops := true, apart := false }
def OrderTotalSaid : Prop := orderTotalRow.holds Try.pinned (OpenSpec.ofChange orderTotalSpec)

/-- ITS FALSE NEIGHBOUR: 'it returns false'. Refute it at one input. -/
def orderTotalWrong : ChangeSpec := { name := "orderTotal", fn := fun _ => fun
  | [d1, d2, d3] => { results := [.lit (.bool false)], args := [d1, d2, d3] }
  | _ => none }
def OrderTotalWrongFalsely : Prop := orderTotalRow.holds Try.pinned (OpenSpec.ofChange orderTotalWrong)

/-- 'hornbeamlaw04.OrderArguments': WHATEVER THE INPUT: true; the input reads as it did. -/
def orderArgumentsSpec : ChangeSpec := { name := "orderArguments", fn := fun _ => fun
  | [d1, d2, d3, d4, d5] => { results := [.lit (.bool true)], args := [d1, d2, d3, d4, d5] }
  | _ => none }
def orderArgumentsRow : OpenClaim := { program := "yteaehiceghhajaa", sum := "338f90ce3d581c7a01168daca1bddb58d4eef8b866e8d74c1e359c9f3d2cabf8", func := "hornbeam/hornbeamlaw04.OrderArguments", spec := "orderArguments", inPlace := ["internal/bytealg.abigen_runtime_cmpstring"], unfollowed := true, recurses := true, loops := true, apart := false }
def OrderArgumentsSaid : Prop := orderArgumentsRow.holds Try.pinned (OpenSpec.ofChange orderArgumentsSpec)

/-- ITS FALSE NEIGHBOUR: 'it returns false'. Refute it at one input. -/
def orderArgumentsWrong : ChangeSpec := { name := "orderArguments", fn := fun _ => fun
  | [d1, d2, d3, d4, d5] => { results := [.lit (.bool false)], args := [d1, d2, d3, d4, d5] }
  | _ => none }
def OrderArgumentsWrongFalsely : Prop := orderArgumentsRow.holds Try.pinned (OpenSpec.ofChange orderArgumentsWrong)

/-- 'hornbeamlaw04.OrderSorted': WHATEVER THE INPUT: true; the input reads as it did. -/
def orderSortedSpec : ChangeSpec := { name := "orderSorted", fn := fun _ => fun
  | [d1, d2] => { results := [.lit (.bool true)], args := [d1, d2] }
  | _ => none }
def orderSortedRow : OpenClaim := { program := "yteaehiceghhajaa", sum := "338f90ce3d581c7a01168daca1bddb58d4eef8b866e8d74c1e359c9f3d2cabf8", func := "hornbeam/hornbeamlaw04.OrderSorted", spec := "orderSorted", inPlace := ["internal/bytealg.abigen_runtime_cmpstring"], unfollowed := true, recurses := true, loops := true, apart := false }
def OrderSortedSaid : Prop := orderSortedRow.holds Try.pinned (OpenSpec.ofChange orderSortedSpec)

/-- ITS FALSE NEIGHBOUR: 'it returns false'. Refute it at one input. -/
def orderSortedWrong : ChangeSpec := { name := "orderSorted", fn := fun _ => fun
  | [d1, d2] => { results := [.lit (.bool false)], args := [d1, d2] }
  | _ => none }
def OrderSortedWrongFalsely : Prop := orderSortedRow.holds Try.pinned (OpenSpec.ofChange orderSortedWrong)

/-- 'hornbeamlaw04.OrderKeyed': WHATEVER THE INPUT: true; the input reads as it did. -/
def orderKeyedSpec : ChangeSpec := { name := "orderKeyed", fn := fun _ => fun
  | [d] => { results := [.lit (.bool true)], args := [d] }
  | _ => none }
def orderKeyedRow : OpenClaim := { program := "yteaehiceghhajaa", sum := "338f90ce3d581c7a01168daca1bddb58d4eef8b866e8d74c1e359c9f3d2cabf8", func := "hornbeam/hornbeamlaw04.OrderKeyed", spec := "orderKeyed", inPlace := ["internal/bytealg.abigen_runtime_cmpstring"], unfollowed := true, recurses := true, loops := true, apart := false }
def OrderKeyedSaid : Prop := orderKeyedRow.holds Try.pinned (OpenSpec.ofChange orderKeyedSpec)

/-- ITS FALSE NEIGHBOUR: 'it returns false'. Refute it at one input. -/
def orderKeyedWrong : ChangeSpec := { name := "orderKeyed", fn := fun _ => fun
  | [d] => { results := [.lit (.bool false)], args := [d] }
  | _ => none }
def OrderKeyedWrongFalsely : Prop := orderKeyedRow.holds Try.pinned (OpenSpec.ofChange orderKeyedWrong)

/-- 'hornbeamlaw04.OrderRanked': WHATEVER THE INPUT: true; the input reads as it did. -/
def orderRankedSpec : ChangeSpec := { name := "orderRanked", fn := fun _ => fun
  | [d1, d2] => { results := [.lit (.bool true)], args := [d1, d2] }
  | _ => none }
def orderRankedRow : OpenClaim := { program := "yteaehiceghhajaa", sum := "338f90ce3d581c7a01168daca1bddb58d4eef8b866e8d74c1e359c9f3d2cabf8", func := "hornbeam/hornbeamlaw04.OrderRanked", spec := "orderRanked", inPlace := ["internal/bytealg.abigen_runtime_cmpstring"], unfollowed := true, recurses := true, loops := true, apart := false }
def OrderRankedSaid : Prop := orderRankedRow.holds Try.pinned (OpenSpec.ofChange orderRankedSpec)

/-- ITS FALSE NEIGHBOUR: 'it returns false'. Refute it at one input. -/
def orderRankedWrong : ChangeSpec := { name := "orderRanked", fn := fun _ => fun
  | [d1, d2] => { results := [.lit (.bool false)], args := [d1, d2] }
  | _ => none }
def OrderRankedWrongFalsely : Prop := orderRankedRow.holds Try.pinned (OpenSpec.ofChange orderRankedWrong)

/-- 'hornbeamlaw04.OrderKnown': WHATEVER THE INPUT: true; the input reads as it did. -/
def orderKnownSpec : ChangeSpec := { name := "orderKnown", fn := fun _ => fun
  | [] => { results := [.lit (.bool true)], args := [] }
  | _ => none }
def orderKnownRow : OpenClaim := { program := "yteaehiceghhajaa", sum := "338f90ce3d581c7a01168daca1bddb58d4eef8b866e8d74c1e359c9f3d2cabf8", func := "hornbeam/hornbeamlaw04.OrderKnown", spec := "orderKnown", inPlace := ["internal/bytealg.abigen_runtime_cmpstring"], unfollowed := true, recurses := true, apart := false }
def OrderKnownSaid : Prop := orderKnownRow.holds Try.pinned (OpenSpec.ofChange orderKnownSpec)

/-- ITS FALSE NEIGHBOUR: 'it returns false'. Refute it at one input. -/
def orderKnownWrong : ChangeSpec := { name := "orderKnown", fn := fun _ => fun
  | [] => { results := [.lit (.bool false)], args := [] }
  | _ => none }
def OrderKnownWrongFalsely : Prop := orderKnownRow.holds Try.pinned (OpenSpec.ofChange orderKnownWrong)

/- THE SECOND FORM. 'bulk': how many values and letters a reading holds, each counted each time it is reached (what is shared counts as often as it is met; a slice's spare places count too). A statement '..UptoSaid' is the law's where the arguments, and the package variables that the reading takes, are together of bulk at most 1048576: NARROWER than '..Said'. Prove '..Said' where nothing that the law and all that it calls make is longer than what came in: it says more and counts as full. Else prove '..UptoSaid'. A law counts once. -/
mutual
def uptoBulk {H : Type} : DataW H → Nat
  | .lit (.string bytes) => bytes.length + 1
  | .lit _ => 1
  | .nil => 1
  | .ptr d => uptoBulk d + 1
  | .slice elems spare => uptoBulkAll elems + uptoBulkAll spare + 1
  | .agg parts => uptoBulkAll parts + 1
  | .iface _ d => uptoBulk d + 1
  | .map entries => uptoBulkEntries entries + 1
  | .held _ => 1
def uptoBulkAll {H : Type} : List (DataW H) → Nat
  | [] => 0
  | d :: r => uptoBulk d + uptoBulkAll r
def uptoBulkEntries {H : Type} : List (Lit × DataW H) → Nat
  | [] => 0
  | x :: r => uptoBulkEntry x + uptoBulkEntries r
def uptoBulkEntry {H : Type} : Lit × DataW H → Nat
  | (.string bytes, d) => bytes.length + uptoBulk d + 1
  | (_, d) => uptoBulk d + 1
 end
def uptoSmall : (H : Type) → List (DataW H) → Bool := fun _ ds => decide (uptoBulkAll ds ≤ 1048576)
def OpenSpec.upto (s : _root_.Go.ChangeSpec) : _root_.Go.OpenSpec := { _root_.Go.OpenSpec.ofChange s with cond := some uptoSmall }

/-- 'hornbeamlaw04.OrderCompares', WHERE WHAT IT READS IS OF BULK AT MOST 1048576: true; the input reads as it did. -/
def orderComparesUptoRow : OpenClaim := { program := "yteaehiceghhajaa", sum := "338f90ce3d581c7a01168daca1bddb58d4eef8b866e8d74c1e359c9f3d2cabf8", func := "hornbeam/hornbeamlaw04.OrderCompares", spec := "orderCompares", inPlace := ["internal/bytealg.abigen_runtime_cmpstring"], unfollowed := true, recurses := true, loops := true, apart := false, narrowed := true }
def OrderComparesUptoSaid : Prop := orderComparesUptoRow.holds Try.pinned (OpenSpec.upto orderComparesSpec)

/-- 'hornbeamlaw04.OrderSorts', WHERE WHAT IT READS IS OF BULK AT MOST 1048576: true; the input reads as it did. -/
def orderSortsUptoRow : OpenClaim := { program := "yteaehiceghhajaa", sum := "338f90ce3d581c7a01168daca1bddb58d4eef8b866e8d74c1e359c9f3d2cabf8", func := "hornbeam/hornbeamlaw04.OrderSorts", spec := "orderSorts", inPlace := ["internal/bytealg.abigen_runtime_cmpstring"], unfollowed := true, recurses := true, loops := true, apart := false, narrowed := true }
def OrderSortsUptoSaid : Prop := orderSortsUptoRow.holds Try.pinned (OpenSpec.upto orderSortsSpec)

/-- 'hornbeamlaw04.OrderRanks', WHERE WHAT IT READS IS OF BULK AT MOST 1048576: true; the input reads as it did. -/
def orderRanksUptoRow : OpenClaim := { program := "yteaehiceghhajaa", sum := "338f90ce3d581c7a01168daca1bddb58d4eef8b866e8d74c1e359c9f3d2cabf8", func := "hornbeam/hornbeamlaw04.OrderRanks", spec := "orderRanks", inPlace := ["internal/bytealg.abigen_runtime_cmpstring"], unfollowed := true, recurses := true, loops := true, apart := false, narrowed := true }
def OrderRanksUptoSaid : Prop := orderRanksUptoRow.holds Try.pinned (OpenSpec.upto orderRanksSpec)

/-- 'hornbeamlaw04.OrderTotal', WHERE WHAT IT READS IS OF BULK AT MOST 1048576: true; the input reads as it did. -/
def orderTotalUptoRow : OpenClaim := { program := "yteaehiceghhajaa", sum := "338f90ce3d581c7a01168daca1bddb58d4eef8b866e8d74c1e359c9f3d2cabf8", func := "hornbeam/hornbeamlaw04.OrderTotal", spec := "orderTotal", inPlace := ["internal/bytealg.abigen_runtime_cmpstring"], unfollowed := true, recurses := true, loops := true, apart := false, narrowed := true }
def OrderTotalUptoSaid : Prop := orderTotalUptoRow.holds Try.pinned (OpenSpec.upto orderTotalSpec)

/-- 'hornbeamlaw04.OrderArguments', WHERE WHAT IT READS IS OF BULK AT MOST 1048576: true; the input reads as it did. -/
def orderArgumentsUptoRow : OpenClaim := { program := "yteaehiceghhajaa", sum := "338f90ce3d581c7a01168daca1bddb58d4eef8b866e8d74c1e359c9f3d2cabf8", func := "hornbeam/hornbeamlaw04.OrderArguments", spec := "orderArguments", inPlace := ["internal/bytealg.abigen_runtime_cmpstring"], unfollowed := true, recurses := true, loops := true, apart := false, narrowed := true }
def OrderArgumentsUptoSaid : Prop := orderArgumentsUptoRow.holds Try.pinned (OpenSpec.upto orderArgumentsSpec)

/-- 'hornbeamlaw04.OrderSorted', WHERE WHAT IT READS IS OF BULK AT MOST 1048576: true; the input reads as it did. -/
def orderSortedUptoRow : OpenClaim := { program := "yteaehiceghhajaa", sum := "338f90ce3d581c7a01168daca1bddb58d4eef8b866e8d74c1e359c9f3d2cabf8", func := "hornbeam/hornbeamlaw04.OrderSorted", spec := "orderSorted", inPlace := ["internal/bytealg.abigen_runtime_cmpstring"], unfollowed := true, recurses := true, loops := true, apart := false, narrowed := true }
def OrderSortedUptoSaid : Prop := orderSortedUptoRow.holds Try.pinned (OpenSpec.upto orderSortedSpec)

/-- 'hornbeamlaw04.OrderKeyed', WHERE WHAT IT READS IS OF BULK AT MOST 1048576: true; the input reads as it did. -/
def orderKeyedUptoRow : OpenClaim := { program := "yteaehiceghhajaa", sum := "338f90ce3d581c7a01168daca1bddb58d4eef8b866e8d74c1e359c9f3d2cabf8", func := "hornbeam/hornbeamlaw04.OrderKeyed", spec := "orderKeyed", inPlace := ["internal/bytealg.abigen_runtime_cmpstring"], unfollowed := true, recurses := true, loops := true, apart := false, narrowed := true }
def OrderKeyedUptoSaid : Prop := orderKeyedUptoRow.holds Try.pinned (OpenSpec.upto orderKeyedSpec)

/-- 'hornbeamlaw04.OrderRanked', WHERE WHAT IT READS IS OF BULK AT MOST 1048576: true; the input reads as it did. -/
def orderRankedUptoRow : OpenClaim := { program := "yteaehiceghhajaa", sum := "338f90ce3d581c7a01168daca1bddb58d4eef8b866e8d74c1e359c9f3d2cabf8", func := "hornbeam/hornbeamlaw04.OrderRanked", spec := "orderRanked", inPlace := ["internal/bytealg.abigen_runtime_cmpstring"], unfollowed := true, recurses := true, loops := true, apart := false, narrowed := true }
def OrderRankedUptoSaid : Prop := orderRankedUptoRow.holds Try.pinned (OpenSpec.upto orderRankedSpec)

/-- 'hornbeamlaw04.OrderKnown', WHERE WHAT IT READS IS OF BULK AT MOST 1048576: true; the input reads as it did. -/
def orderKnownUptoRow : OpenClaim := { program := "yteaehiceghhajaa", sum := "338f90ce3d581c7a01168daca1bddb58d4eef8b866e8d74c1e359c9f3d2cabf8", func := "hornbeam/hornbeamlaw04.OrderKnown", spec := "orderKnown", inPlace := ["internal/bytealg.abigen_runtime_cmpstring"], unfollowed := true, recurses := true, apart := false, narrowed := true }
def OrderKnownUptoSaid : Prop := orderKnownUptoRow.holds Try.pinned (OpenSpec.upto orderKnownSpec)

end Rows
end Go.Proofs.Yteaehiceghhajaa
