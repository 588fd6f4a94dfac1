/-
  NARROWER THAN 'FOR EVERY INPUT', by the rows' own cells (each row's printed sentence says how): SubstUnifies: loops · SubstMatches: loops · SubstUnifier: loops · SubstGeneral: loops · SubstMatched: loops · SubstResolved: loops · SubstLooks: loops.
  DERIVED. THE GIVEN ROWS OF THIS SEAT. 7 by the template 'for every input the law returns true; each argument reads behind the call as it read before'; 0 by the template 'total and deterministic' (their statements: YtenkiofpobeilaaTotals.lean).
  GIVEN WITH THE SEED: the statements are not yours to turn. If you find one false, say at which input.
  Laid BY PROGRAM, IN A SANDBOX (cutbox-rows.mjs): the forced cells as the released guide's own fill.sh prints them over the translation 5111fc95b860f616… (all of the seat's roots in one cut). By AI agents, Wed Nov 11 2026. No macro, syntax, notation, axiom, sorry.
-/
import Derived.Test.YtenkiofpobeilaaChecked
import GoSem.Claim
import GoSem.ClaimJoined
import GoSem.ClaimMapViews
import Derived.JoinedTies
import Derived.KernelRfl
namespace Go.Proofs.Ytenkiofpobeilaa
/- THE CELL 'sum', in the pinned program and in every row, IS THE sha256 OF THE DUMP (.gsa) THAT YtenkiofpobeilaaProg.lean LOADS. Nothing in Lean hashes anything: it is a label: what it is worth is what the hold of that sum in a sandbox is worth. -/
noncomputable def Try.pinned : Pinned := { name := "ytenkiofpobeilaa", sum := "5111fc95b860f616a9da053aecefdad75312939c85436c3560ab0326a938c749", checked := Try.checked }
namespace Rows
def none {H : Type} : Left H := { results := [], args := [] }

/-- 'hornbeamlaw05.SubstUnifies': WHATEVER THE INPUT: true; the input reads as it did. -/
def substUnifiesSpec : ChangeSpec := { name := "substUnifies", fn := fun _ => fun
  | [d1, d2, d3] => { results := [.lit (.bool true)], args := [d1, d2, d3] }
  | _ => none }
def substUnifiesRow : OpenClaim := { program := "ytenkiofpobeilaa", sum := "5111fc95b860f616a9da053aecefdad75312939c85436c3560ab0326a938c749", func := "hornbeam/hornbeamlaw05.SubstUnifies", spec := "substUnifies", inPlace := ["slices.overlaps[hornbeam/api.Binding]"], unfollowed := true, recurses := true, loops := true, apart := false }
def SubstUnifiesSaid : Prop := substUnifiesRow.holds Try.pinned (OpenSpec.ofChange substUnifiesSpec)

/-- ITS FALSE NEIGHBOUR: 'it returns false'. Refute it at one input. -/
def substUnifiesWrong : ChangeSpec := { name := "substUnifies", fn := fun _ => fun
  | [d1, d2, d3] => { results := [.lit (.bool false)], args := [d1, d2, d3] }
  | _ => none }
def SubstUnifiesWrongFalsely : Prop := substUnifiesRow.holds Try.pinned (OpenSpec.ofChange substUnifiesWrong)

/-- 'hornbeamlaw05.SubstMatches': WHATEVER THE INPUT: true; the input reads as it did. -/
def substMatchesSpec : ChangeSpec := { name := "substMatches", fn := fun _ => fun
  | [d1, d2] => { results := [.lit (.bool true)], args := [d1, d2] }
  | _ => none }
def substMatchesRow : OpenClaim := { program := "ytenkiofpobeilaa", sum := "5111fc95b860f616a9da053aecefdad75312939c85436c3560ab0326a938c749", func := "hornbeam/hornbeamlaw05.SubstMatches", spec := "substMatches", inPlace := ["slices.overlaps[hornbeam/api.Binding]"], unfollowed := true, recurses := true, loops := true, apart := false }
def SubstMatchesSaid : Prop := substMatchesRow.holds Try.pinned (OpenSpec.ofChange substMatchesSpec)

/-- ITS FALSE NEIGHBOUR: 'it returns false'. Refute it at one input. -/
def substMatchesWrong : ChangeSpec := { name := "substMatches", fn := fun _ => fun
  | [d1, d2] => { results := [.lit (.bool false)], args := [d1, d2] }
  | _ => none }
def SubstMatchesWrongFalsely : Prop := substMatchesRow.holds Try.pinned (OpenSpec.ofChange substMatchesWrong)

/-- 'hornbeamlaw05.SubstUnifier': WHATEVER THE INPUT: true; the input reads as it did. -/
def substUnifierSpec : ChangeSpec := { name := "substUnifier", fn := fun _ => fun
  | [d1, d2, d3] => { results := [.lit (.bool true)], args := [d1, d2, d3] }
  | _ => none }
def substUnifierRow : OpenClaim := { program := "ytenkiofpobeilaa", sum := "5111fc95b860f616a9da053aecefdad75312939c85436c3560ab0326a938c749", func := "hornbeam/hornbeamlaw05.SubstUnifier", spec := "substUnifier", inPlace := ["slices.overlaps[hornbeam/api.Binding]"], unfollowed := true, recurses := true, loops := true, apart := false }
def SubstUnifierSaid : Prop := substUnifierRow.holds Try.pinned (OpenSpec.ofChange substUnifierSpec)

/-- ITS FALSE NEIGHBOUR: 'it returns false'. Refute it at one input. -/
def substUnifierWrong : ChangeSpec := { name := "substUnifier", fn := fun _ => fun
  | [d1, d2, d3] => { results := [.lit (.bool false)], args := [d1, d2, d3] }
  | _ => none }
def SubstUnifierWrongFalsely : Prop := substUnifierRow.holds Try.pinned (OpenSpec.ofChange substUnifierWrong)

/-- 'hornbeamlaw05.SubstGeneral': WHATEVER THE INPUT: true; the input reads as it did. -/
def substGeneralSpec : ChangeSpec := { name := "substGeneral", fn := fun _ => fun
  | [d1, d2, d3] => { results := [.lit (.bool true)], args := [d1, d2, d3] }
  | _ => none }
def substGeneralRow : OpenClaim := { program := "ytenkiofpobeilaa", sum := "5111fc95b860f616a9da053aecefdad75312939c85436c3560ab0326a938c749", func := "hornbeam/hornbeamlaw05.SubstGeneral", spec := "substGeneral", inPlace := ["slices.overlaps[hornbeam/api.Binding]"], unfollowed := true, recurses := true, loops := true, apart := false }
def SubstGeneralSaid : Prop := substGeneralRow.holds Try.pinned (OpenSpec.ofChange substGeneralSpec)

/-- ITS FALSE NEIGHBOUR: 'it returns false'. Refute it at one input. -/
def substGeneralWrong : ChangeSpec := { name := "substGeneral", fn := fun _ => fun
  | [d1, d2, d3] => { results := [.lit (.bool false)], args := [d1, d2, d3] }
  | _ => none }
def SubstGeneralWrongFalsely : Prop := substGeneralRow.holds Try.pinned (OpenSpec.ofChange substGeneralWrong)

/-- 'hornbeamlaw05.SubstMatched': WHATEVER THE INPUT: true; the input reads as it did. -/
def substMatchedSpec : ChangeSpec := { name := "substMatched", fn := fun _ => fun
  | [d1, d2, d3] => { results := [.lit (.bool true)], args := [d1, d2, d3] }
  | _ => none }
def substMatchedRow : OpenClaim := { program := "ytenkiofpobeilaa", sum := "5111fc95b860f616a9da053aecefdad75312939c85436c3560ab0326a938c749", func := "hornbeam/hornbeamlaw05.SubstMatched", spec := "substMatched", inPlace := ["slices.overlaps[hornbeam/api.Binding]"], unfollowed := true, recurses := true, loops := true, apart := false }
def SubstMatchedSaid : Prop := substMatchedRow.holds Try.pinned (OpenSpec.ofChange substMatchedSpec)

/-- ITS FALSE NEIGHBOUR: 'it returns false'. Refute it at one input. -/
def substMatchedWrong : ChangeSpec := { name := "substMatched", fn := fun _ => fun
  | [d1, d2, d3] => { results := [.lit (.bool false)], args := [d1, d2, d3] }
  | _ => none }
def SubstMatchedWrongFalsely : Prop := substMatchedRow.holds Try.pinned (OpenSpec.ofChange substMatchedWrong)

/-- 'hornbeamlaw05.SubstResolved': WHATEVER THE INPUT: true; the input reads as it did. -/
def substResolvedSpec : ChangeSpec := { name := "substResolved", fn := fun _ => fun
  | [d1, d2, d3] => { results := [.lit (.bool true)], args := [d1, d2, d3] }
  | _ => none }
def substResolvedRow : OpenClaim := { program := "ytenkiofpobeilaa", sum := "5111fc95b860f616a9da053aecefdad75312939c85436c3560ab0326a938c749", func := "hornbeam/hornbeamlaw05.SubstResolved", spec := "substResolved", inPlace := ["slices.overlaps[hornbeam/api.Binding]"], unfollowed := true, recurses := true, loops := true, apart := false }
def SubstResolvedSaid : Prop := substResolvedRow.holds Try.pinned (OpenSpec.ofChange substResolvedSpec)

/-- ITS FALSE NEIGHBOUR: 'it returns false'. Refute it at one input. -/
def substResolvedWrong : ChangeSpec := { name := "substResolved", fn := fun _ => fun
  | [d1, d2, d3] => { results := [.lit (.bool false)], args := [d1, d2, d3] }
  | _ => none }
def SubstResolvedWrongFalsely : Prop := substResolvedRow.holds Try.pinned (OpenSpec.ofChange substResolvedWrong)

/-- 'hornbeamlaw05.SubstLooks': WHATEVER THE INPUT: true; the input reads as it did. -/
def substLooksSpec : ChangeSpec := { name := "substLooks", fn := fun _ => fun
  | [d1, d2, d3] => { results := [.lit (.bool true)], args := [d1, d2, d3] }
  | _ => none }
def substLooksRow : OpenClaim := { program := "ytenkiofpobeilaa", sum := "5111fc95b860f616a9da053aecefdad75312939c85436c3560ab0326a938c749", func := "hornbeam/hornbeamlaw05.SubstLooks", spec := "substLooks", inPlace := ["slices.overlaps[hornbeam/api.Binding]"], unfollowed := true, recurses := true, loops := true, apart := false }
def SubstLooksSaid : Prop := substLooksRow.holds Try.pinned (OpenSpec.ofChange substLooksSpec)

/-- ITS FALSE NEIGHBOUR: 'it returns false'. Refute it at one input. -/
def substLooksWrong : ChangeSpec := { name := "substLooks", fn := fun _ => fun
  | [d1, d2, d3] => { results := [.lit (.bool false)], args := [d1, d2, d3] }
  | _ => none }
def SubstLooksWrongFalsely : Prop := substLooksRow.holds Try.pinned (OpenSpec.ofChange substLooksWrong)

/- THE SECOND FORM. 'bulk': how many values and letters a reading holds, each counted each time it is reached (what is shared counts as often as it is met; a slice's spare places count too). A statement '..UptoSaid' is the law's where the arguments, and the package variables that the reading takes, are together of bulk at most 1048576: NARROWER than '..Said'. Prove '..Said' where nothing that the law and all that it calls make is longer than what came in: it says more and counts as full. Else prove '..UptoSaid'. A law counts once. -/
mutual
def uptoBulk {H : Type} : DataW H → Nat
  | .lit (.string bytes) => bytes.length + 1
  | .lit _ => 1
  | .nil => 1
  | .ptr d => uptoBulk d + 1
  | .slice elems spare => uptoBulkAll elems + uptoBulkAll spare + 1
  | .agg parts => uptoBulkAll parts + 1
  | .iface _ d => uptoBulk d + 1
  | .map entries => uptoBulkEntries entries + 1
  | .held _ => 1
def uptoBulkAll {H : Type} : List (DataW H) → Nat
  | [] => 0
  | d :: r => uptoBulk d + uptoBulkAll r
def uptoBulkEntries {H : Type} : List (Lit × DataW H) → Nat
  | [] => 0
  | x :: r => uptoBulkEntry x + uptoBulkEntries r
def uptoBulkEntry {H : Type} : Lit × DataW H → Nat
  | (.string bytes, d) => bytes.length + uptoBulk d + 1
  | (_, d) => uptoBulk d + 1
 end
def uptoSmall : (H : Type) → List (DataW H) → Bool := fun _ ds => decide (uptoBulkAll ds ≤ 1048576)
def OpenSpec.upto (s : _root_.Go.ChangeSpec) : _root_.Go.OpenSpec := { _root_.Go.OpenSpec.ofChange s with cond := some uptoSmall }

/-- 'hornbeamlaw05.SubstUnifies', WHERE WHAT IT READS IS OF BULK AT MOST 1048576: true; the input reads as it did. -/
def substUnifiesUptoRow : OpenClaim := { program := "ytenkiofpobeilaa", sum := "5111fc95b860f616a9da053aecefdad75312939c85436c3560ab0326a938c749", func := "hornbeam/hornbeamlaw05.SubstUnifies", spec := "substUnifies", inPlace := ["slices.overlaps[hornbeam/api.Binding]"], unfollowed := true, recurses := true, loops := true, apart := false, narrowed := true }
def SubstUnifiesUptoSaid : Prop := substUnifiesUptoRow.holds Try.pinned (OpenSpec.upto substUnifiesSpec)

/-- 'hornbeamlaw05.SubstMatches', WHERE WHAT IT READS IS OF BULK AT MOST 1048576: true; the input reads as it did. -/
def substMatchesUptoRow : OpenClaim := { program := "ytenkiofpobeilaa", sum := "5111fc95b860f616a9da053aecefdad75312939c85436c3560ab0326a938c749", func := "hornbeam/hornbeamlaw05.SubstMatches", spec := "substMatches", inPlace := ["slices.overlaps[hornbeam/api.Binding]"], unfollowed := true, recurses := true, loops := true, apart := false, narrowed := true }
def SubstMatchesUptoSaid : Prop := substMatchesUptoRow.holds Try.pinned (OpenSpec.upto substMatchesSpec)

/-- 'hornbeamlaw05.SubstUnifier', WHERE WHAT IT READS IS OF BULK AT MOST 1048576: true; the input reads as it did. -/
def substUnifierUptoRow : OpenClaim := { program := "ytenkiofpobeilaa", sum := "5111fc95b860f616a9da053aecefdad75312939c85436c3560ab0326a938c749", func := "hornbeam/hornbeamlaw05.SubstUnifier", spec := "substUnifier", inPlace := ["slices.overlaps[hornbeam/api.Binding]"], unfollowed := true, recurses := true, loops := true, apart := false, narrowed := true }
def SubstUnifierUptoSaid : Prop := substUnifierUptoRow.holds Try.pinned (OpenSpec.upto substUnifierSpec)

/-- 'hornbeamlaw05.SubstGeneral', WHERE WHAT IT READS IS OF BULK AT MOST 1048576: true; the input reads as it did. -/
def substGeneralUptoRow : OpenClaim := { program := "ytenkiofpobeilaa", sum := "5111fc95b860f616a9da053aecefdad75312939c85436c3560ab0326a938c749", func := "hornbeam/hornbeamlaw05.SubstGeneral", spec := "substGeneral", inPlace := ["slices.overlaps[hornbeam/api.Binding]"], unfollowed := true, recurses := true, loops := true, apart := false, narrowed := true }
def SubstGeneralUptoSaid : Prop := substGeneralUptoRow.holds Try.pinned (OpenSpec.upto substGeneralSpec)

/-- 'hornbeamlaw05.SubstMatched', WHERE WHAT IT READS IS OF BULK AT MOST 1048576: true; the input reads as it did. -/
def substMatchedUptoRow : OpenClaim := { program := "ytenkiofpobeilaa", sum := "5111fc95b860f616a9da053aecefdad75312939c85436c3560ab0326a938c749", func := "hornbeam/hornbeamlaw05.SubstMatched", spec := "substMatched", inPlace := ["slices.overlaps[hornbeam/api.Binding]"], unfollowed := true, recurses := true, loops := true, apart := false, narrowed := true }
def SubstMatchedUptoSaid : Prop := substMatchedUptoRow.holds Try.pinned (OpenSpec.upto substMatchedSpec)

/-- 'hornbeamlaw05.SubstResolved', WHERE WHAT IT READS IS OF BULK AT MOST 1048576: true; the input reads as it did. -/
def substResolvedUptoRow : OpenClaim := { program := "ytenkiofpobeilaa", sum := "5111fc95b860f616a9da053aecefdad75312939c85436c3560ab0326a938c749", func := "hornbeam/hornbeamlaw05.SubstResolved", spec := "substResolved", inPlace := ["slices.overlaps[hornbeam/api.Binding]"], unfollowed := true, recurses := true, loops := true, apart := false, narrowed := true }
def SubstResolvedUptoSaid : Prop := substResolvedUptoRow.holds Try.pinned (OpenSpec.upto substResolvedSpec)

/-- 'hornbeamlaw05.SubstLooks', WHERE WHAT IT READS IS OF BULK AT MOST 1048576: true; the input reads as it did. -/
def substLooksUptoRow : OpenClaim := { program := "ytenkiofpobeilaa", sum := "5111fc95b860f616a9da053aecefdad75312939c85436c3560ab0326a938c749", func := "hornbeam/hornbeamlaw05.SubstLooks", spec := "substLooks", inPlace := ["slices.overlaps[hornbeam/api.Binding]"], unfollowed := true, recurses := true, loops := true, apart := false, narrowed := true }
def SubstLooksUptoSaid : Prop := substLooksUptoRow.holds Try.pinned (OpenSpec.upto substLooksSpec)

end Rows
end Go.Proofs.Ytenkiofpobeilaa
