/-
  NARROWER THAN 'FOR EVERY INPUT', by the rows' own cells (each row's printed sentence says how): ChunkOf: loops · ChunkPerms: loops · ChunkLive: loops · ChunkAlone: loops · ChunkCounts: loops · ChunkShift: loops.
  DERIVED. THE GIVEN ROWS OF THIS SEAT. 7 by the template 'for every input the law returns true; each argument reads behind the call as it read before'; 0 by the template 'total and deterministic' (their statements: YtmajapjbogmefaaTotals.lean).
  GIVEN WITH THE SEED: the statements are not yours to turn. If you find one false, say at which input.
  Laid BY PROGRAM, IN A SANDBOX (cutbox-rows.mjs): the forced cells as the released guide's own fill.sh prints them over the translation 0c5243cc0bf7120b… (all of the seat's roots in one cut). By AI agents, Wed Nov 11 2026. No macro, syntax, notation, axiom, sorry.
-/
import Derived.Test.YtmajapjbogmefaaChecked
import GoSem.Claim
import GoSem.ClaimJoined
import GoSem.ClaimMapViews
import Derived.JoinedTies
import Derived.KernelRfl
namespace Go.Proofs.Ytmajapjbogmefaa
/- THE CELL 'sum', in the pinned program and in every row, IS THE sha256 OF THE DUMP (.gsa) THAT YtmajapjbogmefaaProg.lean LOADS. Nothing in Lean hashes anything: it is a label: what it is worth is what the hold of that sum in a sandbox is worth. -/
noncomputable def Try.pinned : Pinned := { name := "ytmajapjbogmefaa", sum := "0c5243cc0bf7120b8a7987d7bf5f3bf4d31086f7c1383269dc45f3a5a12e79ca", checked := Try.checked }
namespace Rows
def none {H : Type} : Left H := { results := [], args := [] }

/-- 'hornbeamlaw25.ChunkOf': WHATEVER THE INPUT: true; the input reads as it did. -/
def chunkOfSpec : ChangeSpec := { name := "chunkOf", fn := fun _ => fun
  | [d] => { results := [.lit (.bool true)], args := [d] }
  | _ => none }
def chunkOfRow : OpenClaim := { program := "ytmajapjbogmefaa", sum := "0c5243cc0bf7120b8a7987d7bf5f3bf4d31086f7c1383269dc45f3a5a12e79ca", func := "hornbeam/hornbeamlaw25.ChunkOf", spec := "chunkOf", unfollowed := true, recurses := true, loops := true, apart := false }
def ChunkOfSaid : Prop := chunkOfRow.holds Try.pinned (OpenSpec.ofChange chunkOfSpec)

/-- ITS FALSE NEIGHBOUR: 'it returns false'. Refute it at one input. -/
def chunkOfWrong : ChangeSpec := { name := "chunkOf", fn := fun _ => fun
  | [d] => { results := [.lit (.bool false)], args := [d] }
  | _ => none }
def ChunkOfWrongFalsely : Prop := chunkOfRow.holds Try.pinned (OpenSpec.ofChange chunkOfWrong)

/-- 'hornbeamlaw25.ChunkPerms': WHATEVER THE INPUT: true; the input reads as it did. -/
def chunkPermsSpec : ChangeSpec := { name := "chunkPerms", fn := fun _ => fun
  | [d1, d2] => { results := [.lit (.bool true)], args := [d1, d2] }
  | _ => none }
def chunkPermsRow : OpenClaim := { program := "ytmajapjbogmefaa", sum := "0c5243cc0bf7120b8a7987d7bf5f3bf4d31086f7c1383269dc45f3a5a12e79ca", func := "hornbeam/hornbeamlaw25.ChunkPerms", spec := "chunkPerms", unfollowed := true, recurses := true, loops := true, apart := false }
def ChunkPermsSaid : Prop := chunkPermsRow.holds Try.pinned (OpenSpec.ofChange chunkPermsSpec)

/-- ITS FALSE NEIGHBOUR: 'it returns false'. Refute it at one input. -/
def chunkPermsWrong : ChangeSpec := { name := "chunkPerms", fn := fun _ => fun
  | [d1, d2] => { results := [.lit (.bool false)], args := [d1, d2] }
  | _ => none }
def ChunkPermsWrongFalsely : Prop := chunkPermsRow.holds Try.pinned (OpenSpec.ofChange chunkPermsWrong)

/-- 'hornbeamlaw25.ChunkLive': WHATEVER THE INPUT: true; the input reads as it did. -/
def chunkLiveSpec : ChangeSpec := { name := "chunkLive", fn := fun _ => fun
  | [d] => { results := [.lit (.bool true)], args := [d] }
  | _ => none }
def chunkLiveRow : OpenClaim := { program := "ytmajapjbogmefaa", sum := "0c5243cc0bf7120b8a7987d7bf5f3bf4d31086f7c1383269dc45f3a5a12e79ca", func := "hornbeam/hornbeamlaw25.ChunkLive", spec := "chunkLive", unfollowed := true, recurses := true, loops := true, apart := false }
def ChunkLiveSaid : Prop := chunkLiveRow.holds Try.pinned (OpenSpec.ofChange chunkLiveSpec)

/-- ITS FALSE NEIGHBOUR: 'it returns false'. Refute it at one input. -/
def chunkLiveWrong : ChangeSpec := { name := "chunkLive", fn := fun _ => fun
  | [d] => { results := [.lit (.bool false)], args := [d] }
  | _ => none }
def ChunkLiveWrongFalsely : Prop := chunkLiveRow.holds Try.pinned (OpenSpec.ofChange chunkLiveWrong)

/-- 'hornbeamlaw25.ChunkAlone': WHATEVER THE INPUT: true; the input reads as it did. -/
def chunkAloneSpec : ChangeSpec := { name := "chunkAlone", fn := fun _ => fun
  | [d] => { results := [.lit (.bool true)], args := [d] }
  | _ => none }
def chunkAloneRow : OpenClaim := { program := "ytmajapjbogmefaa", sum := "0c5243cc0bf7120b8a7987d7bf5f3bf4d31086f7c1383269dc45f3a5a12e79ca", func := "hornbeam/hornbeamlaw25.ChunkAlone", spec := "chunkAlone", unfollowed := true, recurses := true, loops := true, apart := false }
def ChunkAloneSaid : Prop := chunkAloneRow.holds Try.pinned (OpenSpec.ofChange chunkAloneSpec)

/-- ITS FALSE NEIGHBOUR: 'it returns false'. Refute it at one input. -/
def chunkAloneWrong : ChangeSpec := { name := "chunkAlone", fn := fun _ => fun
  | [d] => { results := [.lit (.bool false)], args := [d] }
  | _ => none }
def ChunkAloneWrongFalsely : Prop := chunkAloneRow.holds Try.pinned (OpenSpec.ofChange chunkAloneWrong)

/-- 'hornbeamlaw25.ChunkCounts': WHATEVER THE INPUT: true; the input reads as it did. -/
def chunkCountsSpec : ChangeSpec := { name := "chunkCounts", fn := fun _ => fun
  | [d1, d2] => { results := [.lit (.bool true)], args := [d1, d2] }
  | _ => none }
def chunkCountsRow : OpenClaim := { program := "ytmajapjbogmefaa", sum := "0c5243cc0bf7120b8a7987d7bf5f3bf4d31086f7c1383269dc45f3a5a12e79ca", func := "hornbeam/hornbeamlaw25.ChunkCounts", spec := "chunkCounts", unfollowed := true, recurses := true, loops := true, apart := false }
def ChunkCountsSaid : Prop := chunkCountsRow.holds Try.pinned (OpenSpec.ofChange chunkCountsSpec)

/-- ITS FALSE NEIGHBOUR: 'it returns false'. Refute it at one input. -/
def chunkCountsWrong : ChangeSpec := { name := "chunkCounts", fn := fun _ => fun
  | [d1, d2] => { results := [.lit (.bool false)], args := [d1, d2] }
  | _ => none }
def ChunkCountsWrongFalsely : Prop := chunkCountsRow.holds Try.pinned (OpenSpec.ofChange chunkCountsWrong)

/-- 'hornbeamlaw25.ChunkExamples': WHATEVER THE INPUT: true; the input reads as it did. -/
def chunkExamplesSpec : ChangeSpec := { name := "chunkExamples", fn := fun _ => fun
  | [] => { results := [.lit (.bool true)], args := [] }
  | _ => none }
def chunkExamplesRow : OpenClaim := { program := "ytmajapjbogmefaa", sum := "0c5243cc0bf7120b8a7987d7bf5f3bf4d31086f7c1383269dc45f3a5a12e79ca", func := "hornbeam/hornbeamlaw25.ChunkExamples", spec := "chunkExamples", unfollowed := true, recurses := true, apart := false }
def ChunkExamplesSaid : Prop := chunkExamplesRow.holds Try.pinned (OpenSpec.ofChange chunkExamplesSpec)

/-- ITS FALSE NEIGHBOUR: 'it returns false'. Refute it at one input. -/
def chunkExamplesWrong : ChangeSpec := { name := "chunkExamples", fn := fun _ => fun
  | [] => { results := [.lit (.bool false)], args := [] }
  | _ => none }
def ChunkExamplesWrongFalsely : Prop := chunkExamplesRow.holds Try.pinned (OpenSpec.ofChange chunkExamplesWrong)

/-- 'hornbeamlaw25.ChunkShift': WHATEVER THE INPUT: true; the input reads as it did. -/
def chunkShiftSpec : ChangeSpec := { name := "chunkShift", fn := fun _ => fun
  | [d1, d2] => { results := [.lit (.bool true)], args := [d1, d2] }
  | _ => none }
def chunkShiftRow : OpenClaim := { program := "ytmajapjbogmefaa", sum := "0c5243cc0bf7120b8a7987d7bf5f3bf4d31086f7c1383269dc45f3a5a12e79ca", func := "hornbeam/hornbeamlaw25.ChunkShift", spec := "chunkShift", unfollowed := true, recurses := true, loops := true, apart := false }
def ChunkShiftSaid : Prop := chunkShiftRow.holds Try.pinned (OpenSpec.ofChange chunkShiftSpec)

/-- ITS FALSE NEIGHBOUR: 'it returns false'. Refute it at one input. -/
def chunkShiftWrong : ChangeSpec := { name := "chunkShift", fn := fun _ => fun
  | [d1, d2] => { results := [.lit (.bool false)], args := [d1, d2] }
  | _ => none }
def ChunkShiftWrongFalsely : Prop := chunkShiftRow.holds Try.pinned (OpenSpec.ofChange chunkShiftWrong)

/- THE SECOND FORM. 'bulk': how many values and letters a reading holds, each counted each time it is reached (what is shared counts as often as it is met; a slice's spare places count too). A statement '..UptoSaid' is the law's where the arguments, and the package variables that the reading takes, are together of bulk at most 1048576: NARROWER than '..Said'. Prove '..Said' where nothing that the law and all that it calls make is longer than what came in: it says more and counts as full. Else prove '..UptoSaid'. A law counts once. -/
mutual
def uptoBulk {H : Type} : DataW H → Nat
  | .lit (.string bytes) => bytes.length + 1
  | .lit _ => 1
  | .nil => 1
  | .ptr d => uptoBulk d + 1
  | .slice elems spare => uptoBulkAll elems + uptoBulkAll spare + 1
  | .agg parts => uptoBulkAll parts + 1
  | .iface _ d => uptoBulk d + 1
  | .map entries => uptoBulkEntries entries + 1
  | .held _ => 1
def uptoBulkAll {H : Type} : List (DataW H) → Nat
  | [] => 0
  | d :: r => uptoBulk d + uptoBulkAll r
def uptoBulkEntries {H : Type} : List (Lit × DataW H) → Nat
  | [] => 0
  | x :: r => uptoBulkEntry x + uptoBulkEntries r
def uptoBulkEntry {H : Type} : Lit × DataW H → Nat
  | (.string bytes, d) => bytes.length + uptoBulk d + 1
  | (_, d) => uptoBulk d + 1
 end
def uptoSmall : (H : Type) → List (DataW H) → Bool := fun _ ds => decide (uptoBulkAll ds ≤ 1048576)
def OpenSpec.upto (s : _root_.Go.ChangeSpec) : _root_.Go.OpenSpec := { _root_.Go.OpenSpec.ofChange s with cond := some uptoSmall }

/-- 'hornbeamlaw25.ChunkOf', WHERE WHAT IT READS IS OF BULK AT MOST 1048576: true; the input reads as it did. -/
def chunkOfUptoRow : OpenClaim := { program := "ytmajapjbogmefaa", sum := "0c5243cc0bf7120b8a7987d7bf5f3bf4d31086f7c1383269dc45f3a5a12e79ca", func := "hornbeam/hornbeamlaw25.ChunkOf", spec := "chunkOf", unfollowed := true, recurses := true, loops := true, apart := false, narrowed := true }
def ChunkOfUptoSaid : Prop := chunkOfUptoRow.holds Try.pinned (OpenSpec.upto chunkOfSpec)

/-- 'hornbeamlaw25.ChunkPerms', WHERE WHAT IT READS IS OF BULK AT MOST 1048576: true; the input reads as it did. -/
def chunkPermsUptoRow : OpenClaim := { program := "ytmajapjbogmefaa", sum := "0c5243cc0bf7120b8a7987d7bf5f3bf4d31086f7c1383269dc45f3a5a12e79ca", func := "hornbeam/hornbeamlaw25.ChunkPerms", spec := "chunkPerms", unfollowed := true, recurses := true, loops := true, apart := false, narrowed := true }
def ChunkPermsUptoSaid : Prop := chunkPermsUptoRow.holds Try.pinned (OpenSpec.upto chunkPermsSpec)

/-- 'hornbeamlaw25.ChunkLive', WHERE WHAT IT READS IS OF BULK AT MOST 1048576: true; the input reads as it did. -/
def chunkLiveUptoRow : OpenClaim := { program := "ytmajapjbogmefaa", sum := "0c5243cc0bf7120b8a7987d7bf5f3bf4d31086f7c1383269dc45f3a5a12e79ca", func := "hornbeam/hornbeamlaw25.ChunkLive", spec := "chunkLive", unfollowed := true, recurses := true, loops := true, apart := false, narrowed := true }
def ChunkLiveUptoSaid : Prop := chunkLiveUptoRow.holds Try.pinned (OpenSpec.upto chunkLiveSpec)

/-- 'hornbeamlaw25.ChunkAlone', WHERE WHAT IT READS IS OF BULK AT MOST 1048576: true; the input reads as it did. -/
def chunkAloneUptoRow : OpenClaim := { program := "ytmajapjbogmefaa", sum := "0c5243cc0bf7120b8a7987d7bf5f3bf4d31086f7c1383269dc45f3a5a12e79ca", func := "hornbeam/hornbeamlaw25.ChunkAlone", spec := "chunkAlone", unfollowed := true, recurses := true, loops := true, apart := false, narrowed := true }
def ChunkAloneUptoSaid : Prop := chunkAloneUptoRow.holds Try.pinned (OpenSpec.upto chunkAloneSpec)

/-- 'hornbeamlaw25.ChunkCounts', WHERE WHAT IT READS IS OF BULK AT MOST 1048576: true; the input reads as it did. -/
def chunkCountsUptoRow : OpenClaim := { program := "ytmajapjbogmefaa", sum := "0c5243cc0bf7120b8a7987d7bf5f3bf4d31086f7c1383269dc45f3a5a12e79ca", func := "hornbeam/hornbeamlaw25.ChunkCounts", spec := "chunkCounts", unfollowed := true, recurses := true, loops := true, apart := false, narrowed := true }
def ChunkCountsUptoSaid : Prop := chunkCountsUptoRow.holds Try.pinned (OpenSpec.upto chunkCountsSpec)

/-- 'hornbeamlaw25.ChunkExamples', WHERE WHAT IT READS IS OF BULK AT MOST 1048576: true; the input reads as it did. -/
def chunkExamplesUptoRow : OpenClaim := { program := "ytmajapjbogmefaa", sum := "0c5243cc0bf7120b8a7987d7bf5f3bf4d31086f7c1383269dc45f3a5a12e79ca", func := "hornbeam/hornbeamlaw25.ChunkExamples", spec := "chunkExamples", unfollowed := true, recurses := true, apart := false, narrowed := true }
def ChunkExamplesUptoSaid : Prop := chunkExamplesUptoRow.holds Try.pinned (OpenSpec.upto chunkExamplesSpec)

/-- 'hornbeamlaw25.ChunkShift', WHERE WHAT IT READS IS OF BULK AT MOST 1048576: true; the input reads as it did. -/
def chunkShiftUptoRow : OpenClaim := { program := "ytmajapjbogmefaa", sum := "0c5243cc0bf7120b8a7987d7bf5f3bf4d31086f7c1383269dc45f3a5a12e79ca", func := "hornbeam/hornbeamlaw25.ChunkShift", spec := "chunkShift", unfollowed := true, recurses := true, loops := true, apart := false, narrowed := true }
def ChunkShiftUptoSaid : Prop := chunkShiftUptoRow.holds Try.pinned (OpenSpec.upto chunkShiftSpec)

end Rows
end Go.Proofs.Ytmajapjbogmefaa
