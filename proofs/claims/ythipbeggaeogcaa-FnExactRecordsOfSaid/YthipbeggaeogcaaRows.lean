/-
  No cell of these rows narrows 'for every input' (looked for: loops, veiled, ifaces, maps, wideKeys, modest, calm, conditions, laid).
  DERIVED. THE GIVEN ROWS OF THIS SEAT. 11 by the template 'for every input the law returns true; each argument reads behind the call as it read before'; 0 by the template 'total and deterministic' (their statements: YthipbeggaeogcaaTotals.lean).
  GIVEN WITH THE SEED: the statements are not yours to turn. If you find one false, say at which input.
  Laid BY PROGRAM, IN A SANDBOX (cutbox-rows.mjs): the forced cells as the released guide's own fill.sh prints them over the translation bb748c94e27100fc… (all of the seat's roots in one cut). By AI agents, Wed Nov 11 2026. No macro, syntax, notation, axiom, sorry.
-/
import Derived.Test.YthipbeggaeogcaaChecked
import GoSem.Claim
import GoSem.ClaimJoined
import GoSem.ClaimMapViews
import Derived.JoinedTies
import Derived.KernelRfl
namespace Go.Proofs.Ythipbeggaeogcaa
/- THE CELL 'sum', in the pinned program and in every row, IS THE sha256 OF THE DUMP (.gsa) THAT YthipbeggaeogcaaProg.lean LOADS. Nothing in Lean hashes anything: it is a label: what it is worth is what the hold of that sum in a sandbox is worth. -/
noncomputable def Try.pinned : Pinned := { name := "ythipbeggaeogcaa", sum := "bb748c94e27100fc49248cfcbc249193b24ddb9a0feddf8d4dee22c4c109b8b3", checked := Try.checked }
namespace Rows
def none {H : Type} : Left H := { results := [], args := [] }

/-- 'laws.FnExactRunCyclic': WHATEVER THE INPUT: true; the input reads as it did. -/
def fnExactRunCyclicSpec : ChangeSpec := { name := "fnExactRunCyclic", fn := fun _ => fun
  | [d1, d2, d3] => { results := [.lit (.bool true)], args := [d1, d2, d3] }
  | _ => none }
def fnExactRunCyclicRow : OpenClaim := { program := "ythipbeggaeogcaa", sum := "bb748c94e27100fc49248cfcbc249193b24ddb9a0feddf8d4dee22c4c109b8b3", func := "loop.example/g01079/laws.FnExactRunCyclic", spec := "fnExactRunCyclic", unfollowed := true, recurses := true, apart := false }
def FnExactRunCyclicSaid : Prop := fnExactRunCyclicRow.holds Try.pinned (OpenSpec.ofChange fnExactRunCyclicSpec)

/-- ITS FALSE NEIGHBOUR: 'it returns false'. Refute it at one input. -/
def fnExactRunCyclicWrong : ChangeSpec := { name := "fnExactRunCyclic", fn := fun _ => fun
  | [d1, d2, d3] => { results := [.lit (.bool false)], args := [d1, d2, d3] }
  | _ => none }
def FnExactRunCyclicWrongFalsely : Prop := fnExactRunCyclicRow.holds Try.pinned (OpenSpec.ofChange fnExactRunCyclicWrong)

/-- 'laws.FnExactTraceCyclic': WHATEVER THE INPUT: true; the input reads as it did. -/
def fnExactTraceCyclicSpec : ChangeSpec := { name := "fnExactTraceCyclic", fn := fun _ => fun
  | [d1, d2, d3] => { results := [.lit (.bool true)], args := [d1, d2, d3] }
  | _ => none }
def fnExactTraceCyclicRow : OpenClaim := { program := "ythipbeggaeogcaa", sum := "bb748c94e27100fc49248cfcbc249193b24ddb9a0feddf8d4dee22c4c109b8b3", func := "loop.example/g01079/laws.FnExactTraceCyclic", spec := "fnExactTraceCyclic", unfollowed := true, recurses := true, apart := false }
def FnExactTraceCyclicSaid : Prop := fnExactTraceCyclicRow.holds Try.pinned (OpenSpec.ofChange fnExactTraceCyclicSpec)

/-- ITS FALSE NEIGHBOUR: 'it returns false'. Refute it at one input. -/
def fnExactTraceCyclicWrong : ChangeSpec := { name := "fnExactTraceCyclic", fn := fun _ => fun
  | [d1, d2, d3] => { results := [.lit (.bool false)], args := [d1, d2, d3] }
  | _ => none }
def FnExactTraceCyclicWrongFalsely : Prop := fnExactTraceCyclicRow.holds Try.pinned (OpenSpec.ofChange fnExactTraceCyclicWrong)

/-- 'laws.FnExactRunCyclicTag': WHATEVER THE INPUT: true; the input reads as it did. -/
def fnExactRunCyclicTagSpec : ChangeSpec := { name := "fnExactRunCyclicTag", fn := fun _ => fun
  | [d1, d2, d3] => { results := [.lit (.bool true)], args := [d1, d2, d3] }
  | _ => none }
def fnExactRunCyclicTagRow : OpenClaim := { program := "ythipbeggaeogcaa", sum := "bb748c94e27100fc49248cfcbc249193b24ddb9a0feddf8d4dee22c4c109b8b3", func := "loop.example/g01079/laws.FnExactRunCyclicTag", spec := "fnExactRunCyclicTag", unfollowed := true, recurses := true, apart := false }
def FnExactRunCyclicTagSaid : Prop := fnExactRunCyclicTagRow.holds Try.pinned (OpenSpec.ofChange fnExactRunCyclicTagSpec)

/-- ITS FALSE NEIGHBOUR: 'it returns false'. Refute it at one input. -/
def fnExactRunCyclicTagWrong : ChangeSpec := { name := "fnExactRunCyclicTag", fn := fun _ => fun
  | [d1, d2, d3] => { results := [.lit (.bool false)], args := [d1, d2, d3] }
  | _ => none }
def FnExactRunCyclicTagWrongFalsely : Prop := fnExactRunCyclicTagRow.holds Try.pinned (OpenSpec.ofChange fnExactRunCyclicTagWrong)

/-- 'laws.FnCollatz': WHATEVER THE INPUT: true; the input reads as it did. -/
def fnCollatzSpec : ChangeSpec := { name := "fnCollatz", fn := fun _ => fun
  | [d1, d2] => { results := [.lit (.bool true)], args := [d1, d2] }
  | _ => none }
def fnCollatzRow : OpenClaim := { program := "ythipbeggaeogcaa", sum := "bb748c94e27100fc49248cfcbc249193b24ddb9a0feddf8d4dee22c4c109b8b3", func := "loop.example/g01079/laws.FnCollatz", spec := "fnCollatz", unfollowed := true, recurses := true, apart := false }
def FnCollatzSaid : Prop := fnCollatzRow.holds Try.pinned (OpenSpec.ofChange fnCollatzSpec)

/-- ITS FALSE NEIGHBOUR: 'it returns false'. Refute it at one input. -/
def fnCollatzWrong : ChangeSpec := { name := "fnCollatz", fn := fun _ => fun
  | [d1, d2] => { results := [.lit (.bool false)], args := [d1, d2] }
  | _ => none }
def FnCollatzWrongFalsely : Prop := fnCollatzRow.holds Try.pinned (OpenSpec.ofChange fnCollatzWrong)

/-- 'laws.FnTagCycles': WHATEVER THE INPUT: true; the input reads as it did. -/
def fnTagCyclesSpec : ChangeSpec := { name := "fnTagCycles", fn := fun _ => fun
  | [d1, d2] => { results := [.lit (.bool true)], args := [d1, d2] }
  | _ => none }
def fnTagCyclesRow : OpenClaim := { program := "ythipbeggaeogcaa", sum := "bb748c94e27100fc49248cfcbc249193b24ddb9a0feddf8d4dee22c4c109b8b3", func := "loop.example/g01079/laws.FnTagCycles", spec := "fnTagCycles", unfollowed := true, recurses := true, apart := false }
def FnTagCyclesSaid : Prop := fnTagCyclesRow.holds Try.pinned (OpenSpec.ofChange fnTagCyclesSpec)

/-- ITS FALSE NEIGHBOUR: 'it returns false'. Refute it at one input. -/
def fnTagCyclesWrong : ChangeSpec := { name := "fnTagCycles", fn := fun _ => fun
  | [d1, d2] => { results := [.lit (.bool false)], args := [d1, d2] }
  | _ => none }
def FnTagCyclesWrongFalsely : Prop := fnTagCyclesRow.holds Try.pinned (OpenSpec.ofChange fnTagCyclesWrong)

/-- 'laws.FnCyclicTags': WHATEVER THE INPUT: true; the input reads as it did. -/
def fnCyclicTagsSpec : ChangeSpec := { name := "fnCyclicTags", fn := fun _ => fun
  | [d1, d2] => { results := [.lit (.bool true)], args := [d1, d2] }
  | _ => none }
def fnCyclicTagsRow : OpenClaim := { program := "ythipbeggaeogcaa", sum := "bb748c94e27100fc49248cfcbc249193b24ddb9a0feddf8d4dee22c4c109b8b3", func := "loop.example/g01079/laws.FnCyclicTags", spec := "fnCyclicTags", unfollowed := true, recurses := true, apart := false }
def FnCyclicTagsSaid : Prop := fnCyclicTagsRow.holds Try.pinned (OpenSpec.ofChange fnCyclicTagsSpec)

/-- ITS FALSE NEIGHBOUR: 'it returns false'. Refute it at one input. -/
def fnCyclicTagsWrong : ChangeSpec := { name := "fnCyclicTags", fn := fun _ => fun
  | [d1, d2] => { results := [.lit (.bool false)], args := [d1, d2] }
  | _ => none }
def FnCyclicTagsWrongFalsely : Prop := fnCyclicTagsRow.holds Try.pinned (OpenSpec.ofChange fnCyclicTagsWrong)

/-- 'laws.FnExactWorstTimes': WHATEVER THE INPUT: true; the input reads as it did. -/
def fnExactWorstTimesSpec : ChangeSpec := { name := "fnExactWorstTimes", fn := fun _ => fun
  | [d1, d2, d3, d4] => { results := [.lit (.bool true)], args := [d1, d2, d3, d4] }
  | _ => none }
def fnExactWorstTimesRow : OpenClaim := { program := "ythipbeggaeogcaa", sum := "bb748c94e27100fc49248cfcbc249193b24ddb9a0feddf8d4dee22c4c109b8b3", func := "loop.example/g01079/laws.FnExactWorstTimes", spec := "fnExactWorstTimes", unfollowed := true, recurses := true, apart := false }
def FnExactWorstTimesSaid : Prop := fnExactWorstTimesRow.holds Try.pinned (OpenSpec.ofChange fnExactWorstTimesSpec)

/-- ITS FALSE NEIGHBOUR: 'it returns false'. Refute it at one input. -/
def fnExactWorstTimesWrong : ChangeSpec := { name := "fnExactWorstTimes", fn := fun _ => fun
  | [d1, d2, d3, d4] => { results := [.lit (.bool false)], args := [d1, d2, d3, d4] }
  | _ => none }
def FnExactWorstTimesWrongFalsely : Prop := fnExactWorstTimesRow.holds Try.pinned (OpenSpec.ofChange fnExactWorstTimesWrong)

/-- 'laws.FnExactTnfChildren': WHATEVER THE INPUT: true; the input reads as it did. -/
def fnExactTnfChildrenSpec : ChangeSpec := { name := "fnExactTnfChildren", fn := fun _ => fun
  | [d1, d2] => { results := [.lit (.bool true)], args := [d1, d2] }
  | _ => none }
def fnExactTnfChildrenRow : OpenClaim := { program := "ythipbeggaeogcaa", sum := "bb748c94e27100fc49248cfcbc249193b24ddb9a0feddf8d4dee22c4c109b8b3", func := "loop.example/g01079/laws.FnExactTnfChildren", spec := "fnExactTnfChildren", unfollowed := true, recurses := true, apart := false }
def FnExactTnfChildrenSaid : Prop := fnExactTnfChildrenRow.holds Try.pinned (OpenSpec.ofChange fnExactTnfChildrenSpec)

/-- ITS FALSE NEIGHBOUR: 'it returns false'. Refute it at one input. -/
def fnExactTnfChildrenWrong : ChangeSpec := { name := "fnExactTnfChildren", fn := fun _ => fun
  | [d1, d2] => { results := [.lit (.bool false)], args := [d1, d2] }
  | _ => none }
def FnExactTnfChildrenWrongFalsely : Prop := fnExactTnfChildrenRow.holds Try.pinned (OpenSpec.ofChange fnExactTnfChildrenWrong)

/-- 'laws.FnExactHeadTrack': WHATEVER THE INPUT: true; the input reads as it did. -/
def fnExactHeadTrackSpec : ChangeSpec := { name := "fnExactHeadTrack", fn := fun _ => fun
  | [d1, d2] => { results := [.lit (.bool true)], args := [d1, d2] }
  | _ => none }
def fnExactHeadTrackRow : OpenClaim := { program := "ythipbeggaeogcaa", sum := "bb748c94e27100fc49248cfcbc249193b24ddb9a0feddf8d4dee22c4c109b8b3", func := "loop.example/g01079/laws.FnExactHeadTrack", spec := "fnExactHeadTrack", unfollowed := true, recurses := true, apart := false }
def FnExactHeadTrackSaid : Prop := fnExactHeadTrackRow.holds Try.pinned (OpenSpec.ofChange fnExactHeadTrackSpec)

/-- ITS FALSE NEIGHBOUR: 'it returns false'. Refute it at one input. -/
def fnExactHeadTrackWrong : ChangeSpec := { name := "fnExactHeadTrack", fn := fun _ => fun
  | [d1, d2] => { results := [.lit (.bool false)], args := [d1, d2] }
  | _ => none }
def FnExactHeadTrackWrongFalsely : Prop := fnExactHeadTrackRow.holds Try.pinned (OpenSpec.ofChange fnExactHeadTrackWrong)

/-- 'laws.FnExactCellsVisited': WHATEVER THE INPUT: true; the input reads as it did. -/
def fnExactCellsVisitedSpec : ChangeSpec := { name := "fnExactCellsVisited", fn := fun _ => fun
  | [d1, d2] => { results := [.lit (.bool true)], args := [d1, d2] }
  | _ => none }
def fnExactCellsVisitedRow : OpenClaim := { program := "ythipbeggaeogcaa", sum := "bb748c94e27100fc49248cfcbc249193b24ddb9a0feddf8d4dee22c4c109b8b3", func := "loop.example/g01079/laws.FnExactCellsVisited", spec := "fnExactCellsVisited", unfollowed := true, recurses := true, apart := false }
def FnExactCellsVisitedSaid : Prop := fnExactCellsVisitedRow.holds Try.pinned (OpenSpec.ofChange fnExactCellsVisitedSpec)

/-- ITS FALSE NEIGHBOUR: 'it returns false'. Refute it at one input. -/
def fnExactCellsVisitedWrong : ChangeSpec := { name := "fnExactCellsVisited", fn := fun _ => fun
  | [d1, d2] => { results := [.lit (.bool false)], args := [d1, d2] }
  | _ => none }
def FnExactCellsVisitedWrongFalsely : Prop := fnExactCellsVisitedRow.holds Try.pinned (OpenSpec.ofChange fnExactCellsVisitedWrong)

/-- 'laws.FnExactRecordsOf': WHATEVER THE INPUT: true; the input reads as it did. -/
def fnExactRecordsOfSpec : ChangeSpec := { name := "fnExactRecordsOf", fn := fun _ => fun
  | [d1, d2] => { results := [.lit (.bool true)], args := [d1, d2] }
  | _ => none }
def fnExactRecordsOfRow : OpenClaim := { program := "ythipbeggaeogcaa", sum := "bb748c94e27100fc49248cfcbc249193b24ddb9a0feddf8d4dee22c4c109b8b3", func := "loop.example/g01079/laws.FnExactRecordsOf", spec := "fnExactRecordsOf", unfollowed := true, recurses := true, apart := false }
def FnExactRecordsOfSaid : Prop := fnExactRecordsOfRow.holds Try.pinned (OpenSpec.ofChange fnExactRecordsOfSpec)

/-- ITS FALSE NEIGHBOUR: 'it returns false'. Refute it at one input. -/
def fnExactRecordsOfWrong : ChangeSpec := { name := "fnExactRecordsOf", fn := fun _ => fun
  | [d1, d2] => { results := [.lit (.bool false)], args := [d1, d2] }
  | _ => none }
def FnExactRecordsOfWrongFalsely : Prop := fnExactRecordsOfRow.holds Try.pinned (OpenSpec.ofChange fnExactRecordsOfWrong)

/- THE SECOND FORM. 'bulk': how many values and letters a reading holds, each counted each time it is reached (what is shared counts as often as it is met; a slice's spare places count too). A statement '..UptoSaid' is the law's where the arguments, and the package variables that the reading takes, are together of bulk at most 1048576: NARROWER than '..Said'. Prove '..Said' where nothing that the law and all that it calls make is longer than what came in: it says more and counts as full. Else prove '..UptoSaid'. A law counts once. -/
mutual
def uptoBulk {H : Type} : DataW H → Nat
  | .lit (.string bytes) => bytes.length + 1
  | .lit _ => 1
  | .nil => 1
  | .ptr d => uptoBulk d + 1
  | .slice elems spare => uptoBulkAll elems + uptoBulkAll spare + 1
  | .agg parts => uptoBulkAll parts + 1
  | .iface _ d => uptoBulk d + 1
  | .map entries => uptoBulkEntries entries + 1
  | .held _ => 1
def uptoBulkAll {H : Type} : List (DataW H) → Nat
  | [] => 0
  | d :: r => uptoBulk d + uptoBulkAll r
def uptoBulkEntries {H : Type} : List (Lit × DataW H) → Nat
  | [] => 0
  | x :: r => uptoBulkEntry x + uptoBulkEntries r
def uptoBulkEntry {H : Type} : Lit × DataW H → Nat
  | (.string bytes, d) => bytes.length + uptoBulk d + 1
  | (_, d) => uptoBulk d + 1
 end
def uptoSmall : (H : Type) → List (DataW H) → Bool := fun _ ds => decide (uptoBulkAll ds ≤ 1048576)
def OpenSpec.upto (s : _root_.Go.ChangeSpec) : _root_.Go.OpenSpec := { _root_.Go.OpenSpec.ofChange s with cond := some uptoSmall }

/-- 'laws.FnExactRunCyclic', WHERE WHAT IT READS IS OF BULK AT MOST 1048576: true; the input reads as it did. -/
def fnExactRunCyclicUptoRow : OpenClaim := { program := "ythipbeggaeogcaa", sum := "bb748c94e27100fc49248cfcbc249193b24ddb9a0feddf8d4dee22c4c109b8b3", func := "loop.example/g01079/laws.FnExactRunCyclic", spec := "fnExactRunCyclic", unfollowed := true, recurses := true, apart := false, narrowed := true }
def FnExactRunCyclicUptoSaid : Prop := fnExactRunCyclicUptoRow.holds Try.pinned (OpenSpec.upto fnExactRunCyclicSpec)

/-- 'laws.FnExactTraceCyclic', WHERE WHAT IT READS IS OF BULK AT MOST 1048576: true; the input reads as it did. -/
def fnExactTraceCyclicUptoRow : OpenClaim := { program := "ythipbeggaeogcaa", sum := "bb748c94e27100fc49248cfcbc249193b24ddb9a0feddf8d4dee22c4c109b8b3", func := "loop.example/g01079/laws.FnExactTraceCyclic", spec := "fnExactTraceCyclic", unfollowed := true, recurses := true, apart := false, narrowed := true }
def FnExactTraceCyclicUptoSaid : Prop := fnExactTraceCyclicUptoRow.holds Try.pinned (OpenSpec.upto fnExactTraceCyclicSpec)

/-- 'laws.FnExactRunCyclicTag', WHERE WHAT IT READS IS OF BULK AT MOST 1048576: true; the input reads as it did. -/
def fnExactRunCyclicTagUptoRow : OpenClaim := { program := "ythipbeggaeogcaa", sum := "bb748c94e27100fc49248cfcbc249193b24ddb9a0feddf8d4dee22c4c109b8b3", func := "loop.example/g01079/laws.FnExactRunCyclicTag", spec := "fnExactRunCyclicTag", unfollowed := true, recurses := true, apart := false, narrowed := true }
def FnExactRunCyclicTagUptoSaid : Prop := fnExactRunCyclicTagUptoRow.holds Try.pinned (OpenSpec.upto fnExactRunCyclicTagSpec)

/-- 'laws.FnCollatz', WHERE WHAT IT READS IS OF BULK AT MOST 1048576: true; the input reads as it did. -/
def fnCollatzUptoRow : OpenClaim := { program := "ythipbeggaeogcaa", sum := "bb748c94e27100fc49248cfcbc249193b24ddb9a0feddf8d4dee22c4c109b8b3", func := "loop.example/g01079/laws.FnCollatz", spec := "fnCollatz", unfollowed := true, recurses := true, apart := false, narrowed := true }
def FnCollatzUptoSaid : Prop := fnCollatzUptoRow.holds Try.pinned (OpenSpec.upto fnCollatzSpec)

/-- 'laws.FnTagCycles', WHERE WHAT IT READS IS OF BULK AT MOST 1048576: true; the input reads as it did. -/
def fnTagCyclesUptoRow : OpenClaim := { program := "ythipbeggaeogcaa", sum := "bb748c94e27100fc49248cfcbc249193b24ddb9a0feddf8d4dee22c4c109b8b3", func := "loop.example/g01079/laws.FnTagCycles", spec := "fnTagCycles", unfollowed := true, recurses := true, apart := false, narrowed := true }
def FnTagCyclesUptoSaid : Prop := fnTagCyclesUptoRow.holds Try.pinned (OpenSpec.upto fnTagCyclesSpec)

/-- 'laws.FnCyclicTags', WHERE WHAT IT READS IS OF BULK AT MOST 1048576: true; the input reads as it did. -/
def fnCyclicTagsUptoRow : OpenClaim := { program := "ythipbeggaeogcaa", sum := "bb748c94e27100fc49248cfcbc249193b24ddb9a0feddf8d4dee22c4c109b8b3", func := "loop.example/g01079/laws.FnCyclicTags", spec := "fnCyclicTags", unfollowed := true, recurses := true, apart := false, narrowed := true }
def FnCyclicTagsUptoSaid : Prop := fnCyclicTagsUptoRow.holds Try.pinned (OpenSpec.upto fnCyclicTagsSpec)

/-- 'laws.FnExactWorstTimes', WHERE WHAT IT READS IS OF BULK AT MOST 1048576: true; the input reads as it did. -/
def fnExactWorstTimesUptoRow : OpenClaim := { program := "ythipbeggaeogcaa", sum := "bb748c94e27100fc49248cfcbc249193b24ddb9a0feddf8d4dee22c4c109b8b3", func := "loop.example/g01079/laws.FnExactWorstTimes", spec := "fnExactWorstTimes", unfollowed := true, recurses := true, apart := false, narrowed := true }
def FnExactWorstTimesUptoSaid : Prop := fnExactWorstTimesUptoRow.holds Try.pinned (OpenSpec.upto fnExactWorstTimesSpec)

/-- 'laws.FnExactTnfChildren', WHERE WHAT IT READS IS OF BULK AT MOST 1048576: true; the input reads as it did. -/
def fnExactTnfChildrenUptoRow : OpenClaim := { program := "ythipbeggaeogcaa", sum := "bb748c94e27100fc49248cfcbc249193b24ddb9a0feddf8d4dee22c4c109b8b3", func := "loop.example/g01079/laws.FnExactTnfChildren", spec := "fnExactTnfChildren", unfollowed := true, recurses := true, apart := false, narrowed := true }
def FnExactTnfChildrenUptoSaid : Prop := fnExactTnfChildrenUptoRow.holds Try.pinned (OpenSpec.upto fnExactTnfChildrenSpec)

/-- 'laws.FnExactHeadTrack', WHERE WHAT IT READS IS OF BULK AT MOST 1048576: true; the input reads as it did. -/
def fnExactHeadTrackUptoRow : OpenClaim := { program := "ythipbeggaeogcaa", sum := "bb748c94e27100fc49248cfcbc249193b24ddb9a0feddf8d4dee22c4c109b8b3", func := "loop.example/g01079/laws.FnExactHeadTrack", spec := "fnExactHeadTrack", unfollowed := true, recurses := true, apart := false, narrowed := true }
def FnExactHeadTrackUptoSaid : Prop := fnExactHeadTrackUptoRow.holds Try.pinned (OpenSpec.upto fnExactHeadTrackSpec)

/-- 'laws.FnExactCellsVisited', WHERE WHAT IT READS IS OF BULK AT MOST 1048576: true; the input reads as it did. -/
def fnExactCellsVisitedUptoRow : OpenClaim := { program := "ythipbeggaeogcaa", sum := "bb748c94e27100fc49248cfcbc249193b24ddb9a0feddf8d4dee22c4c109b8b3", func := "loop.example/g01079/laws.FnExactCellsVisited", spec := "fnExactCellsVisited", unfollowed := true, recurses := true, apart := false, narrowed := true }
def FnExactCellsVisitedUptoSaid : Prop := fnExactCellsVisitedUptoRow.holds Try.pinned (OpenSpec.upto fnExactCellsVisitedSpec)

/-- 'laws.FnExactRecordsOf', WHERE WHAT IT READS IS OF BULK AT MOST 1048576: true; the input reads as it did. -/
def fnExactRecordsOfUptoRow : OpenClaim := { program := "ythipbeggaeogcaa", sum := "bb748c94e27100fc49248cfcbc249193b24ddb9a0feddf8d4dee22c4c109b8b3", func := "loop.example/g01079/laws.FnExactRecordsOf", spec := "fnExactRecordsOf", unfollowed := true, recurses := true, apart := false, narrowed := true }
def FnExactRecordsOfUptoSaid : Prop := fnExactRecordsOfUptoRow.holds Try.pinned (OpenSpec.upto fnExactRecordsOfSpec)

end Rows
end Go.Proofs.Ythipbeggaeogcaa
