/-
  No cell of these rows narrows 'for every input' (looked for: loops, veiled, ifaces, maps, wideKeys, modest, calm, conditions, laid).
  DERIVED. THE GIVEN ROWS OF THIS SEAT. 6 by the template 'for every input the law returns true; each argument reads behind the call as it read before'; 0 by the template 'total and deterministic' (their statements: YtpleclmlcojkdaaTotals.lean).
  GIVEN WITH THE SEED: the statements are not yours to turn. If you find one false, say at which input.
  Laid BY PROGRAM, IN A SANDBOX (cutbox-rows.mjs): the forced cells as the released guide's own fill.sh prints them over the translation f3445f9c5c0c7a34… (all of the seat's roots in one cut). By AI agents, Wed Nov 11 2026. No macro, syntax, notation, axiom, sorry.
-/
import Derived.Test.YtpleclmlcojkdaaChecked
import GoSem.Claim
import GoSem.ClaimJoined
import GoSem.ClaimMapViews
import Derived.JoinedTies
import Derived.KernelRfl
namespace Go.Proofs.Ytpleclmlcojkdaa
/- THE CELL 'sum', in the pinned program and in every row, IS THE sha256 OF THE DUMP (.gsa) THAT YtpleclmlcojkdaaProg.lean LOADS. Nothing in Lean hashes anything: it is a label: what it is worth is what the hold of that sum in a sandbox is worth. -/
noncomputable def Try.pinned : Pinned := { name := "ytpleclmlcojkdaa", sum := "f3445f9c5c0c7a347780b481aaedd703cfa4fd530acd293fc90064adb953a332", checked := Try.checked }
namespace Rows
def none {H : Type} : Left H := { results := [], args := [] }

/-- 'laws.FnTrees': WHATEVER THE INPUT: true; the input reads as it did. -/
def fnTreesSpec : ChangeSpec := { name := "fnTrees", fn := fun _ => fun
  | [d1, d2] => { results := [.lit (.bool true)], args := [d1, d2] }
  | _ => none }
def fnTreesRow : OpenClaim := { program := "ytpleclmlcojkdaa", sum := "f3445f9c5c0c7a347780b481aaedd703cfa4fd530acd293fc90064adb953a332", func := "loop.example/g01079/laws.FnTrees", spec := "fnTrees", inPlace := ["internal/abi.NoEscape"], unfollowed := true, recurses := true, plainKeys := false, apart := false }
def FnTreesSaid : Prop := fnTreesRow.holds Try.pinned (OpenSpec.ofChange fnTreesSpec)

/-- ITS FALSE NEIGHBOUR: 'it returns false'. Refute it at one input. -/
def fnTreesWrong : ChangeSpec := { name := "fnTrees", fn := fun _ => fun
  | [d1, d2] => { results := [.lit (.bool false)], args := [d1, d2] }
  | _ => none }
def FnTreesWrongFalsely : Prop := fnTreesRow.holds Try.pinned (OpenSpec.ofChange fnTreesWrong)

/-- 'laws.FnPairs': WHATEVER THE INPUT: true; the input reads as it did. -/
def fnPairsSpec : ChangeSpec := { name := "fnPairs", fn := fun _ => fun
  | [d] => { results := [.lit (.bool true)], args := [d] }
  | _ => none }
def fnPairsRow : OpenClaim := { program := "ytpleclmlcojkdaa", sum := "f3445f9c5c0c7a347780b481aaedd703cfa4fd530acd293fc90064adb953a332", func := "loop.example/g01079/laws.FnPairs", spec := "fnPairs", unfollowed := true, recurses := true, plainKeys := false, apart := false }
def FnPairsSaid : Prop := fnPairsRow.holds Try.pinned (OpenSpec.ofChange fnPairsSpec)

/-- ITS FALSE NEIGHBOUR: 'it returns false'. Refute it at one input. -/
def fnPairsWrong : ChangeSpec := { name := "fnPairs", fn := fun _ => fun
  | [d] => { results := [.lit (.bool false)], args := [d] }
  | _ => none }
def FnPairsWrongFalsely : Prop := fnPairsRow.holds Try.pinned (OpenSpec.ofChange fnPairsWrong)

/-- 'laws.FnCodes': WHATEVER THE INPUT: true; the input reads as it did. -/
def fnCodesSpec : ChangeSpec := { name := "fnCodes", fn := fun _ => fun
  | [d1, d2] => { results := [.lit (.bool true)], args := [d1, d2] }
  | _ => none }
def fnCodesRow : OpenClaim := { program := "ytpleclmlcojkdaa", sum := "f3445f9c5c0c7a347780b481aaedd703cfa4fd530acd293fc90064adb953a332", func := "loop.example/g01079/laws.FnCodes", spec := "fnCodes", unfollowed := true, recurses := true, plainKeys := false, apart := false }
def FnCodesSaid : Prop := fnCodesRow.holds Try.pinned (OpenSpec.ofChange fnCodesSpec)

/-- ITS FALSE NEIGHBOUR: 'it returns false'. Refute it at one input. -/
def fnCodesWrong : ChangeSpec := { name := "fnCodes", fn := fun _ => fun
  | [d1, d2] => { results := [.lit (.bool false)], args := [d1, d2] }
  | _ => none }
def FnCodesWrongFalsely : Prop := fnCodesRow.holds Try.pinned (OpenSpec.ofChange fnCodesWrong)

/-- 'laws.FnBranch': WHATEVER THE INPUT: true; the input reads as it did. -/
def fnBranchSpec : ChangeSpec := { name := "fnBranch", fn := fun _ => fun
  | [d1, d2] => { results := [.lit (.bool true)], args := [d1, d2] }
  | _ => none }
def fnBranchRow : OpenClaim := { program := "ytpleclmlcojkdaa", sum := "f3445f9c5c0c7a347780b481aaedd703cfa4fd530acd293fc90064adb953a332", func := "loop.example/g01079/laws.FnBranch", spec := "fnBranch", unfollowed := true, recurses := true, plainKeys := false, apart := false }
def FnBranchSaid : Prop := fnBranchRow.holds Try.pinned (OpenSpec.ofChange fnBranchSpec)

/-- ITS FALSE NEIGHBOUR: 'it returns false'. Refute it at one input. -/
def fnBranchWrong : ChangeSpec := { name := "fnBranch", fn := fun _ => fun
  | [d1, d2] => { results := [.lit (.bool false)], args := [d1, d2] }
  | _ => none }
def FnBranchWrongFalsely : Prop := fnBranchRow.holds Try.pinned (OpenSpec.ofChange fnBranchWrong)

/-- 'laws.FnExactRunWhile': WHATEVER THE INPUT: true; the input reads as it did. -/
def fnExactRunWhileSpec : ChangeSpec := { name := "fnExactRunWhile", fn := fun _ => fun
  | [d1, d2, d3] => { results := [.lit (.bool true)], args := [d1, d2, d3] }
  | _ => none }
def fnExactRunWhileRow : OpenClaim := { program := "ytpleclmlcojkdaa", sum := "f3445f9c5c0c7a347780b481aaedd703cfa4fd530acd293fc90064adb953a332", func := "loop.example/g01079/laws.FnExactRunWhile", spec := "fnExactRunWhile", unfollowed := true, recurses := true, plainKeys := false, apart := false }
def FnExactRunWhileSaid : Prop := fnExactRunWhileRow.holds Try.pinned (OpenSpec.ofChange fnExactRunWhileSpec)

/-- ITS FALSE NEIGHBOUR: 'it returns false'. Refute it at one input. -/
def fnExactRunWhileWrong : ChangeSpec := { name := "fnExactRunWhile", fn := fun _ => fun
  | [d1, d2, d3] => { results := [.lit (.bool false)], args := [d1, d2, d3] }
  | _ => none }
def FnExactRunWhileWrongFalsely : Prop := fnExactRunWhileRow.holds Try.pinned (OpenSpec.ofChange fnExactRunWhileWrong)

/-- 'laws.FnExactRunStore': WHATEVER THE INPUT: true; the input reads as it did. -/
def fnExactRunStoreSpec : ChangeSpec := { name := "fnExactRunStore", fn := fun _ => fun
  | [d1, d2, d3] => { results := [.lit (.bool true)], args := [d1, d2, d3] }
  | _ => none }
def fnExactRunStoreRow : OpenClaim := { program := "ytpleclmlcojkdaa", sum := "f3445f9c5c0c7a347780b481aaedd703cfa4fd530acd293fc90064adb953a332", func := "loop.example/g01079/laws.FnExactRunStore", spec := "fnExactRunStore", unfollowed := true, recurses := true, plainKeys := false, apart := false }
def FnExactRunStoreSaid : Prop := fnExactRunStoreRow.holds Try.pinned (OpenSpec.ofChange fnExactRunStoreSpec)

/-- ITS FALSE NEIGHBOUR: 'it returns false'. Refute it at one input. -/
def fnExactRunStoreWrong : ChangeSpec := { name := "fnExactRunStore", fn := fun _ => fun
  | [d1, d2, d3] => { results := [.lit (.bool false)], args := [d1, d2, d3] }
  | _ => none }
def FnExactRunStoreWrongFalsely : Prop := fnExactRunStoreRow.holds Try.pinned (OpenSpec.ofChange fnExactRunStoreWrong)

/- THE SECOND FORM. 'bulk': how many values and letters a reading holds, each counted each time it is reached (what is shared counts as often as it is met; a slice's spare places count too). A statement '..UptoSaid' is the law's where the arguments, and the package variables that the reading takes, are together of bulk at most 1048576: NARROWER than '..Said'. Prove '..Said' where nothing that the law and all that it calls make is longer than what came in: it says more and counts as full. Else prove '..UptoSaid'. A law counts once. -/
mutual
def uptoBulk {H : Type} : DataW H → Nat
  | .lit (.string bytes) => bytes.length + 1
  | .lit _ => 1
  | .nil => 1
  | .ptr d => uptoBulk d + 1
  | .slice elems spare => uptoBulkAll elems + uptoBulkAll spare + 1
  | .agg parts => uptoBulkAll parts + 1
  | .iface _ d => uptoBulk d + 1
  | .map entries => uptoBulkEntries entries + 1
  | .held _ => 1
def uptoBulkAll {H : Type} : List (DataW H) → Nat
  | [] => 0
  | d :: r => uptoBulk d + uptoBulkAll r
def uptoBulkEntries {H : Type} : List (Lit × DataW H) → Nat
  | [] => 0
  | x :: r => uptoBulkEntry x + uptoBulkEntries r
def uptoBulkEntry {H : Type} : Lit × DataW H → Nat
  | (.string bytes, d) => bytes.length + uptoBulk d + 1
  | (_, d) => uptoBulk d + 1
 end
def uptoSmall : (H : Type) → List (DataW H) → Bool := fun _ ds => decide (uptoBulkAll ds ≤ 1048576)
def OpenSpec.upto (s : _root_.Go.ChangeSpec) : _root_.Go.OpenSpec := { _root_.Go.OpenSpec.ofChange s with cond := some uptoSmall }

/-- 'laws.FnTrees', WHERE WHAT IT READS IS OF BULK AT MOST 1048576: true; the input reads as it did. -/
def fnTreesUptoRow : OpenClaim := { program := "ytpleclmlcojkdaa", sum := "f3445f9c5c0c7a347780b481aaedd703cfa4fd530acd293fc90064adb953a332", func := "loop.example/g01079/laws.FnTrees", spec := "fnTrees", inPlace := ["internal/abi.NoEscape"], unfollowed := true, recurses := true, plainKeys := false, apart := false, narrowed := true }
def FnTreesUptoSaid : Prop := fnTreesUptoRow.holds Try.pinned (OpenSpec.upto fnTreesSpec)

/-- 'laws.FnPairs', WHERE WHAT IT READS IS OF BULK AT MOST 1048576: true; the input reads as it did. -/
def fnPairsUptoRow : OpenClaim := { program := "ytpleclmlcojkdaa", sum := "f3445f9c5c0c7a347780b481aaedd703cfa4fd530acd293fc90064adb953a332", func := "loop.example/g01079/laws.FnPairs", spec := "fnPairs", unfollowed := true, recurses := true, plainKeys := false, apart := false, narrowed := true }
def FnPairsUptoSaid : Prop := fnPairsUptoRow.holds Try.pinned (OpenSpec.upto fnPairsSpec)

/-- 'laws.FnCodes', WHERE WHAT IT READS IS OF BULK AT MOST 1048576: true; the input reads as it did. -/
def fnCodesUptoRow : OpenClaim := { program := "ytpleclmlcojkdaa", sum := "f3445f9c5c0c7a347780b481aaedd703cfa4fd530acd293fc90064adb953a332", func := "loop.example/g01079/laws.FnCodes", spec := "fnCodes", unfollowed := true, recurses := true, plainKeys := false, apart := false, narrowed := true }
def FnCodesUptoSaid : Prop := fnCodesUptoRow.holds Try.pinned (OpenSpec.upto fnCodesSpec)

/-- 'laws.FnBranch', WHERE WHAT IT READS IS OF BULK AT MOST 1048576: true; the input reads as it did. -/
def fnBranchUptoRow : OpenClaim := { program := "ytpleclmlcojkdaa", sum := "f3445f9c5c0c7a347780b481aaedd703cfa4fd530acd293fc90064adb953a332", func := "loop.example/g01079/laws.FnBranch", spec := "fnBranch", unfollowed := true, recurses := true, plainKeys := false, apart := false, narrowed := true }
def FnBranchUptoSaid : Prop := fnBranchUptoRow.holds Try.pinned (OpenSpec.upto fnBranchSpec)

/-- 'laws.FnExactRunWhile', WHERE WHAT IT READS IS OF BULK AT MOST 1048576: true; the input reads as it did. -/
def fnExactRunWhileUptoRow : OpenClaim := { program := "ytpleclmlcojkdaa", sum := "f3445f9c5c0c7a347780b481aaedd703cfa4fd530acd293fc90064adb953a332", func := "loop.example/g01079/laws.FnExactRunWhile", spec := "fnExactRunWhile", unfollowed := true, recurses := true, plainKeys := false, apart := false, narrowed := true }
def FnExactRunWhileUptoSaid : Prop := fnExactRunWhileUptoRow.holds Try.pinned (OpenSpec.upto fnExactRunWhileSpec)

/-- 'laws.FnExactRunStore', WHERE WHAT IT READS IS OF BULK AT MOST 1048576: true; the input reads as it did. -/
def fnExactRunStoreUptoRow : OpenClaim := { program := "ytpleclmlcojkdaa", sum := "f3445f9c5c0c7a347780b481aaedd703cfa4fd530acd293fc90064adb953a332", func := "loop.example/g01079/laws.FnExactRunStore", spec := "fnExactRunStore", unfollowed := true, recurses := true, plainKeys := false, apart := false, narrowed := true }
def FnExactRunStoreUptoSaid : Prop := fnExactRunStoreUptoRow.holds Try.pinned (OpenSpec.upto fnExactRunStoreSpec)

end Rows
end Go.Proofs.Ytpleclmlcojkdaa
