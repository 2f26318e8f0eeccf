/-
  No cell of these rows narrows 'for every input' (looked for: loops, veiled, ifaces, maps, wideKeys, modest, calm, conditions, laid).
  DERIVED. THE GIVEN ROWS OF THIS SEAT. 6 by the template 'for every input the law returns true; each argument reads behind the call as it read before'; 0 by the template 'total and deterministic' (their statements: YtfheepjfpgiaoaaTotals.lean).
  GIVEN WITH THE SEED: the statements are not yours to turn. If you find one false, say at which input.
  Laid BY PROGRAM, IN A SANDBOX (cutbox-rows.mjs): the forced cells as the released guide's own fill.sh prints them over the translation e2cfbc205b53e7bd… (all of the seat's roots in one cut). By AI agents, Wed Nov 11 2026. No macro, syntax, notation, axiom, sorry.
-/
import Derived.Test.YtfheepjfpgiaoaaChecked
import GoSem.Claim
import GoSem.ClaimJoined
import GoSem.ClaimMapViews
import Derived.JoinedTies
import Derived.KernelRfl
namespace Go.Proofs.Ytfheepjfpgiaoaa
/- THE CELL 'sum', in the pinned program and in every row, IS THE sha256 OF THE DUMP (.gsa) THAT YtfheepjfpgiaoaaProg.lean LOADS. Nothing in Lean hashes anything: it is a label: what it is worth is what the hold of that sum in a sandbox is worth. -/
noncomputable def Try.pinned : Pinned := { name := "ytfheepjfpgiaoaa", sum := "e2cfbc205b53e7bdac1c87b2fd200d6fb02a2510545be74b3c753512fcb65376", checked := Try.checked }
namespace Rows
def none {H : Type} : Left H := { results := [], args := [] }

/-- 'laws.FnExactRunStore': WHATEVER THE INPUT: true; the input reads as it did. -/
def fnExactRunStoreSpec : ChangeSpec := { name := "fnExactRunStore", fn := fun _ => fun
  | [d1, d2, d3] => { results := [.lit (.bool true)], args := [d1, d2, d3] }
  | _ => none }
def fnExactRunStoreRow : OpenClaim := { program := "ytfheepjfpgiaoaa", sum := "e2cfbc205b53e7bdac1c87b2fd200d6fb02a2510545be74b3c753512fcb65376", func := "loop.example/g01079/laws.FnExactRunStore", spec := "fnExactRunStore", unfollowed := true, recurses := true, plainKeys := false, apart := false }
def FnExactRunStoreSaid : Prop := fnExactRunStoreRow.holds Try.pinned (OpenSpec.ofChange fnExactRunStoreSpec)

/-- ITS FALSE NEIGHBOUR: 'it returns false'. Refute it at one input. -/
def fnExactRunStoreWrong : ChangeSpec := { name := "fnExactRunStore", fn := fun _ => fun
  | [d1, d2, d3] => { results := [.lit (.bool false)], args := [d1, d2, d3] }
  | _ => none }
def FnExactRunStoreWrongFalsely : Prop := fnExactRunStoreRow.holds Try.pinned (OpenSpec.ofChange fnExactRunStoreWrong)

/-- 'laws.FnBranch': WHATEVER THE INPUT: true; the input reads as it did. -/
def fnBranchSpec : ChangeSpec := { name := "fnBranch", fn := fun _ => fun
  | [d1, d2] => { results := [.lit (.bool true)], args := [d1, d2] }
  | _ => none }
def fnBranchRow : OpenClaim := { program := "ytfheepjfpgiaoaa", sum := "e2cfbc205b53e7bdac1c87b2fd200d6fb02a2510545be74b3c753512fcb65376", func := "loop.example/g01079/laws.FnBranch", spec := "fnBranch", unfollowed := true, recurses := true, plainKeys := false, apart := false }
def FnBranchSaid : Prop := fnBranchRow.holds Try.pinned (OpenSpec.ofChange fnBranchSpec)

/-- ITS FALSE NEIGHBOUR: 'it returns false'. Refute it at one input. -/
def fnBranchWrong : ChangeSpec := { name := "fnBranch", fn := fun _ => fun
  | [d1, d2] => { results := [.lit (.bool false)], args := [d1, d2] }
  | _ => none }
def FnBranchWrongFalsely : Prop := fnBranchRow.holds Try.pinned (OpenSpec.ofChange fnBranchWrong)

/-- 'laws.FnTrees': WHATEVER THE INPUT: true; the input reads as it did. -/
def fnTreesSpec : ChangeSpec := { name := "fnTrees", fn := fun _ => fun
  | [d1, d2] => { results := [.lit (.bool true)], args := [d1, d2] }
  | _ => none }
def fnTreesRow : OpenClaim := { program := "ytfheepjfpgiaoaa", sum := "e2cfbc205b53e7bdac1c87b2fd200d6fb02a2510545be74b3c753512fcb65376", func := "loop.example/g01079/laws.FnTrees", spec := "fnTrees", inPlace := ["internal/abi.NoEscape"], unfollowed := true, recurses := true, plainKeys := false, apart := false }
def FnTreesSaid : Prop := fnTreesRow.holds Try.pinned (OpenSpec.ofChange fnTreesSpec)

/-- ITS FALSE NEIGHBOUR: 'it returns false'. Refute it at one input. -/
def fnTreesWrong : ChangeSpec := { name := "fnTrees", fn := fun _ => fun
  | [d1, d2] => { results := [.lit (.bool false)], args := [d1, d2] }
  | _ => none }
def FnTreesWrongFalsely : Prop := fnTreesRow.holds Try.pinned (OpenSpec.ofChange fnTreesWrong)

/-- 'laws.FnByRewriting': WHATEVER THE INPUT: true; the input reads as it did. -/
def fnByRewritingSpec : ChangeSpec := { name := "fnByRewriting", fn := fun _ => fun
  | [d1, d2] => { results := [.lit (.bool true)], args := [d1, d2] }
  | _ => none }
def fnByRewritingRow : OpenClaim := { program := "ytfheepjfpgiaoaa", sum := "e2cfbc205b53e7bdac1c87b2fd200d6fb02a2510545be74b3c753512fcb65376", func := "loop.example/g01079/laws.FnByRewriting", spec := "fnByRewriting", unfollowed := true, recurses := true, plainKeys := false, apart := false }
def FnByRewritingSaid : Prop := fnByRewritingRow.holds Try.pinned (OpenSpec.ofChange fnByRewritingSpec)

/-- ITS FALSE NEIGHBOUR: 'it returns false'. Refute it at one input. -/
def fnByRewritingWrong : ChangeSpec := { name := "fnByRewriting", fn := fun _ => fun
  | [d1, d2] => { results := [.lit (.bool false)], args := [d1, d2] }
  | _ => none }
def FnByRewritingWrongFalsely : Prop := fnByRewritingRow.holds Try.pinned (OpenSpec.ofChange fnByRewritingWrong)

/-- 'laws.FnHistory': WHATEVER THE INPUT: true; the input reads as it did. -/
def fnHistorySpec : ChangeSpec := { name := "fnHistory", fn := fun _ => fun
  | [d1, d2] => { results := [.lit (.bool true)], args := [d1, d2] }
  | _ => none }
def fnHistoryRow : OpenClaim := { program := "ytfheepjfpgiaoaa", sum := "e2cfbc205b53e7bdac1c87b2fd200d6fb02a2510545be74b3c753512fcb65376", func := "loop.example/g01079/laws.FnHistory", spec := "fnHistory", unfollowed := true, recurses := true, plainKeys := false, apart := false }
def FnHistorySaid : Prop := fnHistoryRow.holds Try.pinned (OpenSpec.ofChange fnHistorySpec)

/-- ITS FALSE NEIGHBOUR: 'it returns false'. Refute it at one input. -/
def fnHistoryWrong : ChangeSpec := { name := "fnHistory", fn := fun _ => fun
  | [d1, d2] => { results := [.lit (.bool false)], args := [d1, d2] }
  | _ => none }
def FnHistoryWrongFalsely : Prop := fnHistoryRow.holds Try.pinned (OpenSpec.ofChange fnHistoryWrong)

/-- 'laws.FnBinary': WHATEVER THE INPUT: true; the input reads as it did. -/
def fnBinarySpec : ChangeSpec := { name := "fnBinary", fn := fun _ => fun
  | [d1, d2] => { results := [.lit (.bool true)], args := [d1, d2] }
  | _ => none }
def fnBinaryRow : OpenClaim := { program := "ytfheepjfpgiaoaa", sum := "e2cfbc205b53e7bdac1c87b2fd200d6fb02a2510545be74b3c753512fcb65376", func := "loop.example/g01079/laws.FnBinary", spec := "fnBinary", unfollowed := true, recurses := true, plainKeys := false, apart := false }
def FnBinarySaid : Prop := fnBinaryRow.holds Try.pinned (OpenSpec.ofChange fnBinarySpec)

/-- ITS FALSE NEIGHBOUR: 'it returns false'. Refute it at one input. -/
def fnBinaryWrong : ChangeSpec := { name := "fnBinary", fn := fun _ => fun
  | [d1, d2] => { results := [.lit (.bool false)], args := [d1, d2] }
  | _ => none }
def FnBinaryWrongFalsely : Prop := fnBinaryRow.holds Try.pinned (OpenSpec.ofChange fnBinaryWrong)

/- THE SECOND FORM. 'bulk': how many values and letters a reading holds, each counted each time it is reached (what is shared counts as often as it is met; a slice's spare places count too). A statement '..UptoSaid' is the law's where the arguments, and the package variables that the reading takes, are together of bulk at most 1048576: NARROWER than '..Said'. Prove '..Said' where nothing that the law and all that it calls make is longer than what came in: it says more and counts as full. Else prove '..UptoSaid'. A law counts once. -/
mutual
def uptoBulk {H : Type} : DataW H → Nat
  | .lit (.string bytes) => bytes.length + 1
  | .lit _ => 1
  | .nil => 1
  | .ptr d => uptoBulk d + 1
  | .slice elems spare => uptoBulkAll elems + uptoBulkAll spare + 1
  | .agg parts => uptoBulkAll parts + 1
  | .iface _ d => uptoBulk d + 1
  | .map entries => uptoBulkEntries entries + 1
  | .held _ => 1
def uptoBulkAll {H : Type} : List (DataW H) → Nat
  | [] => 0
  | d :: r => uptoBulk d + uptoBulkAll r
def uptoBulkEntries {H : Type} : List (Lit × DataW H) → Nat
  | [] => 0
  | x :: r => uptoBulkEntry x + uptoBulkEntries r
def uptoBulkEntry {H : Type} : Lit × DataW H → Nat
  | (.string bytes, d) => bytes.length + uptoBulk d + 1
  | (_, d) => uptoBulk d + 1
 end
def uptoSmall : (H : Type) → List (DataW H) → Bool := fun _ ds => decide (uptoBulkAll ds ≤ 1048576)
def OpenSpec.upto (s : _root_.Go.ChangeSpec) : _root_.Go.OpenSpec := { _root_.Go.OpenSpec.ofChange s with cond := some uptoSmall }

/-- 'laws.FnExactRunStore', WHERE WHAT IT READS IS OF BULK AT MOST 1048576: true; the input reads as it did. -/
def fnExactRunStoreUptoRow : OpenClaim := { program := "ytfheepjfpgiaoaa", sum := "e2cfbc205b53e7bdac1c87b2fd200d6fb02a2510545be74b3c753512fcb65376", func := "loop.example/g01079/laws.FnExactRunStore", spec := "fnExactRunStore", unfollowed := true, recurses := true, plainKeys := false, apart := false, narrowed := true }
def FnExactRunStoreUptoSaid : Prop := fnExactRunStoreUptoRow.holds Try.pinned (OpenSpec.upto fnExactRunStoreSpec)

/-- 'laws.FnBranch', WHERE WHAT IT READS IS OF BULK AT MOST 1048576: true; the input reads as it did. -/
def fnBranchUptoRow : OpenClaim := { program := "ytfheepjfpgiaoaa", sum := "e2cfbc205b53e7bdac1c87b2fd200d6fb02a2510545be74b3c753512fcb65376", func := "loop.example/g01079/laws.FnBranch", spec := "fnBranch", unfollowed := true, recurses := true, plainKeys := false, apart := false, narrowed := true }
def FnBranchUptoSaid : Prop := fnBranchUptoRow.holds Try.pinned (OpenSpec.upto fnBranchSpec)

/-- 'laws.FnTrees', WHERE WHAT IT READS IS OF BULK AT MOST 1048576: true; the input reads as it did. -/
def fnTreesUptoRow : OpenClaim := { program := "ytfheepjfpgiaoaa", sum := "e2cfbc205b53e7bdac1c87b2fd200d6fb02a2510545be74b3c753512fcb65376", func := "loop.example/g01079/laws.FnTrees", spec := "fnTrees", inPlace := ["internal/abi.NoEscape"], unfollowed := true, recurses := true, plainKeys := false, apart := false, narrowed := true }
def FnTreesUptoSaid : Prop := fnTreesUptoRow.holds Try.pinned (OpenSpec.upto fnTreesSpec)

/-- 'laws.FnByRewriting', WHERE WHAT IT READS IS OF BULK AT MOST 1048576: true; the input reads as it did. -/
def fnByRewritingUptoRow : OpenClaim := { program := "ytfheepjfpgiaoaa", sum := "e2cfbc205b53e7bdac1c87b2fd200d6fb02a2510545be74b3c753512fcb65376", func := "loop.example/g01079/laws.FnByRewriting", spec := "fnByRewriting", unfollowed := true, recurses := true, plainKeys := false, apart := false, narrowed := true }
def FnByRewritingUptoSaid : Prop := fnByRewritingUptoRow.holds Try.pinned (OpenSpec.upto fnByRewritingSpec)

/-- 'laws.FnHistory', WHERE WHAT IT READS IS OF BULK AT MOST 1048576: true; the input reads as it did. -/
def fnHistoryUptoRow : OpenClaim := { program := "ytfheepjfpgiaoaa", sum := "e2cfbc205b53e7bdac1c87b2fd200d6fb02a2510545be74b3c753512fcb65376", func := "loop.example/g01079/laws.FnHistory", spec := "fnHistory", unfollowed := true, recurses := true, plainKeys := false, apart := false, narrowed := true }
def FnHistoryUptoSaid : Prop := fnHistoryUptoRow.holds Try.pinned (OpenSpec.upto fnHistorySpec)

/-- 'laws.FnBinary', WHERE WHAT IT READS IS OF BULK AT MOST 1048576: true; the input reads as it did. -/
def fnBinaryUptoRow : OpenClaim := { program := "ytfheepjfpgiaoaa", sum := "e2cfbc205b53e7bdac1c87b2fd200d6fb02a2510545be74b3c753512fcb65376", func := "loop.example/g01079/laws.FnBinary", spec := "fnBinary", unfollowed := true, recurses := true, plainKeys := false, apart := false, narrowed := true }
def FnBinaryUptoSaid : Prop := fnBinaryUptoRow.holds Try.pinned (OpenSpec.upto fnBinarySpec)

end Rows
end Go.Proofs.Ytfheepjfpgiaoaa
