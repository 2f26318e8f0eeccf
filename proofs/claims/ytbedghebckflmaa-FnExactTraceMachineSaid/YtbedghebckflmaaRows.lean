/-
  No cell of these rows narrows 'for every input' (looked for: loops, veiled, ifaces, maps, wideKeys, modest, calm, conditions, laid).
  DERIVED. THE GIVEN ROWS OF THIS SEAT. 12 by the template 'for every input the law returns true; each argument reads behind the call as it read before'; 0 by the template 'total and deterministic' (their statements: YtbedghebckflmaaTotals.lean).
  GIVEN WITH THE SEED: the statements are not yours to turn. If you find one false, say at which input.
  Laid BY PROGRAM, IN A SANDBOX (cutbox-rows.mjs): the forced cells as the released guide's own fill.sh prints them over the translation a3885edb59d0ba58… (all of the seat's roots in one cut). By AI agents, Wed Nov 11 2026. No macro, syntax, notation, axiom, sorry.
-/
import Derived.Test.YtbedghebckflmaaChecked
import GoSem.Claim
import GoSem.ClaimJoined
import GoSem.ClaimMapViews
import Derived.JoinedTies
import Derived.KernelRfl
namespace Go.Proofs.Ytbedghebckflmaa
/- THE CELL 'sum', in the pinned program and in every row, IS THE sha256 OF THE DUMP (.gsa) THAT YtbedghebckflmaaProg.lean LOADS. Nothing in Lean hashes anything: it is a label: what it is worth is what the hold of that sum in a sandbox is worth. -/
noncomputable def Try.pinned : Pinned := { name := "ytbedghebckflmaa", sum := "a3885edb59d0ba58476ceac61e81f29f8cc582875bd421d682f53910c7b78349", checked := Try.checked }
namespace Rows
def none {H : Type} : Left H := { results := [], args := [] }

/-- 'laws.FnExactNodeStatus': WHATEVER THE INPUT: true; the input reads as it did. -/
def fnExactNodeStatusSpec : ChangeSpec := { name := "fnExactNodeStatus", fn := fun _ => fun
  | [d1, d2] => { results := [.lit (.bool true)], args := [d1, d2] }
  | _ => none }
def fnExactNodeStatusRow : OpenClaim := { program := "ytbedghebckflmaa", sum := "a3885edb59d0ba58476ceac61e81f29f8cc582875bd421d682f53910c7b78349", func := "loop.example/g01079/laws.FnExactNodeStatus", spec := "fnExactNodeStatus", unfollowed := true, recurses := true, apart := false }
def FnExactNodeStatusSaid : Prop := fnExactNodeStatusRow.holds Try.pinned (OpenSpec.ofChange fnExactNodeStatusSpec)

/-- ITS FALSE NEIGHBOUR: 'it returns false'. Refute it at one input. -/
def fnExactNodeStatusWrong : ChangeSpec := { name := "fnExactNodeStatus", fn := fun _ => fun
  | [d1, d2] => { results := [.lit (.bool false)], args := [d1, d2] }
  | _ => none }
def FnExactNodeStatusWrongFalsely : Prop := fnExactNodeStatusRow.holds Try.pinned (OpenSpec.ofChange fnExactNodeStatusWrong)

/-- 'laws.FnExactStepMachine': WHATEVER THE INPUT: true; the input reads as it did. -/
def fnExactStepMachineSpec : ChangeSpec := { name := "fnExactStepMachine", fn := fun _ => fun
  | [d1, d2] => { results := [.lit (.bool true)], args := [d1, d2] }
  | _ => none }
def fnExactStepMachineRow : OpenClaim := { program := "ytbedghebckflmaa", sum := "a3885edb59d0ba58476ceac61e81f29f8cc582875bd421d682f53910c7b78349", func := "loop.example/g01079/laws.FnExactStepMachine", spec := "fnExactStepMachine", unfollowed := true, recurses := true, apart := false }
def FnExactStepMachineSaid : Prop := fnExactStepMachineRow.holds Try.pinned (OpenSpec.ofChange fnExactStepMachineSpec)

/-- ITS FALSE NEIGHBOUR: 'it returns false'. Refute it at one input. -/
def fnExactStepMachineWrong : ChangeSpec := { name := "fnExactStepMachine", fn := fun _ => fun
  | [d1, d2] => { results := [.lit (.bool false)], args := [d1, d2] }
  | _ => none }
def FnExactStepMachineWrongFalsely : Prop := fnExactStepMachineRow.holds Try.pinned (OpenSpec.ofChange fnExactStepMachineWrong)

/-- 'laws.FnExactUsedRules': WHATEVER THE INPUT: true; the input reads as it did. -/
def fnExactUsedRulesSpec : ChangeSpec := { name := "fnExactUsedRules", fn := fun _ => fun
  | [d1, d2, d3] => { results := [.lit (.bool true)], args := [d1, d2, d3] }
  | _ => none }
def fnExactUsedRulesRow : OpenClaim := { program := "ytbedghebckflmaa", sum := "a3885edb59d0ba58476ceac61e81f29f8cc582875bd421d682f53910c7b78349", func := "loop.example/g01079/laws.FnExactUsedRules", spec := "fnExactUsedRules", unfollowed := true, recurses := true, apart := false }
def FnExactUsedRulesSaid : Prop := fnExactUsedRulesRow.holds Try.pinned (OpenSpec.ofChange fnExactUsedRulesSpec)

/-- ITS FALSE NEIGHBOUR: 'it returns false'. Refute it at one input. -/
def fnExactUsedRulesWrong : ChangeSpec := { name := "fnExactUsedRules", fn := fun _ => fun
  | [d1, d2, d3] => { results := [.lit (.bool false)], args := [d1, d2, d3] }
  | _ => none }
def FnExactUsedRulesWrongFalsely : Prop := fnExactUsedRulesRow.holds Try.pinned (OpenSpec.ofChange fnExactUsedRulesWrong)

/-- 'laws.FnExactRunMachine': WHATEVER THE INPUT: true; the input reads as it did. -/
def fnExactRunMachineSpec : ChangeSpec := { name := "fnExactRunMachine", fn := fun _ => fun
  | [d1, d2, d3] => { results := [.lit (.bool true)], args := [d1, d2, d3] }
  | _ => none }
def fnExactRunMachineRow : OpenClaim := { program := "ytbedghebckflmaa", sum := "a3885edb59d0ba58476ceac61e81f29f8cc582875bd421d682f53910c7b78349", func := "loop.example/g01079/laws.FnExactRunMachine", spec := "fnExactRunMachine", unfollowed := true, recurses := true, apart := false }
def FnExactRunMachineSaid : Prop := fnExactRunMachineRow.holds Try.pinned (OpenSpec.ofChange fnExactRunMachineSpec)

/-- ITS FALSE NEIGHBOUR: 'it returns false'. Refute it at one input. -/
def fnExactRunMachineWrong : ChangeSpec := { name := "fnExactRunMachine", fn := fun _ => fun
  | [d1, d2, d3] => { results := [.lit (.bool false)], args := [d1, d2, d3] }
  | _ => none }
def FnExactRunMachineWrongFalsely : Prop := fnExactRunMachineRow.holds Try.pinned (OpenSpec.ofChange fnExactRunMachineWrong)

/-- 'laws.FnExactCheckHalt': WHATEVER THE INPUT: true; the input reads as it did. -/
def fnExactCheckHaltSpec : ChangeSpec := { name := "fnExactCheckHalt", fn := fun _ => fun
  | [d1, d2] => { results := [.lit (.bool true)], args := [d1, d2] }
  | _ => none }
def fnExactCheckHaltRow : OpenClaim := { program := "ytbedghebckflmaa", sum := "a3885edb59d0ba58476ceac61e81f29f8cc582875bd421d682f53910c7b78349", func := "loop.example/g01079/laws.FnExactCheckHalt", spec := "fnExactCheckHalt", unfollowed := true, recurses := true, apart := false }
def FnExactCheckHaltSaid : Prop := fnExactCheckHaltRow.holds Try.pinned (OpenSpec.ofChange fnExactCheckHaltSpec)

/-- ITS FALSE NEIGHBOUR: 'it returns false'. Refute it at one input. -/
def fnExactCheckHaltWrong : ChangeSpec := { name := "fnExactCheckHalt", fn := fun _ => fun
  | [d1, d2] => { results := [.lit (.bool false)], args := [d1, d2] }
  | _ => none }
def FnExactCheckHaltWrongFalsely : Prop := fnExactCheckHaltRow.holds Try.pinned (OpenSpec.ofChange fnExactCheckHaltWrong)

/-- 'laws.FnExactSpaceProfile': WHATEVER THE INPUT: true; the input reads as it did. -/
def fnExactSpaceProfileSpec : ChangeSpec := { name := "fnExactSpaceProfile", fn := fun _ => fun
  | [d1, d2, d3] => { results := [.lit (.bool true)], args := [d1, d2, d3] }
  | _ => none }
def fnExactSpaceProfileRow : OpenClaim := { program := "ytbedghebckflmaa", sum := "a3885edb59d0ba58476ceac61e81f29f8cc582875bd421d682f53910c7b78349", func := "loop.example/g01079/laws.FnExactSpaceProfile", spec := "fnExactSpaceProfile", unfollowed := true, recurses := true, apart := false }
def FnExactSpaceProfileSaid : Prop := fnExactSpaceProfileRow.holds Try.pinned (OpenSpec.ofChange fnExactSpaceProfileSpec)

/-- ITS FALSE NEIGHBOUR: 'it returns false'. Refute it at one input. -/
def fnExactSpaceProfileWrong : ChangeSpec := { name := "fnExactSpaceProfile", fn := fun _ => fun
  | [d1, d2, d3] => { results := [.lit (.bool false)], args := [d1, d2, d3] }
  | _ => none }
def FnExactSpaceProfileWrongFalsely : Prop := fnExactSpaceProfileRow.holds Try.pinned (OpenSpec.ofChange fnExactSpaceProfileWrong)

/-- 'laws.FnExactFindHalt': WHATEVER THE INPUT: true; the input reads as it did. -/
def fnExactFindHaltSpec : ChangeSpec := { name := "fnExactFindHalt", fn := fun _ => fun
  | [d1, d2] => { results := [.lit (.bool true)], args := [d1, d2] }
  | _ => none }
def fnExactFindHaltRow : OpenClaim := { program := "ytbedghebckflmaa", sum := "a3885edb59d0ba58476ceac61e81f29f8cc582875bd421d682f53910c7b78349", func := "loop.example/g01079/laws.FnExactFindHalt", spec := "fnExactFindHalt", unfollowed := true, recurses := true, apart := false }
def FnExactFindHaltSaid : Prop := fnExactFindHaltRow.holds Try.pinned (OpenSpec.ofChange fnExactFindHaltSpec)

/-- ITS FALSE NEIGHBOUR: 'it returns false'. Refute it at one input. -/
def fnExactFindHaltWrong : ChangeSpec := { name := "fnExactFindHalt", fn := fun _ => fun
  | [d1, d2] => { results := [.lit (.bool false)], args := [d1, d2] }
  | _ => none }
def FnExactFindHaltWrongFalsely : Prop := fnExactFindHaltRow.holds Try.pinned (OpenSpec.ofChange fnExactFindHaltWrong)

/-- 'laws.FnExactTraceMachine': WHATEVER THE INPUT: true; the input reads as it did. -/
def fnExactTraceMachineSpec : ChangeSpec := { name := "fnExactTraceMachine", fn := fun _ => fun
  | [d1, d2, d3] => { results := [.lit (.bool true)], args := [d1, d2, d3] }
  | _ => none }
def fnExactTraceMachineRow : OpenClaim := { program := "ytbedghebckflmaa", sum := "a3885edb59d0ba58476ceac61e81f29f8cc582875bd421d682f53910c7b78349", func := "loop.example/g01079/laws.FnExactTraceMachine", spec := "fnExactTraceMachine", unfollowed := true, recurses := true, apart := false }
def FnExactTraceMachineSaid : Prop := fnExactTraceMachineRow.holds Try.pinned (OpenSpec.ofChange fnExactTraceMachineSpec)

/-- ITS FALSE NEIGHBOUR: 'it returns false'. Refute it at one input. -/
def fnExactTraceMachineWrong : ChangeSpec := { name := "fnExactTraceMachine", fn := fun _ => fun
  | [d1, d2, d3] => { results := [.lit (.bool false)], args := [d1, d2, d3] }
  | _ => none }
def FnExactTraceMachineWrongFalsely : Prop := fnExactTraceMachineRow.holds Try.pinned (OpenSpec.ofChange fnExactTraceMachineWrong)

/-- 'laws.FnExactCheckCycle': WHATEVER THE INPUT: true; the input reads as it did. -/
def fnExactCheckCycleSpec : ChangeSpec := { name := "fnExactCheckCycle", fn := fun _ => fun
  | [d1, d2] => { results := [.lit (.bool true)], args := [d1, d2] }
  | _ => none }
def fnExactCheckCycleRow : OpenClaim := { program := "ytbedghebckflmaa", sum := "a3885edb59d0ba58476ceac61e81f29f8cc582875bd421d682f53910c7b78349", func := "loop.example/g01079/laws.FnExactCheckCycle", spec := "fnExactCheckCycle", unfollowed := true, recurses := true, apart := false }
def FnExactCheckCycleSaid : Prop := fnExactCheckCycleRow.holds Try.pinned (OpenSpec.ofChange fnExactCheckCycleSpec)

/-- ITS FALSE NEIGHBOUR: 'it returns false'. Refute it at one input. -/
def fnExactCheckCycleWrong : ChangeSpec := { name := "fnExactCheckCycle", fn := fun _ => fun
  | [d1, d2] => { results := [.lit (.bool false)], args := [d1, d2] }
  | _ => none }
def FnExactCheckCycleWrongFalsely : Prop := fnExactCheckCycleRow.holds Try.pinned (OpenSpec.ofChange fnExactCheckCycleWrong)

/-- 'laws.FnExactTimeTable': WHATEVER THE INPUT: true; the input reads as it did. -/
def fnExactTimeTableSpec : ChangeSpec := { name := "fnExactTimeTable", fn := fun _ => fun
  | [d1, d2, d3] => { results := [.lit (.bool true)], args := [d1, d2, d3] }
  | _ => none }
def fnExactTimeTableRow : OpenClaim := { program := "ytbedghebckflmaa", sum := "a3885edb59d0ba58476ceac61e81f29f8cc582875bd421d682f53910c7b78349", func := "loop.example/g01079/laws.FnExactTimeTable", spec := "fnExactTimeTable", unfollowed := true, recurses := true, apart := false }
def FnExactTimeTableSaid : Prop := fnExactTimeTableRow.holds Try.pinned (OpenSpec.ofChange fnExactTimeTableSpec)

/-- ITS FALSE NEIGHBOUR: 'it returns false'. Refute it at one input. -/
def fnExactTimeTableWrong : ChangeSpec := { name := "fnExactTimeTable", fn := fun _ => fun
  | [d1, d2, d3] => { results := [.lit (.bool false)], args := [d1, d2, d3] }
  | _ => none }
def FnExactTimeTableWrongFalsely : Prop := fnExactTimeTableRow.holds Try.pinned (OpenSpec.ofChange fnExactTimeTableWrong)

/-- 'laws.FnExactTnfChildren': WHATEVER THE INPUT: true; the input reads as it did. -/
def fnExactTnfChildrenSpec : ChangeSpec := { name := "fnExactTnfChildren", fn := fun _ => fun
  | [d1, d2] => { results := [.lit (.bool true)], args := [d1, d2] }
  | _ => none }
def fnExactTnfChildrenRow : OpenClaim := { program := "ytbedghebckflmaa", sum := "a3885edb59d0ba58476ceac61e81f29f8cc582875bd421d682f53910c7b78349", func := "loop.example/g01079/laws.FnExactTnfChildren", spec := "fnExactTnfChildren", unfollowed := true, recurses := true, apart := false }
def FnExactTnfChildrenSaid : Prop := fnExactTnfChildrenRow.holds Try.pinned (OpenSpec.ofChange fnExactTnfChildrenSpec)

/-- ITS FALSE NEIGHBOUR: 'it returns false'. Refute it at one input. -/
def fnExactTnfChildrenWrong : ChangeSpec := { name := "fnExactTnfChildren", fn := fun _ => fun
  | [d1, d2] => { results := [.lit (.bool false)], args := [d1, d2] }
  | _ => none }
def FnExactTnfChildrenWrongFalsely : Prop := fnExactTnfChildrenRow.holds Try.pinned (OpenSpec.ofChange fnExactTnfChildrenWrong)

/-- 'laws.FnExactWorstTimes': WHATEVER THE INPUT: true; the input reads as it did. -/
def fnExactWorstTimesSpec : ChangeSpec := { name := "fnExactWorstTimes", fn := fun _ => fun
  | [d1, d2, d3, d4] => { results := [.lit (.bool true)], args := [d1, d2, d3, d4] }
  | _ => none }
def fnExactWorstTimesRow : OpenClaim := { program := "ytbedghebckflmaa", sum := "a3885edb59d0ba58476ceac61e81f29f8cc582875bd421d682f53910c7b78349", func := "loop.example/g01079/laws.FnExactWorstTimes", spec := "fnExactWorstTimes", unfollowed := true, recurses := true, apart := false }
def FnExactWorstTimesSaid : Prop := fnExactWorstTimesRow.holds Try.pinned (OpenSpec.ofChange fnExactWorstTimesSpec)

/-- ITS FALSE NEIGHBOUR: 'it returns false'. Refute it at one input. -/
def fnExactWorstTimesWrong : ChangeSpec := { name := "fnExactWorstTimes", fn := fun _ => fun
  | [d1, d2, d3, d4] => { results := [.lit (.bool false)], args := [d1, d2, d3, d4] }
  | _ => none }
def FnExactWorstTimesWrongFalsely : Prop := fnExactWorstTimesRow.holds Try.pinned (OpenSpec.ofChange fnExactWorstTimesWrong)

/- THE SECOND FORM. 'bulk': how many values and letters a reading holds, each counted each time it is reached (what is shared counts as often as it is met; a slice's spare places count too). A statement '..UptoSaid' is the law's where the arguments, and the package variables that the reading takes, are together of bulk at most 1048576: NARROWER than '..Said'. Prove '..Said' where nothing that the law and all that it calls make is longer than what came in: it says more and counts as full. Else prove '..UptoSaid'. A law counts once. -/
mutual
def uptoBulk {H : Type} : DataW H → Nat
  | .lit (.string bytes) => bytes.length + 1
  | .lit _ => 1
  | .nil => 1
  | .ptr d => uptoBulk d + 1
  | .slice elems spare => uptoBulkAll elems + uptoBulkAll spare + 1
  | .agg parts => uptoBulkAll parts + 1
  | .iface _ d => uptoBulk d + 1
  | .map entries => uptoBulkEntries entries + 1
  | .held _ => 1
def uptoBulkAll {H : Type} : List (DataW H) → Nat
  | [] => 0
  | d :: r => uptoBulk d + uptoBulkAll r
def uptoBulkEntries {H : Type} : List (Lit × DataW H) → Nat
  | [] => 0
  | x :: r => uptoBulkEntry x + uptoBulkEntries r
def uptoBulkEntry {H : Type} : Lit × DataW H → Nat
  | (.string bytes, d) => bytes.length + uptoBulk d + 1
  | (_, d) => uptoBulk d + 1
 end
def uptoSmall : (H : Type) → List (DataW H) → Bool := fun _ ds => decide (uptoBulkAll ds ≤ 1048576)
def OpenSpec.upto (s : _root_.Go.ChangeSpec) : _root_.Go.OpenSpec := { _root_.Go.OpenSpec.ofChange s with cond := some uptoSmall }

/-- 'laws.FnExactNodeStatus', WHERE WHAT IT READS IS OF BULK AT MOST 1048576: true; the input reads as it did. -/
def fnExactNodeStatusUptoRow : OpenClaim := { program := "ytbedghebckflmaa", sum := "a3885edb59d0ba58476ceac61e81f29f8cc582875bd421d682f53910c7b78349", func := "loop.example/g01079/laws.FnExactNodeStatus", spec := "fnExactNodeStatus", unfollowed := true, recurses := true, apart := false, narrowed := true }
def FnExactNodeStatusUptoSaid : Prop := fnExactNodeStatusUptoRow.holds Try.pinned (OpenSpec.upto fnExactNodeStatusSpec)

/-- 'laws.FnExactStepMachine', WHERE WHAT IT READS IS OF BULK AT MOST 1048576: true; the input reads as it did. -/
def fnExactStepMachineUptoRow : OpenClaim := { program := "ytbedghebckflmaa", sum := "a3885edb59d0ba58476ceac61e81f29f8cc582875bd421d682f53910c7b78349", func := "loop.example/g01079/laws.FnExactStepMachine", spec := "fnExactStepMachine", unfollowed := true, recurses := true, apart := false, narrowed := true }
def FnExactStepMachineUptoSaid : Prop := fnExactStepMachineUptoRow.holds Try.pinned (OpenSpec.upto fnExactStepMachineSpec)

/-- 'laws.FnExactUsedRules', WHERE WHAT IT READS IS OF BULK AT MOST 1048576: true; the input reads as it did. -/
def fnExactUsedRulesUptoRow : OpenClaim := { program := "ytbedghebckflmaa", sum := "a3885edb59d0ba58476ceac61e81f29f8cc582875bd421d682f53910c7b78349", func := "loop.example/g01079/laws.FnExactUsedRules", spec := "fnExactUsedRules", unfollowed := true, recurses := true, apart := false, narrowed := true }
def FnExactUsedRulesUptoSaid : Prop := fnExactUsedRulesUptoRow.holds Try.pinned (OpenSpec.upto fnExactUsedRulesSpec)

/-- 'laws.FnExactRunMachine', WHERE WHAT IT READS IS OF BULK AT MOST 1048576: true; the input reads as it did. -/
def fnExactRunMachineUptoRow : OpenClaim := { program := "ytbedghebckflmaa", sum := "a3885edb59d0ba58476ceac61e81f29f8cc582875bd421d682f53910c7b78349", func := "loop.example/g01079/laws.FnExactRunMachine", spec := "fnExactRunMachine", unfollowed := true, recurses := true, apart := false, narrowed := true }
def FnExactRunMachineUptoSaid : Prop := fnExactRunMachineUptoRow.holds Try.pinned (OpenSpec.upto fnExactRunMachineSpec)

/-- 'laws.FnExactCheckHalt', WHERE WHAT IT READS IS OF BULK AT MOST 1048576: true; the input reads as it did. -/
def fnExactCheckHaltUptoRow : OpenClaim := { program := "ytbedghebckflmaa", sum := "a3885edb59d0ba58476ceac61e81f29f8cc582875bd421d682f53910c7b78349", func := "loop.example/g01079/laws.FnExactCheckHalt", spec := "fnExactCheckHalt", unfollowed := true, recurses := true, apart := false, narrowed := true }
def FnExactCheckHaltUptoSaid : Prop := fnExactCheckHaltUptoRow.holds Try.pinned (OpenSpec.upto fnExactCheckHaltSpec)

/-- 'laws.FnExactSpaceProfile', WHERE WHAT IT READS IS OF BULK AT MOST 1048576: true; the input reads as it did. -/
def fnExactSpaceProfileUptoRow : OpenClaim := { program := "ytbedghebckflmaa", sum := "a3885edb59d0ba58476ceac61e81f29f8cc582875bd421d682f53910c7b78349", func := "loop.example/g01079/laws.FnExactSpaceProfile", spec := "fnExactSpaceProfile", unfollowed := true, recurses := true, apart := false, narrowed := true }
def FnExactSpaceProfileUptoSaid : Prop := fnExactSpaceProfileUptoRow.holds Try.pinned (OpenSpec.upto fnExactSpaceProfileSpec)

/-- 'laws.FnExactFindHalt', WHERE WHAT IT READS IS OF BULK AT MOST 1048576: true; the input reads as it did. -/
def fnExactFindHaltUptoRow : OpenClaim := { program := "ytbedghebckflmaa", sum := "a3885edb59d0ba58476ceac61e81f29f8cc582875bd421d682f53910c7b78349", func := "loop.example/g01079/laws.FnExactFindHalt", spec := "fnExactFindHalt", unfollowed := true, recurses := true, apart := false, narrowed := true }
def FnExactFindHaltUptoSaid : Prop := fnExactFindHaltUptoRow.holds Try.pinned (OpenSpec.upto fnExactFindHaltSpec)

/-- 'laws.FnExactTraceMachine', WHERE WHAT IT READS IS OF BULK AT MOST 1048576: true; the input reads as it did. -/
def fnExactTraceMachineUptoRow : OpenClaim := { program := "ytbedghebckflmaa", sum := "a3885edb59d0ba58476ceac61e81f29f8cc582875bd421d682f53910c7b78349", func := "loop.example/g01079/laws.FnExactTraceMachine", spec := "fnExactTraceMachine", unfollowed := true, recurses := true, apart := false, narrowed := true }
def FnExactTraceMachineUptoSaid : Prop := fnExactTraceMachineUptoRow.holds Try.pinned (OpenSpec.upto fnExactTraceMachineSpec)

/-- 'laws.FnExactCheckCycle', WHERE WHAT IT READS IS OF BULK AT MOST 1048576: true; the input reads as it did. -/
def fnExactCheckCycleUptoRow : OpenClaim := { program := "ytbedghebckflmaa", sum := "a3885edb59d0ba58476ceac61e81f29f8cc582875bd421d682f53910c7b78349", func := "loop.example/g01079/laws.FnExactCheckCycle", spec := "fnExactCheckCycle", unfollowed := true, recurses := true, apart := false, narrowed := true }
def FnExactCheckCycleUptoSaid : Prop := fnExactCheckCycleUptoRow.holds Try.pinned (OpenSpec.upto fnExactCheckCycleSpec)

/-- 'laws.FnExactTimeTable', WHERE WHAT IT READS IS OF BULK AT MOST 1048576: true; the input reads as it did. -/
def fnExactTimeTableUptoRow : OpenClaim := { program := "ytbedghebckflmaa", sum := "a3885edb59d0ba58476ceac61e81f29f8cc582875bd421d682f53910c7b78349", func := "loop.example/g01079/laws.FnExactTimeTable", spec := "fnExactTimeTable", unfollowed := true, recurses := true, apart := false, narrowed := true }
def FnExactTimeTableUptoSaid : Prop := fnExactTimeTableUptoRow.holds Try.pinned (OpenSpec.upto fnExactTimeTableSpec)

/-- 'laws.FnExactTnfChildren', WHERE WHAT IT READS IS OF BULK AT MOST 1048576: true; the input reads as it did. -/
def fnExactTnfChildrenUptoRow : OpenClaim := { program := "ytbedghebckflmaa", sum := "a3885edb59d0ba58476ceac61e81f29f8cc582875bd421d682f53910c7b78349", func := "loop.example/g01079/laws.FnExactTnfChildren", spec := "fnExactTnfChildren", unfollowed := true, recurses := true, apart := false, narrowed := true }
def FnExactTnfChildrenUptoSaid : Prop := fnExactTnfChildrenUptoRow.holds Try.pinned (OpenSpec.upto fnExactTnfChildrenSpec)

/-- 'laws.FnExactWorstTimes', WHERE WHAT IT READS IS OF BULK AT MOST 1048576: true; the input reads as it did. -/
def fnExactWorstTimesUptoRow : OpenClaim := { program := "ytbedghebckflmaa", sum := "a3885edb59d0ba58476ceac61e81f29f8cc582875bd421d682f53910c7b78349", func := "loop.example/g01079/laws.FnExactWorstTimes", spec := "fnExactWorstTimes", unfollowed := true, recurses := true, apart := false, narrowed := true }
def FnExactWorstTimesUptoSaid : Prop := fnExactWorstTimesUptoRow.holds Try.pinned (OpenSpec.upto fnExactWorstTimesSpec)

end Rows
end Go.Proofs.Ytbedghebckflmaa
