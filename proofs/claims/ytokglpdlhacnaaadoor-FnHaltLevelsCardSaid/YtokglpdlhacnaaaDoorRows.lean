/-
  NARROWER THAN 'FOR EVERY INPUT', by the rows' own cells (each row's printed sentence says how): FnExactRunLoop: ifaces, laid · FnExactNeverEnters: laid · FnExactBackwardDepth: laid · FnExactBackwardLevels: laid · FnExactAncestorsOf: laid · FnHaltLevels: laid.
  DERIVED. THE GIVEN ROWS OF THIS SEAT. 6 by the template 'for every input the law returns true; each argument reads behind the call as it read before'; 0 by the template 'total and deterministic' (their statements: YtokglpdlhacnaaaDoorTotals.lean).
  GIVEN WITH THE SEED: the statements are not yours to turn. If you find one false, say at which input.
  Laid BY PROGRAM, IN A SANDBOX (cutbox-rows.mjs): the forced cells as the released guide's own fill.sh prints them over the translation 593a190caab3baa5… (all of the seat's roots in one cut). By AI agents, Wed Nov 11 2026. No macro, syntax, notation, axiom, sorry.
-/
import Derived.Test.YtokglpdlhacnaaaDoorChecked
import GoSem.Claim
import GoSem.ClaimJoined
import GoSem.ClaimMapViews
import Derived.JoinedTies
import Derived.KernelRfl
namespace Go.Proofs.YtokglpdlhacnaaaDoor
/- THE CELL 'sum', in the pinned program and in every row, IS THE sha256 OF THE DUMP (.gsa) THAT YtokglpdlhacnaaaDoorProg.lean LOADS. Nothing in Lean hashes anything: it is a label: what it is worth is what the hold of that sum in a sandbox is worth. -/
noncomputable def Tryd.pinned : Pinned := { name := "ytokglpdlhacnaaadoor", sum := "593a190caab3baa58df3837dee258b173a0e31e83ceb87da047f7232a2bd8d18", checked := Tryd.checked }
namespace Rows
def none {H : Type} : Left H := { results := [], args := [] }

/- WHAT THE LISTED PACKAGE-LEVEL VARIABLES READ AS WHEN THE CALL BEGINS. Each datum BY PROGRAM (the guide's laid-datum.mjs) off the statement by which the dump's own 'gosem.cut.vars' lays the variable. In a bare row this is a premise. The card (YtokglpdlhacnaaaDoorCards.lean) ties it to the program's text. -/
def laid_loop_example_g01079_impl_errSteps {H : Type} : DataW H := .iface "*errors.errorString" (.ptr (.agg [.lit (.string [110, 111, 32, 115, 116, 101, 112, 32, 105, 115, 32, 108, 101, 102, 116])]))
def laid_loop_example_g01079_impl_errLarge {H : Type} : DataW H := .iface "*errors.errorString" (.ptr (.agg [.lit (.string [97, 32, 118, 97, 108, 117, 101, 32, 105, 115, 32, 116, 111, 111, 32, 103, 114, 101, 97, 116])]))
def laid_math_bits_deBruijn32tab {H : Type} : DataW H := .agg [.lit (.int .u8 0), .lit (.int .u8 1), .lit (.int .u8 28), .lit (.int .u8 2), .lit (.int .u8 29), .lit (.int .u8 14), .lit (.int .u8 24), .lit (.int .u8 3), .lit (.int .u8 30), .lit (.int .u8 22), .lit (.int .u8 20), .lit (.int .u8 15), .lit (.int .u8 25), .lit (.int .u8 17), .lit (.int .u8 4), .lit (.int .u8 8), .lit (.int .u8 31), .lit (.int .u8 27), .lit (.int .u8 13), .lit (.int .u8 23), .lit (.int .u8 21), .lit (.int .u8 19), .lit (.int .u8 16), .lit (.int .u8 7), .lit (.int .u8 26), .lit (.int .u8 12), .lit (.int .u8 18), .lit (.int .u8 6), .lit (.int .u8 11), .lit (.int .u8 5), .lit (.int .u8 10), .lit (.int .u8 9)]
def laid_math_bits_deBruijn64tab {H : Type} : DataW H := .agg [.lit (.int .u8 0), .lit (.int .u8 1), .lit (.int .u8 56), .lit (.int .u8 2), .lit (.int .u8 57), .lit (.int .u8 49), .lit (.int .u8 28), .lit (.int .u8 3), .lit (.int .u8 61), .lit (.int .u8 58), .lit (.int .u8 42), .lit (.int .u8 50), .lit (.int .u8 38), .lit (.int .u8 29), .lit (.int .u8 17), .lit (.int .u8 4), .lit (.int .u8 62), .lit (.int .u8 47), .lit (.int .u8 59), .lit (.int .u8 36), .lit (.int .u8 45), .lit (.int .u8 43), .lit (.int .u8 51), .lit (.int .u8 22), .lit (.int .u8 53), .lit (.int .u8 39), .lit (.int .u8 33), .lit (.int .u8 30), .lit (.int .u8 24), .lit (.int .u8 18), .lit (.int .u8 12), .lit (.int .u8 5), .lit (.int .u8 63), .lit (.int .u8 55), .lit (.int .u8 48), .lit (.int .u8 27), .lit (.int .u8 60), .lit (.int .u8 41), .lit (.int .u8 37), .lit (.int .u8 16), .lit (.int .u8 46), .lit (.int .u8 35), .lit (.int .u8 44), .lit (.int .u8 21), .lit (.int .u8 52), .lit (.int .u8 32), .lit (.int .u8 23), .lit (.int .u8 11), .lit (.int .u8 54), .lit (.int .u8 26), .lit (.int .u8 40), .lit (.int .u8 15), .lit (.int .u8 34), .lit (.int .u8 20), .lit (.int .u8 31), .lit (.int .u8 10), .lit (.int .u8 25), .lit (.int .u8 14), .lit (.int .u8 19), .lit (.int .u8 9), .lit (.int .u8 13), .lit (.int .u8 8), .lit (.int .u8 7), .lit (.int .u8 6)]
def laid_internal_strconv_uint64pow10 {H : Type} : DataW H := .agg [.lit (.int .u64 1), .lit (.int .u64 10), .lit (.int .u64 100), .lit (.int .u64 1000), .lit (.int .u64 10000), .lit (.int .u64 100000), .lit (.int .u64 1000000), .lit (.int .u64 10000000), .lit (.int .u64 100000000), .lit (.int .u64 1000000000), .lit (.int .u64 10000000000), .lit (.int .u64 100000000000), .lit (.int .u64 1000000000000), .lit (.int .u64 10000000000000), .lit (.int .u64 100000000000000), .lit (.int .u64 1000000000000000), .lit (.int .u64 10000000000000000), .lit (.int .u64 100000000000000000), .lit (.int .u64 1000000000000000000), .lit (.int .u64 10000000000000000000)]

/-- 'laws.FnExactRunLoop': WHATEVER THE INPUT: true; the input reads as it did. -/
def fnExactRunLoopSpec : ChangeSpec := { name := "fnExactRunLoop", vars := ["loop.example/g01079/impl.errLarge", "loop.example/g01079/impl.errSteps"], fn := fun _ => fun
  | [d1, d2, d3, g1, g2] => { results := [.lit (.bool true)], args := [d1, d2, d3], vars := [g1, g2] }
  | _ => none }
def fnExactRunLoopRow : OpenClaim := { program := "ytokglpdlhacnaaadoor", sum := "593a190caab3baa58df3837dee258b173a0e31e83ceb87da047f7232a2bd8d18", func := "loop.example/g01079/laws.FnExactRunLoop", spec := "fnExactRunLoop", unfollowed := true, recurses := true, named := ["loop.example/g01079/impl.errLarge", "loop.example/g01079/impl.errSteps"], ifaces := true, apart := false, laid := [("loop.example/g01079/impl.errSteps", laid_loop_example_g01079_impl_errSteps), ("loop.example/g01079/impl.errLarge", laid_loop_example_g01079_impl_errLarge)] }
def FnExactRunLoopSaid : Prop := fnExactRunLoopRow.holds Tryd.pinned (OpenSpec.ofChange fnExactRunLoopSpec)

/-- ITS FALSE NEIGHBOUR: 'it returns false'. Refute it at one input. -/
def fnExactRunLoopWrong : ChangeSpec := { name := "fnExactRunLoop", vars := ["loop.example/g01079/impl.errLarge", "loop.example/g01079/impl.errSteps"], fn := fun _ => fun
  | [d1, d2, d3, g1, g2] => { results := [.lit (.bool false)], args := [d1, d2, d3], vars := [g1, g2] }
  | _ => none }
def FnExactRunLoopWrongFalsely : Prop := fnExactRunLoopRow.holds Tryd.pinned (OpenSpec.ofChange fnExactRunLoopWrong)

/-- 'laws.FnExactNeverEnters': WHATEVER THE INPUT: true; the input reads as it did. -/
def fnExactNeverEntersSpec : ChangeSpec := { name := "fnExactNeverEnters", fn := fun _ => fun
  | [d1, d2, d3] => { results := [.lit (.bool true)], args := [d1, d2, d3] }
  | _ => none }
def fnExactNeverEntersRow : OpenClaim := { program := "ytokglpdlhacnaaadoor", sum := "593a190caab3baa58df3837dee258b173a0e31e83ceb87da047f7232a2bd8d18", func := "loop.example/g01079/laws.FnExactNeverEnters", spec := "fnExactNeverEnters", inPlace := ["internal/abi.NoEscape"], unfollowed := true, recurses := true, named := ["internal/strconv.uint64pow10", "math/bits.deBruijn32tab", "math/bits.deBruijn64tab"], apart := false, laid := [("math/bits.deBruijn32tab", laid_math_bits_deBruijn32tab), ("math/bits.deBruijn64tab", laid_math_bits_deBruijn64tab), ("internal/strconv.uint64pow10", laid_internal_strconv_uint64pow10)] }
def FnExactNeverEntersSaid : Prop := fnExactNeverEntersRow.holds Tryd.pinned (OpenSpec.ofChange fnExactNeverEntersSpec)

/-- ITS FALSE NEIGHBOUR: 'it returns false'. Refute it at one input. -/
def fnExactNeverEntersWrong : ChangeSpec := { name := "fnExactNeverEnters", fn := fun _ => fun
  | [d1, d2, d3] => { results := [.lit (.bool false)], args := [d1, d2, d3] }
  | _ => none }
def FnExactNeverEntersWrongFalsely : Prop := fnExactNeverEntersRow.holds Tryd.pinned (OpenSpec.ofChange fnExactNeverEntersWrong)

/-- 'laws.FnExactBackwardDepth': WHATEVER THE INPUT: true; the input reads as it did. -/
def fnExactBackwardDepthSpec : ChangeSpec := { name := "fnExactBackwardDepth", fn := fun _ => fun
  | [d1, d2] => { results := [.lit (.bool true)], args := [d1, d2] }
  | _ => none }
def fnExactBackwardDepthRow : OpenClaim := { program := "ytokglpdlhacnaaadoor", sum := "593a190caab3baa58df3837dee258b173a0e31e83ceb87da047f7232a2bd8d18", func := "loop.example/g01079/laws.FnExactBackwardDepth", spec := "fnExactBackwardDepth", inPlace := ["internal/abi.NoEscape"], unfollowed := true, recurses := true, named := ["internal/strconv.uint64pow10", "math/bits.deBruijn32tab", "math/bits.deBruijn64tab"], apart := false, laid := [("math/bits.deBruijn32tab", laid_math_bits_deBruijn32tab), ("math/bits.deBruijn64tab", laid_math_bits_deBruijn64tab), ("internal/strconv.uint64pow10", laid_internal_strconv_uint64pow10)] }
def FnExactBackwardDepthSaid : Prop := fnExactBackwardDepthRow.holds Tryd.pinned (OpenSpec.ofChange fnExactBackwardDepthSpec)

/-- ITS FALSE NEIGHBOUR: 'it returns false'. Refute it at one input. -/
def fnExactBackwardDepthWrong : ChangeSpec := { name := "fnExactBackwardDepth", fn := fun _ => fun
  | [d1, d2] => { results := [.lit (.bool false)], args := [d1, d2] }
  | _ => none }
def FnExactBackwardDepthWrongFalsely : Prop := fnExactBackwardDepthRow.holds Tryd.pinned (OpenSpec.ofChange fnExactBackwardDepthWrong)

/-- 'laws.FnExactBackwardLevels': WHATEVER THE INPUT: true; the input reads as it did. -/
def fnExactBackwardLevelsSpec : ChangeSpec := { name := "fnExactBackwardLevels", fn := fun _ => fun
  | [d1, d2] => { results := [.lit (.bool true)], args := [d1, d2] }
  | _ => none }
def fnExactBackwardLevelsRow : OpenClaim := { program := "ytokglpdlhacnaaadoor", sum := "593a190caab3baa58df3837dee258b173a0e31e83ceb87da047f7232a2bd8d18", func := "loop.example/g01079/laws.FnExactBackwardLevels", spec := "fnExactBackwardLevels", inPlace := ["internal/abi.NoEscape"], unfollowed := true, recurses := true, named := ["internal/strconv.uint64pow10", "math/bits.deBruijn32tab", "math/bits.deBruijn64tab"], apart := false, laid := [("math/bits.deBruijn32tab", laid_math_bits_deBruijn32tab), ("math/bits.deBruijn64tab", laid_math_bits_deBruijn64tab), ("internal/strconv.uint64pow10", laid_internal_strconv_uint64pow10)] }
def FnExactBackwardLevelsSaid : Prop := fnExactBackwardLevelsRow.holds Tryd.pinned (OpenSpec.ofChange fnExactBackwardLevelsSpec)

/-- ITS FALSE NEIGHBOUR: 'it returns false'. Refute it at one input. -/
def fnExactBackwardLevelsWrong : ChangeSpec := { name := "fnExactBackwardLevels", fn := fun _ => fun
  | [d1, d2] => { results := [.lit (.bool false)], args := [d1, d2] }
  | _ => none }
def FnExactBackwardLevelsWrongFalsely : Prop := fnExactBackwardLevelsRow.holds Tryd.pinned (OpenSpec.ofChange fnExactBackwardLevelsWrong)

/-- 'laws.FnExactAncestorsOf': WHATEVER THE INPUT: true; the input reads as it did. -/
def fnExactAncestorsOfSpec : ChangeSpec := { name := "fnExactAncestorsOf", fn := fun _ => fun
  | [d1, d2, d3] => { results := [.lit (.bool true)], args := [d1, d2, d3] }
  | _ => none }
def fnExactAncestorsOfRow : OpenClaim := { program := "ytokglpdlhacnaaadoor", sum := "593a190caab3baa58df3837dee258b173a0e31e83ceb87da047f7232a2bd8d18", func := "loop.example/g01079/laws.FnExactAncestorsOf", spec := "fnExactAncestorsOf", inPlace := ["internal/abi.NoEscape"], unfollowed := true, recurses := true, named := ["internal/strconv.uint64pow10", "math/bits.deBruijn32tab", "math/bits.deBruijn64tab"], apart := false, laid := [("math/bits.deBruijn32tab", laid_math_bits_deBruijn32tab), ("math/bits.deBruijn64tab", laid_math_bits_deBruijn64tab), ("internal/strconv.uint64pow10", laid_internal_strconv_uint64pow10)] }
def FnExactAncestorsOfSaid : Prop := fnExactAncestorsOfRow.holds Tryd.pinned (OpenSpec.ofChange fnExactAncestorsOfSpec)

/-- ITS FALSE NEIGHBOUR: 'it returns false'. Refute it at one input. -/
def fnExactAncestorsOfWrong : ChangeSpec := { name := "fnExactAncestorsOf", fn := fun _ => fun
  | [d1, d2, d3] => { results := [.lit (.bool false)], args := [d1, d2, d3] }
  | _ => none }
def FnExactAncestorsOfWrongFalsely : Prop := fnExactAncestorsOfRow.holds Tryd.pinned (OpenSpec.ofChange fnExactAncestorsOfWrong)

/-- 'laws.FnHaltLevels': WHATEVER THE INPUT: true; the input reads as it did. -/
def fnHaltLevelsSpec : ChangeSpec := { name := "fnHaltLevels", fn := fun _ => fun
  | [d] => { results := [.lit (.bool true)], args := [d] }
  | _ => none }
def fnHaltLevelsRow : OpenClaim := { program := "ytokglpdlhacnaaadoor", sum := "593a190caab3baa58df3837dee258b173a0e31e83ceb87da047f7232a2bd8d18", func := "loop.example/g01079/laws.FnHaltLevels", spec := "fnHaltLevels", inPlace := ["internal/abi.NoEscape"], unfollowed := true, recurses := true, named := ["internal/strconv.uint64pow10", "math/bits.deBruijn32tab", "math/bits.deBruijn64tab"], apart := false, laid := [("math/bits.deBruijn32tab", laid_math_bits_deBruijn32tab), ("math/bits.deBruijn64tab", laid_math_bits_deBruijn64tab), ("internal/strconv.uint64pow10", laid_internal_strconv_uint64pow10)] }
def FnHaltLevelsSaid : Prop := fnHaltLevelsRow.holds Tryd.pinned (OpenSpec.ofChange fnHaltLevelsSpec)

/-- ITS FALSE NEIGHBOUR: 'it returns false'. Refute it at one input. -/
def fnHaltLevelsWrong : ChangeSpec := { name := "fnHaltLevels", fn := fun _ => fun
  | [d] => { results := [.lit (.bool false)], args := [d] }
  | _ => none }
def FnHaltLevelsWrongFalsely : Prop := fnHaltLevelsRow.holds Tryd.pinned (OpenSpec.ofChange fnHaltLevelsWrong)

/- THE SECOND FORM. 'bulk': how many values and letters a reading holds, each counted each time it is reached (what is shared counts as often as it is met; a slice's spare places count too). A statement '..UptoSaid' is the law's where the arguments, and the package variables that the reading takes, are together of bulk at most 1048576: NARROWER than '..Said'. Prove '..Said' where nothing that the law and all that it calls make is longer than what came in: it says more and counts as full. Else prove '..UptoSaid'. A law counts once. -/
mutual
def uptoBulk {H : Type} : DataW H → Nat
  | .lit (.string bytes) => bytes.length + 1
  | .lit _ => 1
  | .nil => 1
  | .ptr d => uptoBulk d + 1
  | .slice elems spare => uptoBulkAll elems + uptoBulkAll spare + 1
  | .agg parts => uptoBulkAll parts + 1
  | .iface _ d => uptoBulk d + 1
  | .map entries => uptoBulkEntries entries + 1
  | .held _ => 1
def uptoBulkAll {H : Type} : List (DataW H) → Nat
  | [] => 0
  | d :: r => uptoBulk d + uptoBulkAll r
def uptoBulkEntries {H : Type} : List (Lit × DataW H) → Nat
  | [] => 0
  | x :: r => uptoBulkEntry x + uptoBulkEntries r
def uptoBulkEntry {H : Type} : Lit × DataW H → Nat
  | (.string bytes, d) => bytes.length + uptoBulk d + 1
  | (_, d) => uptoBulk d + 1
 end
def uptoSmall : (H : Type) → List (DataW H) → Bool := fun _ ds => decide (uptoBulkAll ds ≤ 1048576)
def OpenSpec.upto (s : _root_.Go.ChangeSpec) : _root_.Go.OpenSpec := { _root_.Go.OpenSpec.ofChange s with cond := some uptoSmall }

/-- 'laws.FnExactRunLoop', WHERE WHAT IT READS IS OF BULK AT MOST 1048576: true; the input reads as it did. -/
def fnExactRunLoopUptoRow : OpenClaim := { program := "ytokglpdlhacnaaadoor", sum := "593a190caab3baa58df3837dee258b173a0e31e83ceb87da047f7232a2bd8d18", func := "loop.example/g01079/laws.FnExactRunLoop", spec := "fnExactRunLoop", unfollowed := true, recurses := true, named := ["loop.example/g01079/impl.errLarge", "loop.example/g01079/impl.errSteps"], ifaces := true, apart := false, laid := [("loop.example/g01079/impl.errSteps", laid_loop_example_g01079_impl_errSteps), ("loop.example/g01079/impl.errLarge", laid_loop_example_g01079_impl_errLarge)], narrowed := true }
def FnExactRunLoopUptoSaid : Prop := fnExactRunLoopUptoRow.holds Tryd.pinned (OpenSpec.upto fnExactRunLoopSpec)

/-- 'laws.FnExactNeverEnters', WHERE WHAT IT READS IS OF BULK AT MOST 1048576: true; the input reads as it did. -/
def fnExactNeverEntersUptoRow : OpenClaim := { program := "ytokglpdlhacnaaadoor", sum := "593a190caab3baa58df3837dee258b173a0e31e83ceb87da047f7232a2bd8d18", func := "loop.example/g01079/laws.FnExactNeverEnters", spec := "fnExactNeverEnters", inPlace := ["internal/abi.NoEscape"], unfollowed := true, recurses := true, named := ["internal/strconv.uint64pow10", "math/bits.deBruijn32tab", "math/bits.deBruijn64tab"], apart := false, laid := [("math/bits.deBruijn32tab", laid_math_bits_deBruijn32tab), ("math/bits.deBruijn64tab", laid_math_bits_deBruijn64tab), ("internal/strconv.uint64pow10", laid_internal_strconv_uint64pow10)], narrowed := true }
def FnExactNeverEntersUptoSaid : Prop := fnExactNeverEntersUptoRow.holds Tryd.pinned (OpenSpec.upto fnExactNeverEntersSpec)

/-- 'laws.FnExactBackwardDepth', WHERE WHAT IT READS IS OF BULK AT MOST 1048576: true; the input reads as it did. -/
def fnExactBackwardDepthUptoRow : OpenClaim := { program := "ytokglpdlhacnaaadoor", sum := "593a190caab3baa58df3837dee258b173a0e31e83ceb87da047f7232a2bd8d18", func := "loop.example/g01079/laws.FnExactBackwardDepth", spec := "fnExactBackwardDepth", inPlace := ["internal/abi.NoEscape"], unfollowed := true, recurses := true, named := ["internal/strconv.uint64pow10", "math/bits.deBruijn32tab", "math/bits.deBruijn64tab"], apart := false, laid := [("math/bits.deBruijn32tab", laid_math_bits_deBruijn32tab), ("math/bits.deBruijn64tab", laid_math_bits_deBruijn64tab), ("internal/strconv.uint64pow10", laid_internal_strconv_uint64pow10)], narrowed := true }
def FnExactBackwardDepthUptoSaid : Prop := fnExactBackwardDepthUptoRow.holds Tryd.pinned (OpenSpec.upto fnExactBackwardDepthSpec)

/-- 'laws.FnExactBackwardLevels', WHERE WHAT IT READS IS OF BULK AT MOST 1048576: true; the input reads as it did. -/
def fnExactBackwardLevelsUptoRow : OpenClaim := { program := "ytokglpdlhacnaaadoor", sum := "593a190caab3baa58df3837dee258b173a0e31e83ceb87da047f7232a2bd8d18", func := "loop.example/g01079/laws.FnExactBackwardLevels", spec := "fnExactBackwardLevels", inPlace := ["internal/abi.NoEscape"], unfollowed := true, recurses := true, named := ["internal/strconv.uint64pow10", "math/bits.deBruijn32tab", "math/bits.deBruijn64tab"], apart := false, laid := [("math/bits.deBruijn32tab", laid_math_bits_deBruijn32tab), ("math/bits.deBruijn64tab", laid_math_bits_deBruijn64tab), ("internal/strconv.uint64pow10", laid_internal_strconv_uint64pow10)], narrowed := true }
def FnExactBackwardLevelsUptoSaid : Prop := fnExactBackwardLevelsUptoRow.holds Tryd.pinned (OpenSpec.upto fnExactBackwardLevelsSpec)

/-- 'laws.FnExactAncestorsOf', WHERE WHAT IT READS IS OF BULK AT MOST 1048576: true; the input reads as it did. -/
def fnExactAncestorsOfUptoRow : OpenClaim := { program := "ytokglpdlhacnaaadoor", sum := "593a190caab3baa58df3837dee258b173a0e31e83ceb87da047f7232a2bd8d18", func := "loop.example/g01079/laws.FnExactAncestorsOf", spec := "fnExactAncestorsOf", inPlace := ["internal/abi.NoEscape"], unfollowed := true, recurses := true, named := ["internal/strconv.uint64pow10", "math/bits.deBruijn32tab", "math/bits.deBruijn64tab"], apart := false, laid := [("math/bits.deBruijn32tab", laid_math_bits_deBruijn32tab), ("math/bits.deBruijn64tab", laid_math_bits_deBruijn64tab), ("internal/strconv.uint64pow10", laid_internal_strconv_uint64pow10)], narrowed := true }
def FnExactAncestorsOfUptoSaid : Prop := fnExactAncestorsOfUptoRow.holds Tryd.pinned (OpenSpec.upto fnExactAncestorsOfSpec)

/-- 'laws.FnHaltLevels', WHERE WHAT IT READS IS OF BULK AT MOST 1048576: true; the input reads as it did. -/
def fnHaltLevelsUptoRow : OpenClaim := { program := "ytokglpdlhacnaaadoor", sum := "593a190caab3baa58df3837dee258b173a0e31e83ceb87da047f7232a2bd8d18", func := "loop.example/g01079/laws.FnHaltLevels", spec := "fnHaltLevels", inPlace := ["internal/abi.NoEscape"], unfollowed := true, recurses := true, named := ["internal/strconv.uint64pow10", "math/bits.deBruijn32tab", "math/bits.deBruijn64tab"], apart := false, laid := [("math/bits.deBruijn32tab", laid_math_bits_deBruijn32tab), ("math/bits.deBruijn64tab", laid_math_bits_deBruijn64tab), ("internal/strconv.uint64pow10", laid_internal_strconv_uint64pow10)], narrowed := true }
def FnHaltLevelsUptoSaid : Prop := fnHaltLevelsUptoRow.holds Tryd.pinned (OpenSpec.upto fnHaltLevelsSpec)

end Rows
end Go.Proofs.YtokglpdlhacnaaaDoor
