/-
  No cell of these rows narrows 'for every input' (looked for: loops, veiled, ifaces, maps, wideKeys, modest, calm, conditions, laid).
  DERIVED. THE GIVEN ROWS OF THIS SEAT. 5 by the template 'for every input the law returns true; each argument reads behind the call as it read before'; 0 by the template 'total and deterministic' (their statements: YtokglpdlhacnaaaTotals.lean).
  GIVEN WITH THE SEED: the statements are not yours to turn. If you find one false, say at which input.
  Laid BY PROGRAM, IN A SANDBOX (cutbox-rows.mjs): the forced cells as the released guide's own fill.sh prints them over the translation 95f83b75e31e6a15… (all of the seat's roots in one cut). By AI agents, Wed Nov 11 2026. No macro, syntax, notation, axiom, sorry.
-/
import Derived.Test.YtokglpdlhacnaaaChecked
import GoSem.Claim
import GoSem.ClaimJoined
import GoSem.ClaimMapViews
import Derived.JoinedTies
import Derived.KernelRfl
namespace Go.Proofs.Ytokglpdlhacnaaa
/- THE CELL 'sum', in the pinned program and in every row, IS THE sha256 OF THE DUMP (.gsa) THAT YtokglpdlhacnaaaProg.lean LOADS. Nothing in Lean hashes anything: it is a label: what it is worth is what the hold of that sum in a sandbox is worth. -/
noncomputable def Try.pinned : Pinned := { name := "ytokglpdlhacnaaa", sum := "95f83b75e31e6a151bc4acf3a353b0e8b5616008251783199d58fd6821c466a0", checked := Try.checked }
namespace Rows
def none {H : Type} : Left H := { results := [], args := [] }

/-- 'laws.FnBounds': WHATEVER THE INPUT: true; the input reads as it did. -/
def fnBoundsSpec : ChangeSpec := { name := "fnBounds", fn := fun _ => fun
  | [d] => { results := [.lit (.bool true)], args := [d] }
  | _ => none }
def fnBoundsRow : OpenClaim := { program := "ytokglpdlhacnaaa", sum := "95f83b75e31e6a151bc4acf3a353b0e8b5616008251783199d58fd6821c466a0", func := "loop.example/g01079/laws.FnBounds", spec := "fnBounds", unfollowed := true, recurses := true, apart := false }
def FnBoundsSaid : Prop := fnBoundsRow.holds Try.pinned (OpenSpec.ofChange fnBoundsSpec)

/-- ITS FALSE NEIGHBOUR: 'it returns false'. Refute it at one input. -/
def fnBoundsWrong : ChangeSpec := { name := "fnBounds", fn := fun _ => fun
  | [d] => { results := [.lit (.bool false)], args := [d] }
  | _ => none }
def FnBoundsWrongFalsely : Prop := fnBoundsRow.holds Try.pinned (OpenSpec.ofChange fnBoundsWrong)

/-- 'laws.FnMarkov': WHATEVER THE INPUT: true; the input reads as it did. -/
def fnMarkovSpec : ChangeSpec := { name := "fnMarkov", fn := fun _ => fun
  | [d1, d2] => { results := [.lit (.bool true)], args := [d1, d2] }
  | _ => none }
def fnMarkovRow : OpenClaim := { program := "ytokglpdlhacnaaa", sum := "95f83b75e31e6a151bc4acf3a353b0e8b5616008251783199d58fd6821c466a0", func := "loop.example/g01079/laws.FnMarkov", spec := "fnMarkov", unfollowed := true, recurses := true, apart := false }
def FnMarkovSaid : Prop := fnMarkovRow.holds Try.pinned (OpenSpec.ofChange fnMarkovSpec)

/-- ITS FALSE NEIGHBOUR: 'it returns false'. Refute it at one input. -/
def fnMarkovWrong : ChangeSpec := { name := "fnMarkov", fn := fun _ => fun
  | [d1, d2] => { results := [.lit (.bool false)], args := [d1, d2] }
  | _ => none }
def FnMarkovWrongFalsely : Prop := fnMarkovRow.holds Try.pinned (OpenSpec.ofChange fnMarkovWrong)

/-- 'laws.FnRegisterChoices': WHATEVER THE INPUT: true; the input reads as it did. -/
def fnRegisterChoicesSpec : ChangeSpec := { name := "fnRegisterChoices", fn := fun _ => fun
  | [d1, d2] => { results := [.lit (.bool true)], args := [d1, d2] }
  | _ => none }
def fnRegisterChoicesRow : OpenClaim := { program := "ytokglpdlhacnaaa", sum := "95f83b75e31e6a151bc4acf3a353b0e8b5616008251783199d58fd6821c466a0", func := "loop.example/g01079/laws.FnRegisterChoices", spec := "fnRegisterChoices", unfollowed := true, recurses := true, apart := false }
def FnRegisterChoicesSaid : Prop := fnRegisterChoicesRow.holds Try.pinned (OpenSpec.ofChange fnRegisterChoicesSpec)

/-- ITS FALSE NEIGHBOUR: 'it returns false'. Refute it at one input. -/
def fnRegisterChoicesWrong : ChangeSpec := { name := "fnRegisterChoices", fn := fun _ => fun
  | [d1, d2] => { results := [.lit (.bool false)], args := [d1, d2] }
  | _ => none }
def FnRegisterChoicesWrongFalsely : Prop := fnRegisterChoicesRow.holds Try.pinned (OpenSpec.ofChange fnRegisterChoicesWrong)

/-- 'laws.FnRegisterParts': WHATEVER THE INPUT: true; the input reads as it did. -/
def fnRegisterPartsSpec : ChangeSpec := { name := "fnRegisterParts", fn := fun _ => fun
  | [d1, d2] => { results := [.lit (.bool true)], args := [d1, d2] }
  | _ => none }
def fnRegisterPartsRow : OpenClaim := { program := "ytokglpdlhacnaaa", sum := "95f83b75e31e6a151bc4acf3a353b0e8b5616008251783199d58fd6821c466a0", func := "loop.example/g01079/laws.FnRegisterParts", spec := "fnRegisterParts", unfollowed := true, recurses := true, apart := false }
def FnRegisterPartsSaid : Prop := fnRegisterPartsRow.holds Try.pinned (OpenSpec.ofChange fnRegisterPartsSpec)

/-- ITS FALSE NEIGHBOUR: 'it returns false'. Refute it at one input. -/
def fnRegisterPartsWrong : ChangeSpec := { name := "fnRegisterParts", fn := fun _ => fun
  | [d1, d2] => { results := [.lit (.bool false)], args := [d1, d2] }
  | _ => none }
def FnRegisterPartsWrongFalsely : Prop := fnRegisterPartsRow.holds Try.pinned (OpenSpec.ofChange fnRegisterPartsWrong)

/-- 'laws.FnTagCycles': WHATEVER THE INPUT: true; the input reads as it did. -/
def fnTagCyclesSpec : ChangeSpec := { name := "fnTagCycles", fn := fun _ => fun
  | [d1, d2] => { results := [.lit (.bool true)], args := [d1, d2] }
  | _ => none }
def fnTagCyclesRow : OpenClaim := { program := "ytokglpdlhacnaaa", sum := "95f83b75e31e6a151bc4acf3a353b0e8b5616008251783199d58fd6821c466a0", func := "loop.example/g01079/laws.FnTagCycles", spec := "fnTagCycles", unfollowed := true, recurses := true, apart := false }
def FnTagCyclesSaid : Prop := fnTagCyclesRow.holds Try.pinned (OpenSpec.ofChange fnTagCyclesSpec)

/-- ITS FALSE NEIGHBOUR: 'it returns false'. Refute it at one input. -/
def fnTagCyclesWrong : ChangeSpec := { name := "fnTagCycles", fn := fun _ => fun
  | [d1, d2] => { results := [.lit (.bool false)], args := [d1, d2] }
  | _ => none }
def FnTagCyclesWrongFalsely : Prop := fnTagCyclesRow.holds Try.pinned (OpenSpec.ofChange fnTagCyclesWrong)

/- THE SECOND FORM. 'bulk': how many values and letters a reading holds, each counted each time it is reached (what is shared counts as often as it is met; a slice's spare places count too). A statement '..UptoSaid' is the law's where the arguments, and the package variables that the reading takes, are together of bulk at most 1048576: NARROWER than '..Said'. Prove '..Said' where nothing that the law and all that it calls make is longer than what came in: it says more and counts as full. Else prove '..UptoSaid'. A law counts once. -/
mutual
def uptoBulk {H : Type} : DataW H → Nat
  | .lit (.string bytes) => bytes.length + 1
  | .lit _ => 1
  | .nil => 1
  | .ptr d => uptoBulk d + 1
  | .slice elems spare => uptoBulkAll elems + uptoBulkAll spare + 1
  | .agg parts => uptoBulkAll parts + 1
  | .iface _ d => uptoBulk d + 1
  | .map entries => uptoBulkEntries entries + 1
  | .held _ => 1
def uptoBulkAll {H : Type} : List (DataW H) → Nat
  | [] => 0
  | d :: r => uptoBulk d + uptoBulkAll r
def uptoBulkEntries {H : Type} : List (Lit × DataW H) → Nat
  | [] => 0
  | x :: r => uptoBulkEntry x + uptoBulkEntries r
def uptoBulkEntry {H : Type} : Lit × DataW H → Nat
  | (.string bytes, d) => bytes.length + uptoBulk d + 1
  | (_, d) => uptoBulk d + 1
 end
def uptoSmall : (H : Type) → List (DataW H) → Bool := fun _ ds => decide (uptoBulkAll ds ≤ 1048576)
def OpenSpec.upto (s : _root_.Go.ChangeSpec) : _root_.Go.OpenSpec := { _root_.Go.OpenSpec.ofChange s with cond := some uptoSmall }

/-- 'laws.FnBounds', WHERE WHAT IT READS IS OF BULK AT MOST 1048576: true; the input reads as it did. -/
def fnBoundsUptoRow : OpenClaim := { program := "ytokglpdlhacnaaa", sum := "95f83b75e31e6a151bc4acf3a353b0e8b5616008251783199d58fd6821c466a0", func := "loop.example/g01079/laws.FnBounds", spec := "fnBounds", unfollowed := true, recurses := true, apart := false, narrowed := true }
def FnBoundsUptoSaid : Prop := fnBoundsUptoRow.holds Try.pinned (OpenSpec.upto fnBoundsSpec)

/-- 'laws.FnMarkov', WHERE WHAT IT READS IS OF BULK AT MOST 1048576: true; the input reads as it did. -/
def fnMarkovUptoRow : OpenClaim := { program := "ytokglpdlhacnaaa", sum := "95f83b75e31e6a151bc4acf3a353b0e8b5616008251783199d58fd6821c466a0", func := "loop.example/g01079/laws.FnMarkov", spec := "fnMarkov", unfollowed := true, recurses := true, apart := false, narrowed := true }
def FnMarkovUptoSaid : Prop := fnMarkovUptoRow.holds Try.pinned (OpenSpec.upto fnMarkovSpec)

/-- 'laws.FnRegisterChoices', WHERE WHAT IT READS IS OF BULK AT MOST 1048576: true; the input reads as it did. -/
def fnRegisterChoicesUptoRow : OpenClaim := { program := "ytokglpdlhacnaaa", sum := "95f83b75e31e6a151bc4acf3a353b0e8b5616008251783199d58fd6821c466a0", func := "loop.example/g01079/laws.FnRegisterChoices", spec := "fnRegisterChoices", unfollowed := true, recurses := true, apart := false, narrowed := true }
def FnRegisterChoicesUptoSaid : Prop := fnRegisterChoicesUptoRow.holds Try.pinned (OpenSpec.upto fnRegisterChoicesSpec)

/-- 'laws.FnRegisterParts', WHERE WHAT IT READS IS OF BULK AT MOST 1048576: true; the input reads as it did. -/
def fnRegisterPartsUptoRow : OpenClaim := { program := "ytokglpdlhacnaaa", sum := "95f83b75e31e6a151bc4acf3a353b0e8b5616008251783199d58fd6821c466a0", func := "loop.example/g01079/laws.FnRegisterParts", spec := "fnRegisterParts", unfollowed := true, recurses := true, apart := false, narrowed := true }
def FnRegisterPartsUptoSaid : Prop := fnRegisterPartsUptoRow.holds Try.pinned (OpenSpec.upto fnRegisterPartsSpec)

/-- 'laws.FnTagCycles', WHERE WHAT IT READS IS OF BULK AT MOST 1048576: true; the input reads as it did. -/
def fnTagCyclesUptoRow : OpenClaim := { program := "ytokglpdlhacnaaa", sum := "95f83b75e31e6a151bc4acf3a353b0e8b5616008251783199d58fd6821c466a0", func := "loop.example/g01079/laws.FnTagCycles", spec := "fnTagCycles", unfollowed := true, recurses := true, apart := false, narrowed := true }
def FnTagCyclesUptoSaid : Prop := fnTagCyclesUptoRow.holds Try.pinned (OpenSpec.upto fnTagCyclesSpec)

end Rows
end Go.Proofs.Ytokglpdlhacnaaa
