/-
  What the size helpers of the laws come to, in one form.
-/
import Derived.Test.YtfheepjfpgiaoaaHelpA
namespace Go.Proofs.Ytfheepjfpgiaoaa
open Go.RowKit
def SzP (w : World) (left tot : Int) (e : Ending) (w' : World) : Prop := ∃ z : Int, e = .returned (.int .i64 z) ∧ -1 ≤ z ∧ z ≤ left ∧ (0 ≤ z → z = left - tot) ∧ Below w.heap.size w w'
theorem szF_p {left : Int} {n : Nat} (h0 : 0 ≤ left) : -1 ≤ szF left n ∧ szF left n ≤ left ∧ (0 ≤ szF left n → szF left n = left - n) := by
  unfold szF; split <;> omega
end Go.Proofs.Ytfheepjfpgiaoaa
