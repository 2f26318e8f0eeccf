/-
  What the size helpers of the laws come to, in one form.
-/
import Derived.Test.YthipbeggaeogcaaHelpA
import Derived.Test.YthipbeggaeogcaaHelpB
import Derived.Test.YthipbeggaeogcaaHelpR
namespace Go.Proofs.Ythipbeggaeogcaa
open Go.RowKit
def SzP (w : World) (left tot : Int) (e : Ending) (w' : World) : Prop := ∃ z : Int, e = .returned (.int .i64 z) ∧ -1 ≤ z ∧ z ≤ left ∧ (0 ≤ z → z = left - tot) ∧ Below w.heap.size w w'
theorem szF_p {left : Int} {n : Nat} (h0 : 0 ≤ left) : -1 ≤ szF left n ∧ szF left n ≤ left ∧ (0 ≤ szF left n → szF left n = left - n) := by
  unfold szF; split <;> omega
theorem szI_p (A : Option Addr) (n c : Nat) (left : Int) (w : World) (hn : n ≤ 9223372036854775807) (h0 : 0 ≤ left) (h1 : left ≤ 1048576) :
    Calls Try.prog 71 #[.slice A n c, .int .i64 left] w (SzP w left n) :=
  (szI A n c left w hn h0 h1).mono fun _e _w' ⟨he, hw⟩ => ⟨_, he, (szF_p h0).1, (szF_p h0).2.1, (szF_p h0).2.2, hw ▸ Below.refl _ _⟩
theorem szR_p (A : Option Addr) (n c : Nat) (left : Int) (w : World) (hn : n ≤ 9223372036854775807) (h0 : 0 ≤ left) (h1 : left ≤ 1048576) : Calls Try.prog 116 #[.slice A n c, .int .i64 left] w (SzP w left n) := (szR A n c left w hn h0 h1).mono fun _e _w' ⟨he, hw⟩ => ⟨_, he, (szF_p h0).1, (szF_p h0).2.1, (szF_p h0).2.2, hw ▸ Below.refl _ _⟩
end Go.Proofs.Ythipbeggaeogcaa
