/-
  The walk of the law FnExactPathText: it returns true, and nothing that was there before has turned.
-/
import Derived.Test.YtfdbhlhlhjdpbaaDoorPathS
import Derived.Test.YtfdbhlhlhjdpbaaDoorHelpA
import Derived.Test.YtfdbhlhlhjdpbaaDoorHelpL
namespace Go.Proofs.YtfdbhlhlhjdpbaaDoor
open Go.RowKit

set_option maxRecDepth 100000 in
set_option maxHeartbeats 4000000 in
theorem lawPathText (A : Option Addr) (n c : Nat) (xs : List Int) (w : World) (hx : SI w A n xs) (hn : n ≤ 9223372036854775807) (ht : Tab w) :
    Calls Tryd.prog 4 #[.slice A n c] w fun e w' => e = .returned (.bool true) ∧ Below w.heap.size w w' := by
  by_cases hbig : 1048576 < n
  · have i1 : (1048576 : Int) < (n : Int) := by omega
    go_enter Tryd.func4, Tryd.ntmps4
    go_wp2_with fail
    go_ret
    exact ⟨rfl, Below.refl _ _⟩
  have i1 : ¬ (1048576 : Int) < (n : Int) := by omega
  have p1 : n ≤ 1048576 := by omega
  go_enter Tryd.func4, Tryd.ntmps4
  go_wp2_with fail
  refine (toI _ _ _ xs _ hx p1).mono ?_
  rintro e W1 ⟨B1, rfl, o1, z1⟩
  have y1 : Below w.heap.size w W1 := z1
  go_wp2_with fail
  refine (pathS_any _ _ _ xs _ o1.asI (by omega)).mono ?_
  rintro e W2 ⟨rfl, z2⟩
  have y2 := y1.trans (z2.mono y1.size)
  go_wp2_with fail
  refine (toI _ _ _ xs _ (hx.below y2) p1).mono ?_
  rintro e W3 ⟨B3, rfl, o3, z3⟩
  have y3 := y2.trans (z3.mono y2.size)
  go_wp2_with fail
  refine (pathI_any _ _ _ xs _ o3.asI (by omega) (ht.below y3)).mono ?_
  rintro e W4 ⟨rfl, z4⟩
  have y4 := y3.trans (z4.mono y3.size)
  have o34 := o3.below z4
  go_wp2_with fail
  refine (toI _ _ _ xs _ (hx.below y4) p1).mono ?_
  rintro e W5 ⟨B5, rfl, o5, z5⟩
  have y5 := y4.trans (z5.mono y4.size)
  go_wp2_with fail
  refine (eqI_b _ _ _ _ _ _ xs xs _ (o34.below z5).rd o5.rd (by omega)).mono ?_
  rintro e W6 ⟨rfl, z6⟩
  rw [sameI_self]
  go_wp2_with fail
  go_ret
  exact ⟨rfl, y5.trans (z6.mono y5.size)⟩
end Go.Proofs.YtfdbhlhlhjdpbaaDoor
