/-
  Contract of the reference's l05Budget.
-/
import Derived.Test.YtpleclmlcojkdaaL00A
namespace Go.Proofs.Ytpleclmlcojkdaa
open Go.RowKit

theorem l05Budget_any (b : Int) (w : World) : Calls Try.prog 149 #[.int .i64 b] w fun e w' => e = .returned (.bool (inB b 1 20000)) ∧ w = w' := by
  go_enter Try.func149, Try.ntmps149
  go_wp2_with (go_at_call 104; refine (l00In_any _ _ _ _).mono ?_; rintro e w' ⟨rfl, rfl⟩)
  go_ret
  exact ⟨rfl, rfl⟩
theorem l05Budget_is {b : Int} {v : Bool} (h : inB b 1 20000 = v) (w : World) : Calls Try.prog 149 #[.int .i64 b] w fun e w' => e = .returned (.bool v) ∧ w = w' := h ▸ l05Budget_any b w
end Go.Proofs.Ytpleclmlcojkdaa
