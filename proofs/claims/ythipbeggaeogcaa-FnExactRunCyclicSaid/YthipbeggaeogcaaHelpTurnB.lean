/-
  A turn that a law keeps in a box.
-/
import Derived.Test.YthipbeggaeogcaaRunCycI
import Derived.Test.YthipbeggaeogcaaHelpCyclic
import Derived.Test.YthipbeggaeogcaaHelpTurnC
namespace Go.Proofs.Ythipbeggaeogcaa
open Go.RowKit

/-- A result of RunCyclic in a box. -/
def TurnBox4 (lo : Nat) (W : World) (s6 s7 s8 s9 : Value) (r : Tu × Int × Bool × Int) (wx : World) : Prop :=
  ∃ g L c, s6 = .pointer (some ⟨g, 0, none⟩) ∧ s7 = .int .i64 r.2.1 ∧ s8 = .bool r.2.2.1 ∧ s9 = .int .i64 r.2.2.2 ∧ lo ≤ g ∧ Blk wx g 30 #[.int .i64 r.1.at_, .slice L r.1.word.length c] ∧ Own wx lo 2 1 L r.1.word.length c (ints r.1.word) ∧ Below W.heap.size W wx
end Go.Proofs.Ythipbeggaeogcaa
