/-
  The sides of a good configuration are short.
-/
import Derived.Test.YthipbeggaeogcaaMachW
namespace Go.Proofs.Ythipbeggaeogcaa
open Go.RowKit
theorem conf_len {sy st : Int} {rs : List R3} {c : Conf} (h : goodC sy st rs c) : c.xs.length ≤ 200 ∧ c.ys.length ≤ 200 := by
  have hp := conf_parts h
  exact ⟨hp.2.2.2.2.2.2.2.1, hp.2.2.2.2.2.2.2.2.1⟩
end Go.Proofs.Ythipbeggaeogcaa
