/-
  Contract of the reference's StepMachine.
-/
import Derived.Test.YthipbeggaeogcaaMachU
namespace Go.Proofs.Ythipbeggaeogcaa
open Go.RowKit

theorem conf_good {sy st : Int} {rs : List R3} {q : Int} {xs ys : List Int} (h : validConfB sy st rs q xs ys = true) : (xs = [] ∨ lastI xs ≠ 0) ∧ (ys = [] ∨ lastI ys ≠ 0) := by
  unfold validConfB at h
  simp only [Bool.and_eq_true] at h
  have hc := h.2
  unfold confB sideB at hc
  simp only [Bool.and_eq_true, Bool.or_eq_true, decide_eq_true_eq, bne_iff_ne, ne_eq] at hc
  exact ⟨hc.1.2.2, hc.2.2⟩

end Go.Proofs.Ythipbeggaeogcaa
