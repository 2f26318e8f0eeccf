/-
  Contracts of the laws' helpers over [][]int64: szInt64SS, toInt64SS, eqInt64SS, markInt64SS.
-/
import Derived.Test.YtfheepjfpgiaoaaHelpA
namespace Go.Proofs.Ytfheepjfpgiaoaa
open Go.RowKit

theorem elII : Elem Try.prog 79 48 1 24 (.slice none 0 0) := ⟨Try.underlying79, by kernel_rfl, rfl, by decide⟩

def ToII (w : World) (n : Nat) (xss : List (List Int)) (e : Ending) (w' : World) : Prop :=
  ∃ A us, e = .returned (.slice A n n) ∧ OII w' w.heap.size 48 2 A n n us ∧ nums us = xss ∧ (∀ u ∈ us, u.c = u.xs.length) ∧ Below w.heap.size w w'

theorem total_take {ts : List Sl} {t : Sl} {k : Nat} (hT : ts[k]? = some t) : total (ts.take (k + 1)) = total (ts.take k) + t.xs.length := by
  obtain ⟨h, rfl⟩ := List.getElem?_eq_some_iff.1 hT
  unfold total; rw [List.take_succ_eq_append_getElem h, List.map_append, List.sum_append]; simp
theorem total_take_le (ts : List Sl) (k : Nat) : total (ts.take k) ≤ total ts := by
  have e : total ts = total (ts.take k) + total (ts.drop k) := by unfold total; rw [← List.sum_append, ← List.map_append, List.take_append_drop]
  omega

end Go.Proofs.Ytfheepjfpgiaoaa
