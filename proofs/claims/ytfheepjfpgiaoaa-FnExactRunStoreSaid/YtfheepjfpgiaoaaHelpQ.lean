/-
  What the size helper over [][]int64 comes to, in one form; totals of rows.
-/
import Derived.Test.YtfheepjfpgiaoaaHelpP
import Derived.Test.YtfheepjfpgiaoaaHelpB
namespace Go.Proofs.Ytfheepjfpgiaoaa
open Go.RowKit
theorem szRows_tot : ∀ (rows : List Nat) (left : Int), 0 ≤ left → -1 ≤ szRows left rows ∧ szRows left rows ≤ left ∧ (0 ≤ szRows left rows → szRows left rows = left - rows.sum)
  | [], left, h => by simp [szRows]; omega
  | n :: r, left, h => by
    rw [szRows]
    split
    · omega
    · rename_i hn
      have h2 := szRows_tot r (left - n) (by omega)
      simp only [List.sum_cons]
      omega
theorem row_total {ts : List Sl} {t : Sl} (h : t ∈ ts) : t.xs.length ≤ total ts := by
  unfold total
  obtain ⟨a, b, rfl⟩ := List.append_of_mem h
  simp; omega
theorem total_of_nums (ts : List Sl) : total ts = ((nums ts).map List.length).sum := by simp [total, nums, Function.comp_def]
theorem total_same {ts us : List Sl} (h : nums us = nums ts) : total us = total ts := by rw [total_of_nums, total_of_nums, h]
theorem rows_le {ts us : List Sl} (h : nums us = nums ts) {b : Nat} (hb : ∀ t ∈ ts, t.xs.length ≤ b) : ∀ u ∈ us, u.xs.length ≤ b := by
  intro u hu
  have h1 : u.xs ∈ nums us := List.mem_map.2 ⟨u, hu, rfl⟩
  rw [h] at h1
  obtain ⟨t, ht, e⟩ := List.mem_map.1 h1
  rw [← e]; exact hb t ht
end Go.Proofs.Ytfheepjfpgiaoaa
