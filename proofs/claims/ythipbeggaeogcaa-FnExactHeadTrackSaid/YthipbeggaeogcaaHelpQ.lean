/-
  What the size helper over [][]int64 comes to, in one form; totals of rows.
-/
import Derived.Test.YthipbeggaeogcaaHelpP
import Derived.Test.YthipbeggaeogcaaHelpB
namespace Go.Proofs.Ythipbeggaeogcaa
open Go.RowKit
theorem szRows_tot : ∀ (rows : List Nat) (left : Int), 0 ≤ left → -1 ≤ szRows left rows ∧ szRows left rows ≤ left ∧ (0 ≤ szRows left rows → szRows left rows = left - rows.sum)
  | [], left, h => by simp [szRows]; omega
  | n :: r, left, h => by
    rw [szRows]
    split
    · omega
    · rename_i hn
      have h2 := szRows_tot r (left - n) (by omega)
      simp only [List.sum_cons]
      omega
theorem szII_p (A : Option Addr) (n c : Nat) (ts : List Sl) (left : Int) (w : World) (hx : SII w A n ts) (hn : n ≤ 9223372036854775807) (hns : ∀ t ∈ ts, t.xs.length ≤ 9223372036854775807) (h0 : 0 ≤ left) (h1 : left ≤ 1048576) :
    Calls Try.prog 70 #[.slice A n c, .int .i64 left] w (SzP w left ((n + total ts : Nat) : Int)) :=
  (szII A n c ts left w hx hn hns h0 h1).mono fun _e _w' ⟨he, hw⟩ => by
    have h2 := szRows_tot (n :: ts.map (fun t => t.xs.length)) left h0
    have h3 : (n :: ts.map (fun t => t.xs.length)).sum = n + total ts := by simp [total]
    rw [h3] at h2
    exact ⟨_, he, h2.1, h2.2.1, h2.2.2, hw ▸ Below.refl _ _⟩
theorem row_total {ts : List Sl} {t : Sl} (h : t ∈ ts) : t.xs.length ≤ total ts := by
  unfold total
  obtain ⟨a, b, rfl⟩ := List.append_of_mem h
  simp; omega
theorem total_of_nums (ts : List Sl) : total ts = ((nums ts).map List.length).sum := by simp [total, nums, Function.comp_def]
theorem total_same {ts us : List Sl} (h : nums us = nums ts) : total us = total ts := by rw [total_of_nums, total_of_nums, h]
theorem rows_le {ts us : List Sl} (h : nums us = nums ts) {b : Nat} (hb : ∀ t ∈ ts, t.xs.length ≤ b) : ∀ u ∈ us, u.xs.length ≤ b := by
  intro u hu
  have h1 : u.xs ∈ nums us := List.mem_map.2 ⟨u, hu, rfl⟩
  rw [h] at h1
  obtain ⟨t, ht, e⟩ := List.mem_map.1 h1
  rw [← e]; exact hb t ht
end Go.Proofs.Ythipbeggaeogcaa
