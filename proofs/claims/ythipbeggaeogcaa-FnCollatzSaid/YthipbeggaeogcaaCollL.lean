/-
  The literals of the tag system of Collatz; the reference's l03Power and l03Over.
-/
import Derived.Test.YthipbeggaeogcaaCollP
namespace Go.Proofs.Ythipbeggaeogcaa
open Go.RowKit

/-- A tag system of Collatz in new memory. -/
def NewColl (w : World) (e : Ending) (w' : World) : Prop :=
  ∃ A B k ts, e = .returned (.agg #[.int .i64 2, .slice A 3 3, .slice B 0 k]) ∧ OII w' w.heap.size 25 2 A 3 3 ts ∧ nums ts = collWords ∧ Below w.heap.size w w'

theorem coll_own (w0 w1 : World) (z : Nat) (hz : w1.heap.size = z) (h0 : Below w0.heap.size w0 w1) : OII ((((w1.alloc (.cells #[.int .i64 1, .int .i64 2] 2)).alloc (.cells #[.int .i64 0] 2)).alloc (.cells #[.int .i64 0, .int .i64 0, .int .i64 0] 2)).alloc (.cells #[.slice (some ⟨z, 0, none⟩) 2 2, .slice (some ⟨z + 1, 0, none⟩) 1 1, .slice (some ⟨z + 1 + 1, 0, none⟩) 3 3] 25)) w0.heap.size 25 2 (some ⟨z + 1 + 1 + 1, 0, none⟩) 3 3 [⟨some ⟨z, 0, none⟩, 2, [1, 2]⟩, ⟨some ⟨z + 1, 0, none⟩, 1, [0]⟩, ⟨some ⟨z + 1 + 1, 0, none⟩, 3, [0, 0, 0]⟩] ∧
    Below w0.heap.size w0 ((((w1.alloc (.cells #[.int .i64 1, .int .i64 2] 2)).alloc (.cells #[.int .i64 0] 2)).alloc (.cells #[.int .i64 0, .int .i64 0, .int .i64 0] 2)).alloc (.cells #[.slice (some ⟨z, 0, none⟩) 2 2, .slice (some ⟨z + 1, 0, none⟩) 1 1, .slice (some ⟨z + 1 + 1, 0, none⟩) 3 3] 25)) := by
  subst hz
  have g0 := h0.size
  have b1 := h0.alloc g0 (.cells #[.int .i64 1, .int .i64 2] 2)
  have a1 := Own.lit w1 #[.int .i64 1, .int .i64 2] 2 2 1 w0.heap.size rfl (by simp [maxLen]) g0
  generalize hW1 : w1.alloc (.cells #[.int .i64 1, .int .i64 2] 2) = W1 at *
  have s1 : W1.heap.size = w1.heap.size + 1 := by rw [← hW1]; simp
  have a2 := Own.lit W1 #[.int .i64 0] 2 1 1 w0.heap.size rfl (by simp [maxLen]) b1.size
  have b2 := b1.alloc b1.size (.cells #[.int .i64 0] 2)
  replace a1 := a1.alloc (.cells #[.int .i64 0] 2)
  generalize hW2 : W1.alloc (.cells #[.int .i64 0] 2) = W2 at *
  have s2 : W2.heap.size = w1.heap.size + 1 + 1 := by rw [← hW2]; simp [s1]
  have a3 := Own.lit W2 #[.int .i64 0, .int .i64 0, .int .i64 0] 2 3 1 w0.heap.size rfl (by simp [maxLen]) b2.size
  have b3 := b2.alloc b2.size (.cells #[.int .i64 0, .int .i64 0, .int .i64 0] 2)
  replace a1 := a1.alloc (.cells #[.int .i64 0, .int .i64 0, .int .i64 0] 2)
  replace a2 := a2.alloc (.cells #[.int .i64 0, .int .i64 0, .int .i64 0] 2)
  generalize hW3 : W2.alloc (.cells #[.int .i64 0, .int .i64 0, .int .i64 0] 2) = W3 at *
  have s3 : W3.heap.size = w1.heap.size + 1 + 1 + 1 := by rw [← hW3]; simp [s2]
  rw [s1] at a2
  rw [s2] at a3
  have a4 := Own.lit W3 #[.slice (some ⟨w1.heap.size, 0, none⟩) 2 2, .slice (some ⟨w1.heap.size + 1, 0, none⟩) 1 1, .slice (some ⟨w1.heap.size + 1 + 1, 0, none⟩) 3 3] 25 3 1 w0.heap.size rfl (by simp [maxLen]) b3.size
  rw [s3] at a4
  refine ⟨⟨a4, fun t ht => ?_, ?_⟩, b3.alloc b3.size _⟩
  · simp only [List.mem_cons, List.not_mem_nil, or_false] at ht
    rcases ht with rfl | rfl | rfl
    · exact a1.alloc _
    · exact a2.alloc _
    · exact a3.alloc _
  · simp [Apt, blk]; omega

set_option maxHeartbeats 1000000 in
theorem collTagI_any (w : World) : Calls Try.prog 101 #[] w (NewColl w) := by
  obtain ⟨C, hC⟩ : ∃ C : Obj, C = .cells #[.int .i64 2, .slice (some ⟨w.heap.size + 1 + 1 + 1 + 1, 0, none⟩) 3 3, .slice none 0 0] 51 := ⟨_, rfl⟩
  obtain ⟨ho, hb⟩ := coll_own w (w.alloc C) (w.heap.size + 1) (by simp) ((Below.refl _ _).alloc (Nat.le_refl _) C)
  have d : Blk ((((w.alloc C).alloc (.cells #[.int .i64 1, .int .i64 2] 2)).alloc (.cells #[.int .i64 0] 2)).alloc (.cells #[.int .i64 0, .int .i64 0, .int .i64 0] 2)) w.heap.size 51 #[.int .i64 2, .slice (some ⟨w.heap.size + 1 + 1 + 1 + 1, 0, none⟩) 3 3, .slice none 0 0] := by rw [hC]; exact (((Blk.new w _ _).alloc _).alloc _).alloc _
  replace d := d.alloc (.cells #[.slice (some ⟨w.heap.size + 1, 0, none⟩) 2 2, .slice (some ⟨w.heap.size + 1 + 1, 0, none⟩) 1 1, .slice (some ⟨w.heap.size + 1 + 1 + 1, 0, none⟩) 3 3] 25)
  have HC := Lib.hid hC
  clear hC
  go_enter Try.func101, Try.ntmps101
  go_wp2_with fail
  rw [← HC.out]
  generalize (World.alloc _ (.cells #[.slice (some ⟨w.heap.size + 1, 0, none⟩) 2 2, .slice (some ⟨w.heap.size + 1 + 1, 0, none⟩) 1 1, .slice (some ⟨w.heap.size + 1 + 1 + 1, 0, none⟩) 3 3] 25)) = wf at *
  have q0 : wf.cell? ⟨w.heap.size, 0, none⟩ = some (.int .i64 2) := d.cell 0
  have q1 : wf.cell? ⟨w.heap.size, 1, none⟩ = some (.slice (some ⟨w.heap.size + 1 + 1 + 1 + 1, 0, none⟩) 3 3) := d.cell 1
  have q2 : wf.cell? ⟨w.heap.size, 2, none⟩ = some (.slice none 0 0) := d.cell 2
  exact bodyPost_ret (v := .agg #[.int .i64 2, .slice (some ⟨w.heap.size + 1 + 1 + 1 + 1, 0, none⟩) 3 3, .slice none 0 0]) (by simp [results, Try.results101, go_sem, q0, q1, q2]) rfl ⟨_, none, 0, _, rfl, ho, rfl, hb⟩

end Go.Proofs.Ythipbeggaeogcaa
