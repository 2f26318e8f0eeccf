/-
  The walk of the law FnExactNodeStatus: it returns true, and nothing that was there before has turned.
-/
import Derived.Test.YtbedghebckflmaaNodeS
import Derived.Test.YtbedghebckflmaaHelpMachine
namespace Go.Proofs.Ytbedghebckflmaa
open Go.RowKit

set_option maxRecDepth 100000 in
set_option maxHeartbeats 4000000 in
theorem lawNodeStatus (sy st : Int) (A : Option Addr) (n c : Nat) (rs : List R3) (b : Int) (w : World) (hr : S3 w A n rs) (hn : n ≤ 9223372036854775807) :
    Calls Try.prog 3 #[.agg #[.int .i64 sy, .int .i64 st, .slice A n c], .int .i64 b] w fun e w' => e = .returned (.bool true) ∧ Below w.heap.size w w' := by
  obtain ⟨W0, hW0⟩ : ∃ W, W = w.alloc (.cells #[.int .i64 sy, .int .i64 st, .slice A n c] 24) := ⟨_, rfl⟩
  have b0 : Blk W0 w.heap.size 24 #[.int .i64 sy, .int .i64 st, .slice A n c] := by rw [hW0]; exact Blk.new w _ _
  have z0 : Below w.heap.size w W0 := by rw [hW0]; exact (Below.refl _ _).alloc (Nat.le_refl _) _
  have HW0 := Lib.hid hW0
  clear hW0
  have u0 : W0.cell? ⟨w.heap.size, 0, none⟩ = some (.int .i64 sy) := b0.cell 0
  have u1 : W0.cell? ⟨w.heap.size, 1, none⟩ = some (.int .i64 st) := b0.cell 1
  have u2 : W0.cell? ⟨w.heap.size, 2, none⟩ = some (.slice A n c) := b0.cell 2
  go_enter Try.func3, Try.ntmps3
  go_wp2_with fail
  rw [← HW0.out]
  refine (szMachine_any _ _ _ _ _ _ _ hn (by omega) (by omega)).mono ?_
  rintro e W1 ⟨z, rfl, hz1, hz2, hz3, z1⟩
  have HZ3 := Lib.hid hz3
  clear hz3
  have b1 := b0.below' z1
  have y1 : Below w.heap.size w W1 := z0.trans (z1.mono z0.size)
  clear u0 u1 u2
  have u0 : W1.cell? ⟨w.heap.size, 0, none⟩ = some (.int .i64 sy) := b1.cell 0
  have u1 : W1.cell? ⟨w.heap.size, 1, none⟩ = some (.int .i64 st) := b1.cell 1
  have u2 : W1.cell? ⟨w.heap.size, 2, none⟩ = some (.slice A n c) := b1.cell 2
  by_cases hneg : z < 0
  · go_wp2_with fail
    go_ret
    exact ⟨rfl, y1⟩
  have hn' : n ≤ 1048576 := by have := HZ3.out (by omega); omega
  -- the reference
  go_wp2_with fail
  refine (toMachine_any _ _ _ _ _ rs _ (hr.below y1) hn').mono ?_
  rintro e W2 ⟨A2, rfl, o2, z2⟩
  have y2 : Below w.heap.size w W2 := y1.trans (z2.mono y1.size)
  clear u0 u1 u2
  go_wp2_with fail
  refine (specNodeStatus_any _ _ _ _ _ rs _ _ o2.rd hn').mono ?_
  obtain ⟨res, hres⟩ : ∃ res, res = nodeStatusF sy st rs b := ⟨_, rfl⟩
  rw [← hres]
  have HRES := Lib.hid hres
  clear hres
  rintro e W4 ⟨rfl, z4⟩
  have y4 : Below w.heap.size w W4 := y2.trans (z4.mono y2.size)
  have b4 := (b1.below' z2).below' z4
  have u0 : W4.cell? ⟨w.heap.size, 0, none⟩ = some (.int .i64 sy) := b4.cell 0
  have u1 : W4.cell? ⟨w.heap.size, 1, none⟩ = some (.int .i64 st) := b4.cell 1
  have u2 : W4.cell? ⟨w.heap.size, 2, none⟩ = some (.slice A n c) := b4.cell 2
  -- the copy
  go_wp2_with fail
  refine (toMachine_any _ _ _ _ _ rs _ (hr.below y4) hn').mono ?_
  rintro e W5 ⟨A5, rfl, o5, z5⟩
  clear u0 u1 u2
  obtain ⟨W6, hW6⟩ : ∃ W, W = W5.alloc (.cells #[.int .i64 sy, .int .i64 st, .slice A5 n n] 30) := ⟨_, rfl⟩
  have b6 : Blk W6 W5.heap.size 30 #[.int .i64 sy, .int .i64 st, .slice A5 n n] := by rw [hW6]; exact Blk.new W5 _ _
  have z6 : Below W5.heap.size W5 W6 := by rw [hW6]; exact (Below.refl _ _).alloc (Nat.le_refl _) _
  have HW6 := Lib.hid hW6
  clear hW6
  have y5 : Below w.heap.size w W5 := y4.trans (z5.mono y4.size)
  have y6 : Below w.heap.size w W6 := y5.trans (z6.mono y5.size)
  have u0 : W6.cell? ⟨W5.heap.size, 0, none⟩ = some (.int .i64 sy) := b6.cell 0
  have u1 : W6.cell? ⟨W5.heap.size, 1, none⟩ = some (.int .i64 st) := b6.cell 1
  have u2 : W6.cell? ⟨W5.heap.size, 2, none⟩ = some (.slice A5 n n) := b6.cell 2
  have o6 := o5.below z6
  -- the program
  go_wp2_with fail
  rw [← HW6.out]
  try go_wp2_with fail
  refine (nodeStatusI_any _ _ _ _ _ rs _ _ o6.rd hn').mono ?_
  rw [← HRES.out]
  rintro e W8 ⟨rfl, z8⟩
  have y8 : Below w.heap.size w W8 := y6.trans (z8.mono y6.size)
  have z48 : Below W4.heap.size W4 W8 := (z5.trans (z6.mono z5.size)).trans (z8.mono (by have := z5.size; have := z6.size; omega))
  clear u0 u1 u2
  have b8 := b6.below' z8
  have c8 := b4.below' z48
  have o8 := o6.below z8
  have u0 : W8.cell? ⟨W5.heap.size, 0, none⟩ = some (.int .i64 sy) := b8.cell 0
  have u1 : W8.cell? ⟨W5.heap.size, 1, none⟩ = some (.int .i64 st) := b8.cell 1
  have u2 : W8.cell? ⟨W5.heap.size, 2, none⟩ = some (.slice A5 n n) := b8.cell 2
  have v0 : W8.cell? ⟨w.heap.size, 0, none⟩ = some (.int .i64 sy) := c8.cell 0
  have v1 : W8.cell? ⟨w.heap.size, 1, none⟩ = some (.int .i64 st) := c8.cell 1
  have v2 : W8.cell? ⟨w.heap.size, 2, none⟩ = some (.slice A n c) := c8.cell 2
  obtain ⟨r0, r1, r2, r3⟩ := res
  dsimp only
  go_wp2_with fail
  go_region_held3 (fun w' => w'.cell? ⟨W5.heap.size, 0, none⟩ = some (.int .i64 sy) ∧ w'.cell? ⟨W5.heap.size, 1, none⟩ = some (.int .i64 st) ∧ w'.cell? ⟨W5.heap.size, 2, none⟩ = some (.slice A5 n n) ∧
      w'.cell? ⟨w.heap.size, 0, none⟩ = some (.int .i64 sy) ∧ w'.cell? ⟨w.heap.size, 1, none⟩ = some (.int .i64 st) ∧ w'.cell? ⟨w.heap.size, 2, none⟩ = some (.slice A n c))
    (first
      | (go_keep; done)
      | (exact ⟨(b8.below' z11).cell 0, (b8.below' z11).cell 1, (b8.below' z11).cell 2, (c8.below' z11).cell 0, (c8.below' z11).cell 1, (c8.below' z11).cell 2⟩)
      | (exact ⟨(b8.below' z10).cell 0, (b8.below' z10).cell 1, (b8.below' z10).cell 2, (c8.below' z10).cell 0, (c8.below' z10).cell 1, (c8.below' z10).cell 2⟩))
    (first
      | (go_at_call 17; refine (toMachine_any _ _ _ _ _ rs _ ((hr.below y8).drewN 1) hn').mono ?_; rintro e W10 ⟨A10, rfl, o10, z10'⟩; have z10 : Below W8.heap.size W8 W10 := below_undrew z10')
      | (go_at_call 19; refine (eqMachine_any _ _ _ _ _ rs _ _ _ _ _ rs _ (o8.below z10).rd o10.rd hn').mono ?_; rintro e W11 ⟨rfl, z11'⟩; have z11 : Below W8.heap.size W8 W11 := z10.trans (z11'.mono z10.size)))
  rw [sameMachineB_self]
  go_wp2_with fail
  go_ret
  exact ⟨rfl, y8.trans (z11.mono y8.size)⟩
end Go.Proofs.Ytbedghebckflmaa
