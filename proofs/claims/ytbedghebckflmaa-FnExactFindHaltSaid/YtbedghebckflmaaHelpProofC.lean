/-
  Marks that are read again, for a proof without words.
-/
import Derived.Test.YtbedghebckflmaaHelpProof
import Derived.Test.YtbedghebckflmaaHelpL
namespace Go.Proofs.Ytbedghebckflmaa
open Go.RowKit

set_option maxHeartbeats 400000 in
theorem markII_0 (A : Option Addr) (c : Nat) (m : Int) (w : World) : Calls Try.prog 58 #[.slice A 0 c, .int .i64 m] w fun e w' => e = .returned (.int .i64 m) ∧ w = w' := by
  go_enter Try.func58, Try.ntmps58
  go_wp2
  go_loop [1, 5] (fun q i => q = .int .i64 m ∧ i = .int .i64 0) (fun _ _ => 0)
  case atStart => exact ⟨rfl, rfl⟩
  case round =>
    obtain ⟨rfl, rfl⟩ := hrel
    go_wp2
    go_ret
    exact ⟨rfl, rfl⟩
set_option maxHeartbeats 400000 in
theorem heldII_0 (A : Option Addr) (c : Nat) (m : Int) (w : World) : Calls Try.prog 103 #[.slice A 0 c, .int .i64 m] w fun e w' => e = .returned (.int .i64 m) ∧ w = w' := by
  go_enter Try.func103, Try.ntmps103
  go_wp2
  go_loop [1, 5] (fun q i => q = .int .i64 m ∧ i = .int .i64 0) (fun _ _ => 0)
  case atStart => exact ⟨rfl, rfl⟩
  case round =>
    obtain ⟨rfl, rfl⟩ := hrel
    go_wp2
    go_ret
    exact ⟨rfl, rfl⟩

def MarkProof0 (w : World) (lo hi : Nat) (A : Option Addr) (n c : Nat) (p : Int) (e : Ending) (w' : World) : Prop :=
  e = .returned (.int .i64 (p + n)) ∧ OwnE w' lo 2 A n c (marks p n) ∧ Tch lo hi w w'

set_option maxHeartbeats 400000 in
theorem markProof_0 (d0 : Int) (A : Option Addr) (n c : Nat) (xs : List Int) (R : Option Addr) (d : Nat) (p : Int) (w : World) (lo hi : Nat) (o : Own w lo 2 1 A n c (ints xs)) (k0 : ∀ b, blk A = some b → b < hi) (hhi : hi ≤ w.heap.size) (h0 : n ≤ 1048576) (g0 : 0 ≤ p) (g1 : p ≤ 1000000000) :
    Calls Try.prog 44 #[.agg #[.int .i64 d0, .slice A n c, .slice R 0 d], .int .i64 p] w (MarkProof0 w lo hi A n c p) := by
  obtain ⟨W, hW_⟩ : ∃ W, W = w.alloc (.cells #[.int .i64 d0, .slice A n c, .slice R 0 d] 58) := ⟨_, rfl⟩
  have b0 : Blk W w.heap.size 58 #[.int .i64 d0, .slice A n c, .slice R 0 d] := by rw [hW_]; exact Blk.new w _ _
  have z0 : Below w.heap.size w W := by rw [hW_]; exact (Below.refl _ _).alloc (Nat.le_refl _) _
  have HW := Lib.hid hW_
  clear hW_
  have K0 := Lib.hid k0
  clear k0
  go_enter Try.func44, Try.ntmps44
  go_wp2_with fail
  rw [← HW.out]
  refine (markI _ _ _ xs _ _ lo hi (.inr (o.below z0)) K0.out (by omega) (by omega)).mono ?_
  rintro e w0 ⟨rfl, oo, t0, s0⟩
  have b0 := b0.touch t0 (.inr hhi)
  have q0 : w0.cell? ⟨w.heap.size, 2, none⟩ = some (.slice R 0 d) := b0.cell 2
  go_wp2_with fail
  refine (markII_0 _ _ _ _).mono ?_
  rintro e w1 ⟨rfl, rfl⟩
  go_wp2_with fail
  go_ret
  exact ⟨rfl, oo, (Tch.of_below z0).trans t0⟩

set_option maxHeartbeats 400000 in
theorem heldProof_0 (d0 : Int) (A : Option Addr) (n c : Nat) (R : Option Addr) (d : Nat) (p : Int) (w : World) (r0 : SI w A n (marks p n)) (h0 : n ≤ 1048576) (g0 : 0 ≤ p) (g1 : p ≤ 1000000000) :
    Calls Try.prog 45 #[.agg #[.int .i64 d0, .slice A n c, .slice R 0 d], .int .i64 p] w fun e w' => e = .returned (.int .i64 (p + n)) ∧ Below w.heap.size w w' := by
  obtain ⟨W, hW_⟩ : ∃ W, W = w.alloc (.cells #[.int .i64 d0, .slice A n c, .slice R 0 d] 58) := ⟨_, rfl⟩
  have b0 : Blk W w.heap.size 58 #[.int .i64 d0, .slice A n c, .slice R 0 d] := by rw [hW_]; exact Blk.new w _ _
  have z0 : Below w.heap.size w W := by rw [hW_]; exact (Below.refl _ _).alloc (Nat.le_refl _) _
  have HW := Lib.hid hW_
  clear hW_
  have q0 : W.cell? ⟨w.heap.size, 2, none⟩ = some (.slice R 0 d) := b0.cell 2
  have i1 : ¬ (p + (n : Int) < 0) := by omega
  go_enter Try.func45, Try.ntmps45
  go_wp2_with fail
  rw [← HW.out]
  refine (heldI _ _ _ (marks p n) _ _ (r0.below z0) (by omega) (by omega)).mono ?_
  rintro e w0 ⟨rfl, rfl⟩
  rw [heldF_marks]
  go_wp2_with fail
  refine (heldII_0 _ _ _ _).mono ?_
  rintro e w0 ⟨rfl, rfl⟩
  go_wp2_with fail
  go_ret
  exact ⟨rfl, z0⟩

theorem eqProof_0 (d0 : Int) (A : Option Addr) (n c : Nat) (xs : List Int) (R : Option Addr) (d : Nat) (A' : Option Addr) (c' : Nat) (R' : Option Addr) (d' : Nat) (w : World) (r0 : SI w A n xs) (r1 : SI w A' n xs) (h0 : n ≤ 1048576) :
    Calls Try.prog 39 #[.agg #[.int .i64 d0, .slice A n c, .slice R 0 d], .agg #[.int .i64 d0, .slice A' n c', .slice R' 0 d']] w fun e w' => e = .returned (.bool true) ∧ Below w.heap.size w w' := by
  have h := eqProof_any d0 A n c xs R 0 d [] d0 A' n c' xs R' 0 d' [] w r0 r1 h0 ⟨Rd.nil, fun _ h => by cases h⟩ ⟨Rd.nil, fun _ h => by cases h⟩ (by omega) (fun _ h => by cases h)
  rw [sameProofB_self] at h
  exact h
end Go.Proofs.Ytbedghebckflmaa
