/-
  Marks that are read again, for Config.
-/
import Derived.Test.YtbedghebckflmaaHelpConfig
namespace Go.Proofs.Ytbedghebckflmaa
open Go.RowKit

def MarkConfig (w : World) (lo hi : Nat) (A0 : Option Addr) (n0 c0 : Nat) (A1 : Option Addr) (n1 c1 : Nat) (p : Int) (e : Ending) (w' : World) : Prop :=
  e = .returned (.int .i64 (p + n0 + n1)) ∧ OwnE w' lo 2 A0 n0 c0 (marks p n0) ∧ OwnE w' lo 2 A1 n1 c1 (marks (p + n0) n1) ∧ Tch lo hi w w'

set_option maxHeartbeats 400000 in
theorem markConfig_c (d0 : Int) (A0 : Option Addr) (n0 c0 : Nat) (x0 : List Int) (A1 : Option Addr) (n1 c1 : Nat) (x1 : List Int) (p : Int) (w : World) (lo hi : Nat) (o0 : Own w lo 2 1 A0 n0 c0 (ints x0)) (o1 : Own w lo 2 1 A1 n1 c1 (ints x1)) (hap : ∀ b, blk A0 = some b → blk A1 ≠ some b)
    (k0 : ∀ b, blk A0 = some b → b < hi) (k1 : ∀ b, blk A1 = some b → b < hi) (hhi : hi ≤ w.heap.size) (h0 : n0 ≤ 1048576) (h1 : n1 ≤ 1048576) (g0 : 0 ≤ p) (g1 : p ≤ 1000000000) :
    Calls Try.prog 26 #[.agg #[.int .i64 d0, .slice A0 n0 c0, .slice A1 n1 c1], .int .i64 p] w (MarkConfig w lo hi A0 n0 c0 A1 n1 c1 p) := by
  obtain ⟨W, hW⟩ : ∃ W, W = w.alloc (.cells #[.int .i64 d0, .slice A0 n0 c0, .slice A1 n1 c1] 38) := ⟨_, rfl⟩
  have b0 : Blk W w.heap.size 38 #[.int .i64 d0, .slice A0 n0 c0, .slice A1 n1 c1] := by rw [hW]; exact Blk.new w _ _
  have z0 : Below w.heap.size w W := by rw [hW]; exact (Below.refl _ _).alloc (Nat.le_refl _) _
  have HW := Lib.hid hW
  have HAP := Lib.hid hap
  clear hW hap
  have K0 := Lib.hid k0
  have K1 := Lib.hid k1
  clear k0 k1
  go_enter Try.func26, Try.ntmps26
  go_wp2_with fail
  rw [← HW.out]
  refine (markI _ _ _ x0 _ _ lo hi (.inr (o0.below z0)) K0.out (by omega) (by omega)).mono ?_
  rintro e w0 ⟨rfl, oo0, t0, s0⟩
  have b0 := b0.touch t0 (.inr hhi)
  have q0 : w0.cell? ⟨w.heap.size, 2, none⟩ = some (.slice A1 n1 c1) := b0.cell 2
  have o1' : Own w0 lo 2 1 A1 n1 c1 (ints x1) := (o1.below z0).kept fun b hb _ _ => s0 b (fun h => HAP.out b h hb)
  go_wp2_with fail
  refine (markI _ _ _ x1 _ _ lo hi (.inr o1') K1.out (by omega) (by omega)).mono ?_
  rintro e w1 ⟨rfl, oo1, t1, s1⟩
  go_wp2_with fail
  go_ret
  refine ⟨ret_int (by omega), oo0.kept fun b hb _ _ => s1 b (fun h => HAP.out b hb h), oo1, ((Tch.of_below z0).trans t0).trans t1⟩

set_option maxHeartbeats 400000 in
theorem heldConfig_c (d0 : Int) (A0 : Option Addr) (n0 c0 : Nat) (A1 : Option Addr) (n1 c1 : Nat) (p : Int) (w : World) (r0 : SI w A0 n0 (marks p n0)) (r1 : SI w A1 n1 (marks (p + n0) n1)) (h0 : n0 ≤ 1048576) (h1 : n1 ≤ 1048576) (g0 : 0 ≤ p) (g1 : p ≤ 1000000000) :
    Calls Try.prog 27 #[.agg #[.int .i64 d0, .slice A0 n0 c0, .slice A1 n1 c1], .int .i64 p] w fun e w' => e = .returned (.int .i64 (p + n0 + n1)) ∧ Below w.heap.size w w' := by
  obtain ⟨W, hW⟩ : ∃ W, W = w.alloc (.cells #[.int .i64 d0, .slice A0 n0 c0, .slice A1 n1 c1] 38) := ⟨_, rfl⟩
  have b0 : Blk W w.heap.size 38 #[.int .i64 d0, .slice A0 n0 c0, .slice A1 n1 c1] := by rw [hW]; exact Blk.new w _ _
  have z0 : Below w.heap.size w W := by rw [hW]; exact (Below.refl _ _).alloc (Nat.le_refl _) _
  have HW := Lib.hid hW
  clear hW
  have q0 : W.cell? ⟨w.heap.size, 2, none⟩ = some (.slice A1 n1 c1) := b0.cell 2
  have i1 : ¬ (p + (n0 : Int) < 0) := by omega
  have i2 : ¬ (p + (n0 : Int) + (n1 : Int) < 0) := by omega
  go_enter Try.func27, Try.ntmps27
  go_wp2_with fail
  rw [← HW.out]
  refine (heldI _ _ _ (marks p n0) _ _ (r0.below z0) (by omega) (by omega)).mono ?_
  rintro e w0 ⟨rfl, rfl⟩
  rw [heldF_marks]
  go_wp2_with fail
  refine (heldI _ _ _ (marks (p + n0) n1) _ _ (r1.below z0) (by omega) (by omega)).mono ?_
  rintro e w0 ⟨rfl, rfl⟩
  rw [heldF_marks]
  go_wp2_with fail
  go_ret
  exact ⟨rfl, z0⟩
end Go.Proofs.Ytbedghebckflmaa
