/-
  Contracts of impl.ValidCyclic and of the reference's l09Bits, l09IsCyclic.
-/
import Derived.Test.YthipbeggaeogcaaCyclP
namespace Go.Proofs.Ythipbeggaeogcaa
open Go.RowKit

set_option maxHeartbeats 1000000 in
theorem validCyclic_any (A : Option Addr) (n c : Nat) (ts : List Sl) (w : World) (hx : SII w A n ts) (hn : n ≤ 1048576) (hns : ∀ t ∈ ts, t.xs.length ≤ 1048576) :
    Calls Try.prog 146 #[.agg #[.slice A n c]] w fun e w' => e = .returned (.bool (validCyclB (nums ts))) ∧ Below w.heap.size w w' := by
  obtain ⟨W, hW_⟩ : ∃ W, W = w.alloc (.cells #[.slice A n c] 33) := ⟨_, rfl⟩
  have b0 : Blk W w.heap.size 33 #[.slice A n c] := by rw [hW_]; exact Blk.new w _ _
  have y0 : Below w.heap.size w W := by rw [hW_]; exact (Below.refl _ _).alloc (Nat.le_refl _) _
  have HW := Lib.hid hW_
  clear hW_
  have q0 : W.cell? ⟨w.heap.size, 0, none⟩ = some (.slice A n c) := b0.cell 0
  have HL : Hid ((nums ts).length = n) := by show _ = _; have := hx.len; simpa [nums] using this
  have HNS := Lib.hid hns
  clear hns
  cases a1 : inB n 1 400
  · have A1 := Lib.hid a1
    clear a1
    go_enter Try.func146, Try.ntmps146
    go_wp2_with (first
      | (go_at_call 96; refine (sizeII_any _ _ _ _ (by omega)).mono ?_; rintro e w' ⟨rfl, rfl⟩)
      | (go_at_call 85; refine (within_is A1.out _).mono ?_; rintro e w' ⟨rfl, rfl⟩))
    go_ret
    exact ⟨ret_bool (by unfold validCyclB; rw [HL.out, A1.out]; rfl), by rw [← HW.out]; exact y0⟩
  · have A1 := Lib.hid a1
    clear a1
    go_enter Try.func146, Try.ntmps146
    go_wp2_with (first
      | (go_at_call 96; refine (sizeII_any _ _ _ _ (by omega)).mono ?_; rintro e w' ⟨rfl, rfl⟩)
      | (go_at_call 85; refine (within_is A1.out _).mono ?_; rintro e w' ⟨rfl, rfl⟩))
    rw [← HW.out]
    refine (wordsOk_any _ _ _ ts _ _ (hx.below y0) (by omega) (fun t ht => by have := HNS.out t ht; omega) (by omega) (by omega)).mono ?_
    rintro e w2 ⟨rfl, hb2⟩
    go_wp2_with fail
    go_ret
    exact ⟨ret_bool (by unfold validCyclB; rw [HL.out, A1.out]; simp), y0.trans (hb2.mono y0.size)⟩
end Go.Proofs.Ythipbeggaeogcaa
