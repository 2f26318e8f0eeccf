/-
  Contracts of the laws' helpers over Machine: szMachine, toMachine, eqMachine, markMachine.
-/
import Derived.Test.YthipbeggaeogcaaHelpP
import Derived.BigGuardPart
import Derived.Test.YthipbeggaeogcaaHelpR
namespace Go.Proofs.Ythipbeggaeogcaa
open Go.RowKit

set_option maxHeartbeats 400000 in
theorem szMachine_any (d0 : Int) (d1 : Int) (A0 : Option Addr) (n0 c0 : Nat) (left : Int) (w : World) (h0 : n0 ≤ 9223372036854775807) (g0 : 0 ≤ left) (g1 : left ≤ 1048576) :
    Calls Try.prog 50 #[.agg #[.int .i64 d0, .int .i64 d1, .slice A0 n0 c0], .int .i64 left] w (SzP w left ((n0 : Int))) := by
  obtain ⟨W, hW⟩ : ∃ W, W = w.alloc (.cells #[.int .i64 d0, .int .i64 d1, .slice A0 n0 c0] 77) := ⟨_, rfl⟩
  have b0 : Blk W w.heap.size 77 #[.int .i64 d0, .int .i64 d1, .slice A0 n0 c0] := by rw [hW]; exact Blk.new w _ _
  have z0 : Below w.heap.size w W := by rw [hW]; exact (Below.refl _ _).alloc (Nat.le_refl _) _
  have HW := Lib.hid hW
  clear hW
  go_enter Try.func50, Try.ntmps50
  go_wp2_with fail
  rw [← HW.out]
  refine (szR_p A0 n0 c0 left W h0 (by omega) (by omega)).mono ?_
  rintro e w1 ⟨z1, rfl, l1, u1, e1, b1⟩
  have E1 := Lib.hid e1
  clear e1
  have y1 : Below w.heap.size w w1 := z0.trans (b1.mono z0.size)
  by_cases hneg1 : z1 < 0
  · go_wp2_with fail
    go_ret
    exact ⟨-1, rfl, by omega, by omega, by omega, y1⟩
  go_wp2_with fail
  go_ret
  exact ⟨z1, rfl, by omega, by omega, fun _ => by have t1 := E1.out (by omega); omega, y1⟩

def ToMachine (w : World) (d0 : Int) (d1 : Int) (n0 : Nat) (x0 : List R3) (e : Ending) (w' : World) : Prop :=
  ∃ B0, e = .returned (.agg #[.int .i64 d0, .int .i64 d1, .slice B0 n0 n0]) ∧ Own w' w.heap.size 169 3 B0 n0 n0 (cells3 x0) ∧ Below w.heap.size w w'

set_option maxHeartbeats 1000000 in
theorem toMachine_any (d0 : Int) (d1 : Int) (A0 : Option Addr) (n0 c0 : Nat) (x0 : List R3) (w : World) (r0 : S3 w A0 n0 x0) (h0 : n0 ≤ 1048576) :
    Calls Try.prog 52 #[.agg #[.int .i64 d0, .int .i64 d1, .slice A0 n0 c0]] w (ToMachine w d0 d1 n0 x0) := by
  obtain ⟨W, hW⟩ : ∃ W, W = ((w.alloc (.cells #[.int .i64 d0, .int .i64 d1, .slice A0 n0 c0] 77)).alloc (.cells #[.int .i64 0, .int .i64 0, .slice none 0 0] 82)).alloc (.cells #[.int .i64 d0, .int .i64 d1, .slice none 0 0] 82) := ⟨_, rfl⟩
  have s1 : (w.alloc (.cells #[.int .i64 d0, .int .i64 d1, .slice A0 n0 c0] 77)).heap.size = w.heap.size + 1 := by simp
  have s2 : ((w.alloc (.cells #[.int .i64 d0, .int .i64 d1, .slice A0 n0 c0] 77)).alloc (.cells #[.int .i64 0, .int .i64 0, .slice none 0 0] 82)).heap.size = w.heap.size + 1 + 1 := by simp
  have b0 : Blk W w.heap.size 77 #[.int .i64 d0, .int .i64 d1, .slice A0 n0 c0] := by rw [hW]; exact ((Blk.new w _ _).alloc _).alloc _
  have b1 : Blk W (w.heap.size + 1) 82 #[.int .i64 0, .int .i64 0, .slice none 0 0] := by rw [hW, ← s1]; exact (Blk.new _ _ _).alloc _
  have b2 : Blk W (w.heap.size + 1 + 1) 82 #[.int .i64 d0, .int .i64 d1, .slice none 0 0] := by rw [hW, ← s2]; exact Blk.new _ _ _
  have y0 : Below w.heap.size w W := by rw [hW]; exact (((Below.refl _ _).alloc (Nat.le_refl _) _).alloc (by simp) _).alloc (by simp; omega) _
  have hz : w.heap.size + 1 + 1 < W.heap.size := b2.lt
  have HW := Lib.hid hW
  clear hW s1 s2
  go_enter Try.func52, Try.ntmps52
  go_wp2_with fail
  rw [← HW.out]
  clear HW
  refine (toR _ _ _ x0 _ (r0.below y0) h0).mono ?_
  rintro e w0 ⟨B0, rfl, o0, bz0⟩
  have b0 := b0.below' bz0
  have b1 := b1.below' bz0
  have b2 := b2.below' bz0
  have yc0 : Below w.heap.size w w0 := y0.trans (bz0.mono y0.size)
  have hw0 : W.heap.size ≤ w0.heap.size := by have := bz0.size; omega
  have p0 : w0.cell? ⟨w.heap.size + 1 + 1, 2, none⟩ = some (.slice none 0 0) := b2.cell 2
  have pf0 := b2.frozen 2
  have a0 : w0.cell? ⟨w.heap.size + 1 + 1, 0, none⟩ = some (.int .i64 d0) := b2.cell 0
  have a1 : w0.cell? ⟨w.heap.size + 1 + 1, 1, none⟩ = some (.int .i64 d1) := b2.cell 1
  have c0_ : w0.cell? ⟨w.heap.size + 1, 0, none⟩ = some (.int .i64 0) := b1.cell 0
  have f0_ := b1.frozen 0
  have c1_ : w0.cell? ⟨w.heap.size + 1, 1, none⟩ = some (.int .i64 0) := b1.cell 1
  have f1_ := b1.frozen 1
  have c2_ : w0.cell? ⟨w.heap.size + 1, 2, none⟩ = some (.slice none 0 0) := b1.cell 2
  have f2_ := b1.frozen 2
  go_wp2_with fail
  have dB : Blk ((((w0.setCell ⟨w.heap.size + 1 + 1, 2, none⟩ (.slice B0 n0 n0)).setCell ⟨w.heap.size + 1, 0, none⟩ (.int .i64 d0)).setCell ⟨w.heap.size + 1, 1, none⟩ (.int .i64 d1)).setCell ⟨w.heap.size + 1, 2, none⟩ (.slice B0 n0 n0)) (w.heap.size + 1) 82 #[.int .i64 d0, .int .i64 d1, .slice B0 n0 n0] := (((b1.far (p := ⟨w.heap.size + 1 + 1, 2, none⟩) (by simp) _).set_ 0 _).set_ 1 _).set_ 2 _
  have m0 : Own ((((w0.setCell ⟨w.heap.size + 1 + 1, 2, none⟩ (.slice B0 n0 n0)).setCell ⟨w.heap.size + 1, 0, none⟩ (.int .i64 d0)).setCell ⟨w.heap.size + 1, 1, none⟩ (.int .i64 d1)).setCell ⟨w.heap.size + 1, 2, none⟩ (.slice B0 n0 n0)) W.heap.size 169 3 B0 n0 n0 (cells3 x0) := (((o0.far (fun e => by have := o0.blk_ge _ e; simp at this; omega) _).far (fun e => by have := o0.blk_ge _ e; simp at this; omega) _).far (fun e => by have := o0.blk_ge _ e; simp at this; omega) _).far (fun e => by have := o0.blk_ge _ e; simp at this; omega) _
  have yf : Below w.heap.size w ((((w0.setCell ⟨w.heap.size + 1 + 1, 2, none⟩ (.slice B0 n0 n0)).setCell ⟨w.heap.size + 1, 0, none⟩ (.int .i64 d0)).setCell ⟨w.heap.size + 1, 1, none⟩ (.int .i64 d1)).setCell ⟨w.heap.size + 1, 2, none⟩ (.slice B0 n0 n0)) := (((yc0.setCell (by simp; omega) _).setCell (by simp) _).setCell (by simp) _).setCell (by simp) _
  generalize (((w0.setCell ⟨w.heap.size + 1 + 1, 2, none⟩ (.slice B0 n0 n0)).setCell ⟨w.heap.size + 1, 0, none⟩ (.int .i64 d0)).setCell ⟨w.heap.size + 1, 1, none⟩ (.int .i64 d1)).setCell ⟨w.heap.size + 1, 2, none⟩ (.slice B0 n0 n0) = wf at *
  have g0_ : wf.cell? ⟨w.heap.size + 1, 0, none⟩ = some (.int .i64 d0) := dB.cell 0
  have g1_ : wf.cell? ⟨w.heap.size + 1, 1, none⟩ = some (.int .i64 d1) := dB.cell 1
  have g2_ : wf.cell? ⟨w.heap.size + 1, 2, none⟩ = some (.slice B0 n0 n0) := dB.cell 2
  have hres : ToMachine w d0 d1 n0 x0 (.returned (.agg #[.int .i64 d0, .int .i64 d1, .slice B0 n0 n0])) wf := ⟨B0, rfl, m0.mono (by omega), yf⟩
  exact bodyPost_ret (v := .agg #[.int .i64 d0, .int .i64 d1, .slice B0 n0 n0]) (by simp [results, Try.results52, go_sem, g0_, g1_, g2_]) rfl hres

def sameMachineB (d0 d0' : Int) (d1 d1' : Int) (x0 x0' : List R3) : Bool :=
  decide (d0 = d0') && decide (d1 = d1') && same3 x0 x0'
theorem sameMachineB_self (d0 : Int) (d1 : Int) (x0 : List R3) : sameMachineB d0 d0 d1 d1 x0 x0 = true := by simp [sameMachineB, same3]

set_option maxHeartbeats 1000000 in
theorem eqMachine_any (d0 : Int) (d1 : Int) (A0 : Option Addr) (n0 c0 : Nat) (x0 : List R3) (d0' : Int) (d1' : Int) (A0' : Option Addr) (n0' c0' : Nat) (x0' : List R3) (w : World) (r0 : S3 w A0 n0 x0) (r0' : S3 w A0' n0' x0') (h0 : n0 ≤ 1048576) :
    Calls Try.prog 54 #[.agg #[.int .i64 d0, .int .i64 d1, .slice A0 n0 c0], .agg #[.int .i64 d0', .int .i64 d1', .slice A0' n0' c0']] w fun e w' => e = .returned (.bool (sameMachineB d0 d0' d1 d1' x0 x0')) ∧ Below w.heap.size w w' := by
  obtain ⟨W, hW⟩ : ∃ W, W = (w.alloc (.cells #[.int .i64 d0, .int .i64 d1, .slice A0 n0 c0] 82)).alloc (.cells #[.int .i64 d0', .int .i64 d1', .slice A0' n0' c0'] 82) := ⟨_, rfl⟩
  have s1 : (w.alloc (.cells #[.int .i64 d0, .int .i64 d1, .slice A0 n0 c0] 82)).heap.size = w.heap.size + 1 := by simp
  have b0 : Blk W w.heap.size 82 #[.int .i64 d0, .int .i64 d1, .slice A0 n0 c0] := by rw [hW]; exact (Blk.new w _ _).alloc _
  have b1 : Blk W (w.heap.size + 1) 82 #[.int .i64 d0', .int .i64 d1', .slice A0' n0' c0'] := by rw [hW, ← s1]; exact Blk.new _ _ _
  have y0 : Below w.heap.size w W := by rw [hW]; exact ((Below.refl _ _).alloc (Nat.le_refl _) _).alloc (by simp) _
  have HW := Lib.hid hW
  clear hW s1
  cases hd_d0 : (d0 != d0')
  · skip
    have HD_d0 := Lib.hid (show d0 = d0' by simpa using hd_d0)
    cases hd_d1 : (d1 != d1')
    · skip
      have HD_d1 := Lib.hid (show d1 = d1' by simpa using hd_d1)
      go_enter Try.func54, Try.ntmps54
      go_wp2_with fail
      rw [← HW.out]
      clear hd_d0 hd_d1
      refine (eqR _ _ _ _ _ _ x0 x0' _ (r0.below y0) (r0'.below y0) (by omega)).mono ?_
      rintro e w0 ⟨rfl, bz0⟩
      have yy0 : Below w.heap.size w w0 := y0.trans (bz0.mono y0.size)
      have b0 := b0.below' bz0
      have b1 := b1.below' bz0
      cases hs0 : same3 x0 x0'
      · have HS := Lib.hid hs0
        clear hs0
        go_wp2_with fail
        go_ret
        exact ⟨ret_bool (by unfold sameMachineB; rw [HS.out]; simp), yy0⟩
      · skip
        have HS0 := Lib.hid hs0
        clear hs0
        go_wp2_with fail
        go_ret
        exact ⟨ret_bool (by unfold sameMachineB; rw [HS0.out]; simp [HD_d0.out, HD_d1.out]), yy0⟩
    · have HD := Lib.hid (show ¬ d1 = d1' by simpa using hd_d1)
      go_enter Try.func54, Try.ntmps54
      go_wp2_with fail
      rw [← HW.out]
      go_ret
      exact ⟨ret_bool (by unfold sameMachineB; simp [HD.out]), y0⟩
  · have HD := Lib.hid (show ¬ d0 = d0' by simpa using hd_d0)
    go_enter Try.func54, Try.ntmps54
    go_wp2_with fail
    rw [← HW.out]
    go_ret
    exact ⟨ret_bool (by unfold sameMachineB; simp [HD.out]), y0⟩

set_option maxHeartbeats 400000 in
theorem markMachine_m (T : List TypeId) (d0 : Int) (d1 : Int) (A0 : Option Addr) (n0 c0 : Nat) (p : Int) (w : World) (lo hi : Nat) (m0 : Mk w lo hi 169 3 A0 n0) (h0 : n0 ≤ 1048576) (tR : 169 ∈ T) (tX : 82 ∉ T) (g0 : 0 ≤ p) (g1 : p ≤ 9223372036800000000) :
    Calls Try.prog 55 #[.agg #[.int .i64 d0, .int .i64 d1, .slice A0 n0 c0], .int .i64 p] w (MarkP T w lo hi (n0 * 3) p) := by
  obtain ⟨W, hW⟩ : ∃ W, W = w.alloc (.cells #[.int .i64 d0, .int .i64 d1, .slice A0 n0 c0] 82) := ⟨_, rfl⟩
  have b0 : Blk W w.heap.size 82 #[.int .i64 d0, .int .i64 d1, .slice A0 n0 c0] := by rw [hW]; exact Blk.new w _ _
  have z0 : Below w.heap.size w W := by rw [hW]; exact (Below.refl _ _).alloc (Nat.le_refl _) _
  have HW := Lib.hid hW
  clear hW
  have TR := Lib.hid tR
  have TX := Lib.hid tX
  clear tR tX
  go_enter Try.func55, Try.ntmps55
  have f0 : MkF T lo hi w W := MkF.of_below z0
  go_wp2_with fail
  rw [← HW.out]
  refine (markR_m T _ _ _ _ _ lo hi (m0.mkf f0) TR.out (by omega) (by omega)).mono ?_
  rintro e w0 ⟨rfl, ff0⟩
  have f1 := f0.trans ff0
  have b0 := b0.mkf ff0 TX.out
  go_wp2_with fail
  go_ret
  exact ⟨ret_int (by omega), f1⟩
end Go.Proofs.Ythipbeggaeogcaa
