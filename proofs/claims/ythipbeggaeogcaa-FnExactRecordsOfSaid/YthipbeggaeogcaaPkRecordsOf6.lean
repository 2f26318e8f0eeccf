/-
  Contracts of the laws' helpers over Machine: szMachine, toMachine, eqMachine, markMachine.
-/
import Derived.Test.YthipbeggaeogcaaPkRecordsOf0
import Derived.Test.YthipbeggaeogcaaPkRecordsOf1
import Derived.Test.YthipbeggaeogcaaPkRecordsOf5
import Derived.BigGuardPart
import Derived.Test.YthipbeggaeogcaaHelpR
import Derived.Test.YthipbeggaeogcaaRows
import Derived.Test.YthipbeggaeogcaaOpen3
namespace Go.Proofs.Ythipbeggaeogcaa
open Go.RowKit

set_option maxHeartbeats 400000 in
theorem szMachine_any (d0 : Int) (d1 : Int) (A0 : Option Addr) (n0 c0 : Nat) (left : Int) (w : World) (h0 : n0 ≤ 9223372036854775807) (g0 : 0 ≤ left) (g1 : left ≤ 1048576) :
    Calls Try.prog 50 #[.agg #[.int .i64 d0, .int .i64 d1, .slice A0 n0 c0], .int .i64 left] w (SzP w left ((n0 : Int))) := by
  obtain ⟨W, hW⟩ : ∃ W, W = w.alloc (.cells #[.int .i64 d0, .int .i64 d1, .slice A0 n0 c0] 77) := ⟨_, rfl⟩
  have b0 : Blk W w.heap.size 77 #[.int .i64 d0, .int .i64 d1, .slice A0 n0 c0] := by rw [hW]; exact Blk.new w _ _
  have z0 : Below w.heap.size w W := by rw [hW]; exact (Below.refl _ _).alloc (Nat.le_refl _) _
  have HW := Lib.hid hW
  clear hW
  go_enter Try.func50, Try.ntmps50
  go_wp2_with fail
  rw [← HW.out]
  refine (szR_p A0 n0 c0 left W h0 (by omega) (by omega)).mono ?_
  rintro e w1 ⟨z1, rfl, l1, u1, e1, b1⟩
  have E1 := Lib.hid e1
  clear e1
  have y1 : Below w.heap.size w w1 := z0.trans (b1.mono z0.size)
  by_cases hneg1 : z1 < 0
  · go_wp2_with fail
    go_ret
    exact ⟨-1, rfl, by omega, by omega, by omega, y1⟩
  go_wp2_with fail
  go_ret
  exact ⟨z1, rfl, by omega, by omega, fun _ => by have t1 := E1.out (by omega); omega, y1⟩

def ToMachine (w : World) (d0 : Int) (d1 : Int) (n0 : Nat) (x0 : List R3) (e : Ending) (w' : World) : Prop :=
  ∃ B0, e = .returned (.agg #[.int .i64 d0, .int .i64 d1, .slice B0 n0 n0]) ∧ Own w' w.heap.size 169 3 B0 n0 n0 (cells3 x0) ∧ Below w.heap.size w w'

set_option maxHeartbeats 1000000 in
theorem toMachine_any (d0 : Int) (d1 : Int) (A0 : Option Addr) (n0 c0 : Nat) (x0 : List R3) (w : World) (r0 : S3 w A0 n0 x0) (h0 : n0 ≤ 1048576) :
    Calls Try.prog 52 #[.agg #[.int .i64 d0, .int .i64 d1, .slice A0 n0 c0]] w (ToMachine w d0 d1 n0 x0) := by
  obtain ⟨W, hW⟩ : ∃ W, W = ((w.alloc (.cells #[.int .i64 d0, .int .i64 d1, .slice A0 n0 c0] 77)).alloc (.cells #[.int .i64 0, .int .i64 0, .slice none 0 0] 82)).alloc (.cells #[.int .i64 d0, .int .i64 d1, .slice none 0 0] 82) := ⟨_, rfl⟩
  have s1 : (w.alloc (.cells #[.int .i64 d0, .int .i64 d1, .slice A0 n0 c0] 77)).heap.size = w.heap.size + 1 := by simp
  have s2 : ((w.alloc (.cells #[.int .i64 d0, .int .i64 d1, .slice A0 n0 c0] 77)).alloc (.cells #[.int .i64 0, .int .i64 0, .slice none 0 0] 82)).heap.size = w.heap.size + 1 + 1 := by simp
  have b0 : Blk W w.heap.size 77 #[.int .i64 d0, .int .i64 d1, .slice A0 n0 c0] := by rw [hW]; exact ((Blk.new w _ _).alloc _).alloc _
  have b1 : Blk W (w.heap.size + 1) 82 #[.int .i64 0, .int .i64 0, .slice none 0 0] := by rw [hW, ← s1]; exact (Blk.new _ _ _).alloc _
  have b2 : Blk W (w.heap.size + 1 + 1) 82 #[.int .i64 d0, .int .i64 d1, .slice none 0 0] := by rw [hW, ← s2]; exact Blk.new _ _ _
  have y0 : Below w.heap.size w W := by rw [hW]; exact (((Below.refl _ _).alloc (Nat.le_refl _) _).alloc (by simp) _).alloc (by simp; omega) _
  have hz : w.heap.size + 1 + 1 < W.heap.size := b2.lt
  have HW := Lib.hid hW
  clear hW s1 s2
  go_enter Try.func52, Try.ntmps52
  go_wp2_with fail
  rw [← HW.out]
  clear HW
  refine (toR _ _ _ x0 _ (r0.below y0) h0).mono ?_
  rintro e w0 ⟨B0, rfl, o0, bz0⟩
  have b0 := b0.below' bz0
  have b1 := b1.below' bz0
  have b2 := b2.below' bz0
  have yc0 : Below w.heap.size w w0 := y0.trans (bz0.mono y0.size)
  have hw0 : W.heap.size ≤ w0.heap.size := by have := bz0.size; omega
  have p0 : w0.cell? ⟨w.heap.size + 1 + 1, 2, none⟩ = some (.slice none 0 0) := b2.cell 2
  have pf0 := b2.frozen 2
  have a0 : w0.cell? ⟨w.heap.size + 1 + 1, 0, none⟩ = some (.int .i64 d0) := b2.cell 0
  have a1 : w0.cell? ⟨w.heap.size + 1 + 1, 1, none⟩ = some (.int .i64 d1) := b2.cell 1
  have c0_ : w0.cell? ⟨w.heap.size + 1, 0, none⟩ = some (.int .i64 0) := b1.cell 0
  have f0_ := b1.frozen 0
  have c1_ : w0.cell? ⟨w.heap.size + 1, 1, none⟩ = some (.int .i64 0) := b1.cell 1
  have f1_ := b1.frozen 1
  have c2_ : w0.cell? ⟨w.heap.size + 1, 2, none⟩ = some (.slice none 0 0) := b1.cell 2
  have f2_ := b1.frozen 2
  go_wp2_with fail
  have dB : Blk ((((w0.setCell ⟨w.heap.size + 1 + 1, 2, none⟩ (.slice B0 n0 n0)).setCell ⟨w.heap.size + 1, 0, none⟩ (.int .i64 d0)).setCell ⟨w.heap.size + 1, 1, none⟩ (.int .i64 d1)).setCell ⟨w.heap.size + 1, 2, none⟩ (.slice B0 n0 n0)) (w.heap.size + 1) 82 #[.int .i64 d0, .int .i64 d1, .slice B0 n0 n0] := (((b1.far (p := ⟨w.heap.size + 1 + 1, 2, none⟩) (by simp) _).set_ 0 _).set_ 1 _).set_ 2 _
  have m0 : Own ((((w0.setCell ⟨w.heap.size + 1 + 1, 2, none⟩ (.slice B0 n0 n0)).setCell ⟨w.heap.size + 1, 0, none⟩ (.int .i64 d0)).setCell ⟨w.heap.size + 1, 1, none⟩ (.int .i64 d1)).setCell ⟨w.heap.size + 1, 2, none⟩ (.slice B0 n0 n0)) W.heap.size 169 3 B0 n0 n0 (cells3 x0) := (((o0.far (fun e => by have := o0.blk_ge _ e; simp at this; omega) _).far (fun e => by have := o0.blk_ge _ e; simp at this; omega) _).far (fun e => by have := o0.blk_ge _ e; simp at this; omega) _).far (fun e => by have := o0.blk_ge _ e; simp at this; omega) _
  have yf : Below w.heap.size w ((((w0.setCell ⟨w.heap.size + 1 + 1, 2, none⟩ (.slice B0 n0 n0)).setCell ⟨w.heap.size + 1, 0, none⟩ (.int .i64 d0)).setCell ⟨w.heap.size + 1, 1, none⟩ (.int .i64 d1)).setCell ⟨w.heap.size + 1, 2, none⟩ (.slice B0 n0 n0)) := (((yc0.setCell (by simp; omega) _).setCell (by simp) _).setCell (by simp) _).setCell (by simp) _
  generalize (((w0.setCell ⟨w.heap.size + 1 + 1, 2, none⟩ (.slice B0 n0 n0)).setCell ⟨w.heap.size + 1, 0, none⟩ (.int .i64 d0)).setCell ⟨w.heap.size + 1, 1, none⟩ (.int .i64 d1)).setCell ⟨w.heap.size + 1, 2, none⟩ (.slice B0 n0 n0) = wf at *
  have g0_ : wf.cell? ⟨w.heap.size + 1, 0, none⟩ = some (.int .i64 d0) := dB.cell 0
  have g1_ : wf.cell? ⟨w.heap.size + 1, 1, none⟩ = some (.int .i64 d1) := dB.cell 1
  have g2_ : wf.cell? ⟨w.heap.size + 1, 2, none⟩ = some (.slice B0 n0 n0) := dB.cell 2
  have hres : ToMachine w d0 d1 n0 x0 (.returned (.agg #[.int .i64 d0, .int .i64 d1, .slice B0 n0 n0])) wf := ⟨B0, rfl, m0.mono (by omega), yf⟩
  exact bodyPost_ret (v := .agg #[.int .i64 d0, .int .i64 d1, .slice B0 n0 n0]) (by simp [results, Try.results52, go_sem, g0_, g1_, g2_]) rfl hres

def sameMachineB (d0 d0' : Int) (d1 d1' : Int) (x0 x0' : List R3) : Bool :=
  decide (d0 = d0') && decide (d1 = d1') && same3 x0 x0'
theorem sameMachineB_self (d0 : Int) (d1 : Int) (x0 : List R3) : sameMachineB d0 d0 d1 d1 x0 x0 = true := by simp [sameMachineB, same3]

set_option maxHeartbeats 1000000 in
theorem eqMachine_any (d0 : Int) (d1 : Int) (A0 : Option Addr) (n0 c0 : Nat) (x0 : List R3) (d0' : Int) (d1' : Int) (A0' : Option Addr) (n0' c0' : Nat) (x0' : List R3) (w : World) (r0 : S3 w A0 n0 x0) (r0' : S3 w A0' n0' x0') (h0 : n0 ≤ 1048576) :
    Calls Try.prog 54 #[.agg #[.int .i64 d0, .int .i64 d1, .slice A0 n0 c0], .agg #[.int .i64 d0', .int .i64 d1', .slice A0' n0' c0']] w fun e w' => e = .returned (.bool (sameMachineB d0 d0' d1 d1' x0 x0')) ∧ Below w.heap.size w w' := by
  obtain ⟨W, hW⟩ : ∃ W, W = (w.alloc (.cells #[.int .i64 d0, .int .i64 d1, .slice A0 n0 c0] 82)).alloc (.cells #[.int .i64 d0', .int .i64 d1', .slice A0' n0' c0'] 82) := ⟨_, rfl⟩
  have s1 : (w.alloc (.cells #[.int .i64 d0, .int .i64 d1, .slice A0 n0 c0] 82)).heap.size = w.heap.size + 1 := by simp
  have b0 : Blk W w.heap.size 82 #[.int .i64 d0, .int .i64 d1, .slice A0 n0 c0] := by rw [hW]; exact (Blk.new w _ _).alloc _
  have b1 : Blk W (w.heap.size + 1) 82 #[.int .i64 d0', .int .i64 d1', .slice A0' n0' c0'] := by rw [hW, ← s1]; exact Blk.new _ _ _
  have y0 : Below w.heap.size w W := by rw [hW]; exact ((Below.refl _ _).alloc (Nat.le_refl _) _).alloc (by simp) _
  have HW := Lib.hid hW
  clear hW s1
  cases hd_d0 : (d0 != d0')
  · skip
    have HD_d0 := Lib.hid (show d0 = d0' by simpa using hd_d0)
    cases hd_d1 : (d1 != d1')
    · skip
      have HD_d1 := Lib.hid (show d1 = d1' by simpa using hd_d1)
      go_enter Try.func54, Try.ntmps54
      go_wp2_with fail
      rw [← HW.out]
      clear hd_d0 hd_d1
      refine (eqR _ _ _ _ _ _ x0 x0' _ (r0.below y0) (r0'.below y0) (by omega)).mono ?_
      rintro e w0 ⟨rfl, bz0⟩
      have yy0 : Below w.heap.size w w0 := y0.trans (bz0.mono y0.size)
      have b0 := b0.below' bz0
      have b1 := b1.below' bz0
      cases hs0 : same3 x0 x0'
      · have HS := Lib.hid hs0
        clear hs0
        go_wp2_with fail
        go_ret
        exact ⟨ret_bool (by unfold sameMachineB; rw [HS.out]; simp), yy0⟩
      · skip
        have HS0 := Lib.hid hs0
        clear hs0
        go_wp2_with fail
        go_ret
        exact ⟨ret_bool (by unfold sameMachineB; rw [HS0.out]; simp [HD_d0.out, HD_d1.out]), yy0⟩
    · have HD := Lib.hid (show ¬ d1 = d1' by simpa using hd_d1)
      go_enter Try.func54, Try.ntmps54
      go_wp2_with fail
      rw [← HW.out]
      go_ret
      exact ⟨ret_bool (by unfold sameMachineB; simp [HD.out]), y0⟩
  · have HD := Lib.hid (show ¬ d0 = d0' by simpa using hd_d0)
    go_enter Try.func54, Try.ntmps54
    go_wp2_with fail
    rw [← HW.out]
    go_ret
    exact ⟨ret_bool (by unfold sameMachineB; simp [HD.out]), y0⟩

set_option maxHeartbeats 400000 in
theorem markMachine_m (T : List TypeId) (d0 : Int) (d1 : Int) (A0 : Option Addr) (n0 c0 : Nat) (p : Int) (w : World) (lo hi : Nat) (m0 : Mk w lo hi 169 3 A0 n0) (h0 : n0 ≤ 1048576) (tR : 169 ∈ T) (tX : 82 ∉ T) (g0 : 0 ≤ p) (g1 : p ≤ 9223372036800000000) :
    Calls Try.prog 55 #[.agg #[.int .i64 d0, .int .i64 d1, .slice A0 n0 c0], .int .i64 p] w (MarkP T w lo hi (n0 * 3) p) := by
  obtain ⟨W, hW⟩ : ∃ W, W = w.alloc (.cells #[.int .i64 d0, .int .i64 d1, .slice A0 n0 c0] 82) := ⟨_, rfl⟩
  have b0 : Blk W w.heap.size 82 #[.int .i64 d0, .int .i64 d1, .slice A0 n0 c0] := by rw [hW]; exact Blk.new w _ _
  have z0 : Below w.heap.size w W := by rw [hW]; exact (Below.refl _ _).alloc (Nat.le_refl _) _
  have HW := Lib.hid hW
  clear hW
  have TR := Lib.hid tR
  have TX := Lib.hid tX
  clear tR tX
  go_enter Try.func55, Try.ntmps55
  have f0 : MkF T lo hi w W := MkF.of_below z0
  go_wp2_with fail
  rw [← HW.out]
  refine (markR_m T _ _ _ _ _ lo hi (m0.mkf f0) TR.out (by omega) (by omega)).mono ?_
  rintro e w0 ⟨rfl, ff0⟩
  have f1 := f0.trans ff0
  have b0 := b0.mkf ff0 TX.out
  go_wp2_with fail
  go_ret
  exact ⟨ret_int (by omega), f1⟩
end Go.Proofs.Ythipbeggaeogcaa

/-
  The walk of the law FnExactRecordsOf: it returns true, and nothing that was there before has turned.
-/
namespace Go.Proofs.Ythipbeggaeogcaa
open Go.RowKit

set_option maxRecDepth 100000 in
set_option maxHeartbeats 16000000 in
theorem lawRecordsOf (sy0 st0 : Int) (A0 : Option Addr) (n0 k0 : Nat) (rs0 : List R3) (b1 : Int) (w : World) (hr0 : S3 w A0 n0 rs0)  (hb0 : n0 ≤ 9223372036854775807)  :
    Calls Try.prog 13 #[.agg #[.int .i64 sy0, .int .i64 st0, .slice A0 n0 k0], .int .i64 b1] w fun e w' => e = .returned (.bool true) ∧ Below w.heap.size w w' := by
  obtain ⟨W0, hW0⟩ : ∃ W, W = w.alloc (.cells #[.int .i64 sy0, .int .i64 st0, .slice A0 n0 k0] 77) := ⟨_, rfl⟩
  have bb0 : Blk W0 w.heap.size 77 #[.int .i64 sy0, .int .i64 st0, .slice A0 n0 k0] := by rw [hW0]; exact Blk.new w _ _
  have z0 : Below w.heap.size w W0 := by rw [hW0]; exact (Below.refl _ _).alloc (Nat.le_refl _) _
  have HW0 := Lib.hid hW0
  clear hW0
  go_enter Try.func13, Try.ntmps13
  go_wp2_with fail
  rw [← HW0.out]
  refine (szMachine_any _ _ _ _ _ _ _ hb0 (by omega) (by omega)).mono ?_
  rintro e W1 ⟨v1, rfl, va1, vb1, vc1, z1⟩
  have VC1 := Lib.hid vc1
  clear vc1
  have yw_W1 : Below w.heap.size w W1 := z0.trans (z1.mono z0.size)
  by_cases hneg1 : v1 < 0
  · go_wp2_with fail
    go_ret
    exact ⟨rfl, yw_W1⟩
  have hsm : n0 ≤ 1048576 := by
    have t1 := VC1.out (by omega)
    omega
  have p0 := hsm
  clear VC1
  have uc2 : W1.cell? ⟨w.heap.size, 0, none⟩ = some (.int .i64 sy0) := (bb0.below' z1).cell 0
  have uc3 : W1.cell? ⟨w.heap.size, 1, none⟩ = some (.int .i64 st0) := (bb0.below' z1).cell 1
  have uc4 : W1.cell? ⟨w.heap.size, 2, none⟩ = some (.slice A0 n0 k0) := (bb0.below' z1).cell 2
  go_wp2_with fail
  refine (toMachine_any _ _ _ _ _ rs0 _ (hr0.below yw_W1) p0).mono ?_
  rintro e W5 ⟨B5, rfl, o5, z5⟩
  clear uc2 uc3 uc4
  go_wp2_with fail
  refine (recordsS_any _ _ _ _ _ rs0 _ _ o5.as3 p0).mono ?_
  obtain ⟨res, hres⟩ : ∃ res, res = recordsF sy0 st0 rs0 b1 := ⟨_, rfl⟩
  rw [← hres]
  have HRES := Lib.hid hres
  clear hres
  rintro e W6 ⟨A6r, c6r, us6r, rfl, oR6, hn6r, z6⟩
  have HN6r := Lib.hid hn6r
  clear hn6r
  have hlen : res.1.length ≤ 1048576 ∧ (res.1.map List.length).sum ≤ 1048576 := by rw [HRES.out]; exact recordsF_len sy0 st0 rs0 b1
  obtain ⟨lx0, lx1⟩ := hlen
  have yW0_W5 : Below W0.heap.size W0 W5 := z1.trans (z5.mono z1.size)
  have yW0_W6 : Below W0.heap.size W0 W6 := yW0_W5.trans (z6.mono yW0_W5.size)
  have uc7 : W6.cell? ⟨w.heap.size, 0, none⟩ = some (.int .i64 sy0) := (bb0.below' yW0_W6).cell 0
  have uc8 : W6.cell? ⟨w.heap.size, 1, none⟩ = some (.int .i64 st0) := (bb0.below' yW0_W6).cell 1
  have uc9 : W6.cell? ⟨w.heap.size, 2, none⟩ = some (.slice A0 n0 k0) := (bb0.below' yW0_W6).cell 2
  go_wp2_with fail
  have yw_W5 : Below w.heap.size w W5 := yw_W1.trans (z5.mono yw_W1.size)
  have yw_W6 : Below w.heap.size w W6 := yw_W5.trans (z6.mono yw_W5.size)
  refine (toMachine_any _ _ _ _ _ rs0 _ (hr0.below yw_W6) p0).mono ?_
  rintro e W10 ⟨B10, rfl, o10, z10⟩
  clear uc7 uc8 uc9
  obtain ⟨W11, hW11⟩ : ∃ W, W = W10.alloc (.cells #[.int .i64 sy0, .int .i64 st0, .slice B10 n0 n0] 82) := ⟨_, rfl⟩
  have cb0 : Blk W11 W10.heap.size 82 #[.int .i64 sy0, .int .i64 st0, .slice B10 n0 n0] := by rw [hW11]; exact Blk.new W10 _ _
  have z11 : Below W10.heap.size W10 W11 := by rw [hW11]; exact (Below.refl _ _).alloc (Nat.le_refl _) _
  have HW11 := Lib.hid hW11
  clear hW11
  have uc12 : W11.cell? ⟨W10.heap.size, 0, none⟩ = some (.int .i64 sy0) := cb0.cell 0
  have uc13 : W11.cell? ⟨W10.heap.size, 1, none⟩ = some (.int .i64 st0) := cb0.cell 1
  have uc14 : W11.cell? ⟨W10.heap.size, 2, none⟩ = some (.slice B10 n0 n0) := cb0.cell 2
  go_upto_region 10 with fail
  rw [← HW11.out]
  go_wp2_with fail
  refine (recordsI_any _ _ _ _ _ rs0 _ _ (o10.below z11).as3 p0).mono ?_
  rw [← HRES.out]
  rintro e W15 ⟨A15r, c15r, us15r, rfl, oR15, hn15r, z15⟩
  clear uc12 uc13 uc14
  have HN15r := Lib.hid hn15r
  clear hn15r
  have yW6_W11 : Below W6.heap.size W6 W11 := z10.trans (z11.mono z10.size)
  have yW6_W15 : Below W6.heap.size W6 W15 := yW6_W11.trans (z15.mono yW6_W11.size)
  go_wp2_with fail
  refine (eqII_b _ _ _ _ _ _ us15r us6r _ oR15.sii (oR6.below yW6_W15).sii (by omega) (fun t ht => by have := row_total ht; have := total_of HN15r.out lx1; omega)).mono ?_
  rintro e W16 ⟨rfl, z16⟩
  rw [HN15r.out, HN6r.out, sameII_self]
  have yW11_W16 : Below W11.heap.size W11 W16 := z15.trans (z16.mono z15.size)
  have uc17 : W16.cell? ⟨W10.heap.size, 0, none⟩ = some (.int .i64 sy0) := (cb0.below' yW11_W16).cell 0
  have uc18 : W16.cell? ⟨W10.heap.size, 1, none⟩ = some (.int .i64 st0) := (cb0.below' yW11_W16).cell 1
  have uc19 : W16.cell? ⟨W10.heap.size, 2, none⟩ = some (.slice B10 n0 n0) := (cb0.below' yW11_W16).cell 2
  have yW0_W10 : Below W0.heap.size W0 W10 := yW0_W6.trans (z10.mono yW0_W6.size)
  have yW0_W11 : Below W0.heap.size W0 W11 := yW0_W10.trans (z11.mono yW0_W10.size)
  have yW0_W15 : Below W0.heap.size W0 W15 := yW0_W11.trans (z15.mono yW0_W11.size)
  have yW0_W16 : Below W0.heap.size W0 W16 := yW0_W15.trans (z16.mono yW0_W15.size)
  have uc20 : W16.cell? ⟨w.heap.size, 0, none⟩ = some (.int .i64 sy0) := (bb0.below' yW0_W16).cell 0
  have uc21 : W16.cell? ⟨w.heap.size, 1, none⟩ = some (.int .i64 st0) := (bb0.below' yW0_W16).cell 1
  have uc22 : W16.cell? ⟨w.heap.size, 2, none⟩ = some (.slice A0 n0 k0) := (bb0.below' yW0_W16).cell 2
  have yw_W10 : Below w.heap.size w W10 := yw_W6.trans (z10.mono yw_W6.size)
  have yw_W11 : Below w.heap.size w W11 := yw_W10.trans (z11.mono yw_W10.size)
  have yw_W15 : Below w.heap.size w W15 := yw_W11.trans (z15.mono yw_W11.size)
  have yw_W16 : Below w.heap.size w W16 := yw_W15.trans (z16.mono yw_W15.size)
  have yW10_W15 : Below W10.heap.size W10 W15 := z11.trans (z15.mono z11.size)
  have yW10_W16 : Below W10.heap.size W10 W16 := yW10_W15.trans (z16.mono yW10_W15.size)
  go_wp2_with fail
  go_region_held3 (fun w' => w'.cell? ⟨W10.heap.size, 0, none⟩ = some (.int .i64 sy0) ∧ w'.cell? ⟨W10.heap.size, 1, none⟩ = some (.int .i64 st0) ∧ w'.cell? ⟨W10.heap.size, 2, none⟩ = some (.slice B10 n0 n0) ∧ w'.cell? ⟨w.heap.size, 0, none⟩ = some (.int .i64 sy0) ∧ w'.cell? ⟨w.heap.size, 1, none⟩ = some (.int .i64 st0) ∧ w'.cell? ⟨w.heap.size, 2, none⟩ = some (.slice A0 n0 k0))
    (first
      | (go_keep; done)
      | (exact ⟨((cb0.below' yW11_W16).below' zz24).cell 0, ((cb0.below' yW11_W16).below' zz24).cell 1, ((cb0.below' yW11_W16).below' zz24).cell 2, ((bb0.below' yW0_W16).below' zz24).cell 0, ((bb0.below' yW0_W16).below' zz24).cell 1, ((bb0.below' yW0_W16).below' zz24).cell 2⟩)
      | (exact ⟨((cb0.below' yW11_W16).below' zz23).cell 0, ((cb0.below' yW11_W16).below' zz23).cell 1, ((cb0.below' yW11_W16).below' zz23).cell 2, ((bb0.below' yW0_W16).below' zz23).cell 0, ((bb0.below' yW0_W16).below' zz23).cell 1, ((bb0.below' yW0_W16).below' zz23).cell 2⟩))
    (first
      | (go_at_call 52; refine (toMachine_any _ _ _ _ _ rs0 _ ((hr0.below yw_W16).drewN 1) p0).mono ?_; rintro e W23 ⟨B23, rfl, o23, z23⟩; have zz23 : Below W16.heap.size W16 W23 := below_undrew z23)
      | (go_at_call 54; refine (eqMachine_any _ _ _ _ _ rs0 _ _ _ _ _ rs0 _ ((o10.below yW10_W16).below zz23).rd o23.rd p0).mono ?_; rintro e W24 ⟨rfl, z24⟩; have zz24 : Below W16.heap.size W16 W24 := zz23.trans (z24.mono zz23.size)))
  rw [sameMachineB_self]
  clear uc17 uc18 uc19 uc20 uc21 uc22
  clear o23 z23 zz23 z24
  have TM0 : Hid (169 ∈ [169]) := Lib.hid (by decide)
  have TN_Machine : Hid (82 ∉ [169]) := Lib.hid (by decide)
  have TL_Machine : Hid (77 ∉ [169]) := Lib.hid (by decide)
  have TN_SS : Hid (25 ∉ [169]) := Lib.hid (by decide)
  have hs_W1 : W0.heap.size ≤ W1.heap.size := z1.size
  have hs_W5 : W1.heap.size ≤ W5.heap.size := z5.size
  have hs_W6 : W5.heap.size ≤ W6.heap.size := z6.size
  have hs_W10 : W6.heap.size ≤ W10.heap.size := z10.size
  have hs_W11 : W10.heap.size ≤ W11.heap.size := z11.size
  have hs_W15 : W11.heap.size ≤ W15.heap.size := z15.size
  have hs_W16 : W15.heap.size ≤ W16.heap.size := z16.size
  have hs_W24 : W16.heap.size ≤ W24.heap.size := zz24.size
  have yW10_W24 : Below W10.heap.size W10 W24 := yW10_W16.trans (zz24.mono yW10_W16.size)
  have m0 : Mk W24 W6.heap.size W11.heap.size 169 3 B10 n0 := (((o10.below yW10_W24)).mono (by omega)).mk (fun b hb => by have := o10.blk_lt b hb; omega)
  have yW0_W24 : Below W0.heap.size W0 W24 := yW0_W16.trans (zz24.mono yW0_W16.size)
  have yW11_W24 : Below W11.heap.size W11 W24 := yW11_W16.trans (zz24.mono yW11_W16.size)
  have yw_W24 : Below w.heap.size w W24 := yw_W16.trans (zz24.mono yw_W16.size)
  have yW15_W24 : Below W15.heap.size W15 W24 := z16.trans (zz24.mono z16.size)
  have yW6_W16 : Below W6.heap.size W6 W16 := yW6_W15.trans (z16.mono yW6_W15.size)
  have yW6_W24 : Below W6.heap.size W6 W24 := yW6_W16.trans (zz24.mono yW6_W16.size)
  have io0 := (oR15.below yW15_W24)
  have so0 := (oR6.below yW6_W24)
  have bm0 := (bb0.below' yW0_W24)
  have cm0 := (cb0.below' yW11_W24)
  have cq0 := cm0
  have uc25 : W24.cell? ⟨W10.heap.size, 0, none⟩ = some (.int .i64 sy0) := cq0.cell 0
  have uc26 : W24.cell? ⟨W10.heap.size, 1, none⟩ = some (.int .i64 st0) := cq0.cell 1
  have uc27 : W24.cell? ⟨W10.heap.size, 2, none⟩ = some (.slice B10 n0 n0) := cq0.cell 2
  go_wp2_with fail
  refine (markMachine_m [169] _ _ _ _ _ _ _ W6.heap.size W11.heap.size m0 p0 TM0.out TN_Machine.out (by omega) (by omega)).mono ?_
  rintro e W28 ⟨rfl, f28⟩
  clear uc25 uc26 uc27
  have io0 := io0.mkf_far f28 (fun b hb => .inr hb)
  have so0 := OII.mkf_below oR6 (Nat.le_refl _) so0 f28
  have bm0 := bm0.mkf f28 TL_Machine.out
  have yM : Below w.heap.size w W28 := yw_W24.trans (f28.below yw_W6.size yw_W24.size)
  have hs_W28 : W24.heap.size ≤ W28.heap.size := f28.size
  clear f28
  have gneg : ¬ ((1 : Int) + ((n0 * 3 : Nat) : Int) < 0) := by omega
  go_wp2_with fail
  refine (eqII_b _ _ _ _ _ _ us15r us6r _ io0.sii so0.sii (by omega) (fun t ht => by have := row_total ht; have := total_of HN15r.out lx1; omega)).mono ?_
  rintro e W29 ⟨rfl, z29⟩
  rw [HN15r.out, HN6r.out, sameII_self]
  clear gneg
  have hs_W29 : W28.heap.size ≤ W29.heap.size := z29.size
  go_wp2_with fail
  refine (markII_c _ _ _ us15r _ _ W11.heap.size W15.heap.size (io0.below z29) (fun t ht b hb => (oR15.2.1 t ht).blk_lt b hb) (by decide) (by omega) (total_of HN15r.out lx1) (by omega) (by omega)).mono ?_
  rintro e W30 ⟨rfl, eR, t30⟩
  have so0 := OII.touch_below oR6 (by omega) (so0.below z29) t30
  have bm0 := (bm0.below' z29).touch t30 (.inl (by have := bb0.lt; omega))
  have yw_W29 : Below w.heap.size w W29 := yM.trans (z29.mono yM.size)
  have hlow : w.heap.size ≤ W11.heap.size := by have := yw_W6.size; omega
  have yN : Below w.heap.size w W30 := yw_W29.trans (t30.below hlow yw_W29.size)
  have hs_W30 : W29.heap.size ≤ W30.heap.size := t30.size
  clear t30
  go_wp2_with fail
  refine (heldII_c _ _ _ _ _ _ eR (by omega) (total_of HN15r.out lx1) (by omega) (by omega)).mono ?_
  rintro e W31 ⟨rfl, z31⟩
  have gneg : ¬ ((1 : Int) + (total us15r : Int) < 0) := by omega
  have uc32 : W31.cell? ⟨w.heap.size, 0, none⟩ = some (.int .i64 sy0) := (bm0.below' z31).cell 0
  have uc33 : W31.cell? ⟨w.heap.size, 1, none⟩ = some (.int .i64 st0) := (bm0.below' z31).cell 1
  have uc34 : W31.cell? ⟨w.heap.size, 2, none⟩ = some (.slice A0 n0 k0) := (bm0.below' z31).cell 2
  have yw_W31 : Below w.heap.size w W31 := yN.trans (z31.mono yN.size)
  go_wp2_with fail
  refine (toMachine_any _ _ _ _ _ rs0 _ (hr0.below yw_W31) p0).mono ?_
  rintro e W35 ⟨B35, rfl, o35, z35⟩
  clear uc32 uc33 uc34
  go_wp2_with fail
  refine (recordsI_any _ _ _ _ _ rs0 _ _ o35.as3 p0).mono ?_
  rw [← HRES.out]
  rintro e W36 ⟨A36r, c36r, us36r, rfl, oR36, hn36r, z36⟩
  have HN36r := Lib.hid hn36r
  clear hn36r
  have yW30_W35 : Below W30.heap.size W30 W35 := z31.trans (z35.mono z31.size)
  have yW30_W36 : Below W30.heap.size W30 W36 := yW30_W35.trans (z36.mono yW30_W35.size)
  go_wp2_with fail
  refine (eqII_b _ _ _ _ _ _ us36r us6r _ oR36.sii (so0.below yW30_W36).sii (by omega) (fun t ht => by have := row_total ht; have := total_of HN36r.out lx1; omega)).mono ?_
  rintro e W37 ⟨rfl, z37⟩
  rw [HN36r.out, HN6r.out, sameII_self]
  go_wp2_with fail
  have yW30_W37 : Below W30.heap.size W30 W37 := yW30_W36.trans (z37.mono yW30_W36.size)
  refine (heldII_c _ _ _ _ _ _ (eR.below yW30_W37) (by omega) (total_of HN15r.out lx1) (by omega) (by omega)).mono ?_
  rintro e W38 ⟨rfl, z38⟩
  have yw_W35 : Below w.heap.size w W35 := yw_W31.trans (z35.mono yw_W31.size)
  have yw_W36 : Below w.heap.size w W36 := yw_W35.trans (z36.mono yw_W35.size)
  have yw_W37 : Below w.heap.size w W37 := yw_W36.trans (z37.mono yw_W36.size)
  have yw_W38 : Below w.heap.size w W38 := yw_W37.trans (z38.mono yw_W37.size)
  go_wp2_with fail
  go_ret
  exact ⟨rfl, yw_W38⟩
end Go.Proofs.Ythipbeggaeogcaa

/-
  For every input, FnExactRecordsOf returns true, and each argument reads afterwards as it read before. No conditions.
-/
namespace Go.Proofs.Ythipbeggaeogcaa.lawRecordsOfRow
open Go.ChangeShapes Go.WideShapes Go.ChangeAt Go.RowKit Go.Joins Go.Proofs.Ythipbeggaeogcaa

theorem own : ownKnob Try.prog.godebug = none := by kernel_rfl
theorem laidOut : laidOutB Try.prog = true := by kernel_rfl
theorem readable : ∀ t ∈ Try.f13.params.toList, Try.prog.readableRec t = true ∧ t < Try.prog.types.size := by
  have h : (Try.f13.params.toList.all fun t => Try.prog.readableRec t && decide (t < Try.prog.types.size)) = true := by kernel_rfl
  intro t ht
  have := List.all_eq_true.1 h t ht
  simpa using this

set_option maxRecDepth 100000 in
theorem lifted (os : Os) (started : os.Started) (H : Type) (enc : TypeId × Value → H) :
    ReturnsInHanded {} Try.checked os 13 .any (Rows.fnExactRecordsOfSpec.pre6 enc Try.prog Try.f13 Rows.fnExactRecordsOfRow.domain false) (Rows.fnExactRecordsOfSpec.post enc Try.prog Try.f13 false true false false) := by
  refine returnsInHanded_of_change (C := Try.checked) own started (by kernel_rfl) Try.func13
    (ChangeSpec.witness6 (enc := enc) (C := Try.checked) false ⟨#[], #[.agg #[.int .i64 0, .int .i64 0, .slice none 0 0], .int .i64 0], []⟩ 8 (by kernel_rfl) (by kernel_rfl) (by kernel_rfl) (by kernel_rfl)) ?_
  intro W base args ds gs before hval0 hW hcnd _
  have hval : ∀ (j : Nat) t v, Try.f13.params[j]? = some t → args[j]? = some v → Value.okWide Try.prog W .any base t v := hval0
  have hW' := hW
  obtain ⟨p, q, hA0, hV, hbef, hfz, hnd⟩ := hW
  have hA : DataW.TrodAll enc Try.prog W 0 (fun _ => true) true Try.f13.params.toList args.toList ds p := hA0
  rw [Try.params13] at hA hval
  obtain ⟨v0, vs0, d0, ds0, p0, q0, hargs, rfl, rfl, h0, r0⟩ := trodAll_cons hA
  obtain ⟨v1, vs1, d1, ds1, p1, q1, rfl, rfl, rfl, h1, r1⟩ := trodAll_cons r0
  obtain ⟨rfl, rfl, rfl⟩ := trodAll_nil r1
  obtain rfl : args = #[v0, v1] := by cases args; simp_all
  obtain ⟨rfl, rfl⟩ := trodVars_none hV
  obtain ⟨c00, c01, c02, y00, y01, y02, nn0, rfl, _, _, e00, e01, e02⟩ := open_agg3 Try.underlying77 (by kernel_rfl) (by kernel_rfl) (hval 0 77 v0 rfl rfl) h0
  obtain ⟨z00, ez, _, _⟩ := DataW.trod_int Try.underlying2 e00
  simp only [List.cons.injEq, and_true] at ez
  subst ez
  obtain ⟨z01, ez, _, _⟩ := DataW.trod_int Try.underlying2 e01
  simp only [List.cons.injEq, and_true] at ez
  subst ez
  obtain ⟨A02, n02, k02, x02, rfl, S02, l02, m02⟩ := s3_of_trod Try.underlying75 Try.underlying221 rfl rfl rfl rfl rfl rfl Try.underlying2 (by kernel_rfl) (by kernel_rfl) e02
  obtain ⟨b1, rfl⟩ := okWide_int Try.underlying2 (hval 1 2 v1 rfl rfl)
  refine (lawRecordsOf z00 z01 A02 n02 k02 x02 b1 W S02 (by omega)).mono fun e W' ⟨he, hb⟩ => ?_
  subst he
  exact ⟨_, rfl, law_post laidOut readable rfl (by kernel_rfl) Try.underlying4 rfl rfl rfl hW' hb⟩

theorem proved : Rows.FnExactRecordsOfSaid :=
  OpenClaim.holds_of_wide 13 Try.f13 rfl rfl rfl rfl rfl rfl rfl ⟨rfl, rfl, rfl, rfl, rfl⟩ rfl rfl rfl rfl rfl (by kernel_rfl) Try.func13 (by kernel_rfl)
    (of_decide_eq_true (by kernel_rfl)) (by unfold Func.isWrapper; first | (rw [if_pos (by decide +kernel)]; kernel_rfl) | (rw [if_neg (by decide +kernel)]; exact ⟨rfl, rfl⟩))
    (fun os started H enc _ => lifted os started H enc)
end Go.Proofs.Ythipbeggaeogcaa.lawRecordsOfRow
