/-
  The walk of the law FnExactTagLengths: it returns true, and nothing that was there before has turned.
-/
import Derived.Test.YtldgfgjaabphnaaTagLenS
import Derived.Test.YtldgfgjaabphnaaHelpTagG
import Derived.Test.YtldgfgjaabphnaaHelpL
namespace Go.Proofs.Ytldgfgjaabphnaa
open Go.RowKit

set_option maxRecDepth 100000 in
set_option maxHeartbeats 16000000 in
theorem lawTagLengths (d0_0 : Int) (A0_0 : Option Addr) (n0_0 c0_0 : Nat) (x0_0 : List Sl) (A0_1 : Option Addr) (n0_1 c0_1 : Nat) (x0_1 : List Int) (A1 : Option Addr) (n1 c1 : Nat) (xs1 : List Int) (b2 : Int) (w : World) (h0_0 : SII w A0_0 n0_0 x0_0) (h0_1 : SI w A0_1 n0_1 x0_1) (hx1 : SI w A1 n1 xs1)  (hb0_0 : n0_0 ≤ 9223372036854775807) (hb0_1 : n0_1 ≤ 9223372036854775807) (hbr0_0 : ∀ t ∈ x0_0, t.xs.length ≤ 9223372036854775807) (hb1 : n1 ≤ 9223372036854775807)  :
    Calls Try.prog 5 #[.agg #[.int .i64 d0_0, .slice A0_0 n0_0 c0_0, .slice A0_1 n0_1 c0_1], .slice A1 n1 c1, .int .i64 b2] w fun e w' => e = .returned (.bool true) ∧ Below w.heap.size w w' := by
  obtain ⟨W0, hW0⟩ : ∃ W, W = w.alloc (.cells #[.int .i64 d0_0, .slice A0_0 n0_0 c0_0, .slice A0_1 n0_1 c0_1] 25) := ⟨_, rfl⟩
  have bb0 : Blk W0 w.heap.size 25 #[.int .i64 d0_0, .slice A0_0 n0_0 c0_0, .slice A0_1 n0_1 c0_1] := by rw [hW0]; exact Blk.new w _ _
  have z0 : Below w.heap.size w W0 := by rw [hW0]; exact (Below.refl _ _).alloc (Nat.le_refl _) _
  have HW0 := Lib.hid hW0
  clear hW0
  have HBR0_0 := Lib.hid hbr0_0
  clear hbr0_0
  by_cases hbig1 : 1048576 < n1
  · have hbig' : (1048576 : Int) < (n1 : Int) := by omega
    go_enter Try.func5, Try.ntmps5
    go_wp2_with fail
    rw [← HW0.out]
    go_ret
    exact ⟨rfl, z0⟩
  have hbig1' : ¬ (1048576 : Int) < (n1 : Int) := by omega
  have p1 : n1 ≤ 1048576 := by omega
  go_enter Try.func5, Try.ntmps5
  go_wp2_with fail
  rw [← HW0.out]
  refine (szTag_any _ _ _ _ x0_0 _ _ _ _ _ hb0_0 (h0_0.below z0) HBR0_0.out hb0_1 (by omega) (by omega)).mono ?_
  rintro e W1 ⟨v1, rfl, va1, vb1, vc1, z1⟩
  have VC1 := Lib.hid vc1
  clear vc1
  have yw_W1 : Below w.heap.size w W1 := z0.trans (z1.mono z0.size)
  by_cases hneg1 : v1 < 0
  · go_wp2_with fail
    go_ret
    exact ⟨rfl, yw_W1⟩
  have hsm : n0_0 ≤ 1048576 ∧ n0_1 ≤ 1048576 ∧ total x0_0 ≤ 1048576 := by
    have t1 := VC1.out (by omega)
    omega
  obtain ⟨p0_0, p0_1, pt0_0⟩ := hsm
  have HR0_0 : Hid (∀ t ∈ x0_0, t.xs.length ≤ 1048576) := fun t ht => by have := row_total ht; omega
  clear HBR0_0
  clear VC1
  have uc2 : W1.cell? ⟨w.heap.size, 0, none⟩ = some (.int .i64 d0_0) := (bb0.below' z1).cell 0
  have uc3 : W1.cell? ⟨w.heap.size, 1, none⟩ = some (.slice A0_0 n0_0 c0_0) := (bb0.below' z1).cell 1
  have uc4 : W1.cell? ⟨w.heap.size, 2, none⟩ = some (.slice A0_1 n0_1 c0_1) := (bb0.below' z1).cell 2
  go_wp2_with fail
  refine (toTag_any _ _ _ _ x0_0 _ _ _ x0_1 _ (h0_0.below yw_W1) p0_0 HR0_0.out (h0_1.below yw_W1) p0_1).mono ?_
  rintro e W5 ⟨B5_0, us5_0, B5_1, rfl, o5_0, hn5_0, o5_1, z5⟩
  have HN5_0 := Lib.hid hn5_0; clear hn5_0
  clear uc2 uc3 uc4
  go_wp2_with fail
  have yw_W5 : Below w.heap.size w W5 := yw_W1.trans (z5.mono yw_W1.size)
  refine (toI _ _ _ xs1 _ (hx1.below yw_W5) p1).mono ?_
  rintro e W6 ⟨B6, rfl, o6, z6⟩
  go_wp2_with fail
  refine (tagLengthsS_any _ _ _ _ us5_0 _ _ _ x0_1 _ _ _ xs1 _ _ (o5_0.below z6).sii (o5_1.below z6).asI o6.asI p0_0 p0_1 (rows_le HN5_0.out HR0_0.out) p1).mono ?_
  rw [HN5_0.out]
  obtain ⟨res, hres⟩ : ∃ res, res = tagLengthsF d0_0 (nums x0_0) x0_1 xs1 b2 := ⟨_, rfl⟩
  rw [← hres]
  have HRES := Lib.hid hres
  clear hres
  rintro e W7 ⟨rfl, z7⟩
  have yW0_W5 : Below W0.heap.size W0 W5 := z1.trans (z5.mono z1.size)
  have yW0_W6 : Below W0.heap.size W0 W6 := yW0_W5.trans (z6.mono yW0_W5.size)
  have yW0_W7 : Below W0.heap.size W0 W7 := yW0_W6.trans (z7.mono yW0_W6.size)
  have uc8 : W7.cell? ⟨w.heap.size, 0, none⟩ = some (.int .i64 d0_0) := (bb0.below' yW0_W7).cell 0
  have uc9 : W7.cell? ⟨w.heap.size, 1, none⟩ = some (.slice A0_0 n0_0 c0_0) := (bb0.below' yW0_W7).cell 1
  have uc10 : W7.cell? ⟨w.heap.size, 2, none⟩ = some (.slice A0_1 n0_1 c0_1) := (bb0.below' yW0_W7).cell 2
  go_wp2_with fail
  have yw_W6 : Below w.heap.size w W6 := yw_W5.trans (z6.mono yw_W5.size)
  have yw_W7 : Below w.heap.size w W7 := yw_W6.trans (z7.mono yw_W6.size)
  refine (toTag_any _ _ _ _ x0_0 _ _ _ x0_1 _ (h0_0.below yw_W7) p0_0 HR0_0.out (h0_1.below yw_W7) p0_1).mono ?_
  rintro e W11 ⟨B11_0, us11_0, B11_1, rfl, o11_0, hn11_0, o11_1, z11⟩
  have HN11_0 := Lib.hid hn11_0; clear hn11_0
  clear uc8 uc9 uc10
  obtain ⟨W12, hW12⟩ : ∃ W, W = W11.alloc (.cells #[.int .i64 d0_0, .slice B11_0 n0_0 n0_0, .slice B11_1 n0_1 n0_1] 29) := ⟨_, rfl⟩
  have cb0 : Blk W12 W11.heap.size 29 #[.int .i64 d0_0, .slice B11_0 n0_0 n0_0, .slice B11_1 n0_1 n0_1] := by rw [hW12]; exact Blk.new W11 _ _
  have z12 : Below W11.heap.size W11 W12 := by rw [hW12]; exact (Below.refl _ _).alloc (Nat.le_refl _) _
  have HW12 := Lib.hid hW12
  clear hW12
  go_upto_region 10 with fail
  rw [← HW12.out]
  go_wp2_with fail
  have yw_W11 : Below w.heap.size w W11 := yw_W7.trans (z11.mono yw_W7.size)
  have yw_W12 : Below w.heap.size w W12 := yw_W11.trans (z12.mono yw_W11.size)
  refine (toI _ _ _ xs1 _ (hx1.below yw_W12) p1).mono ?_
  rintro e W13 ⟨B13, rfl, o13, z13⟩
  have uc14 : W13.cell? ⟨W11.heap.size, 0, none⟩ = some (.int .i64 d0_0) := (cb0.below' z13).cell 0
  have uc15 : W13.cell? ⟨W11.heap.size, 1, none⟩ = some (.slice B11_0 n0_0 n0_0) := (cb0.below' z13).cell 1
  have uc16 : W13.cell? ⟨W11.heap.size, 2, none⟩ = some (.slice B11_1 n0_1 n0_1) := (cb0.below' z13).cell 2
  go_wp2_with fail
  have yW11_W13 : Below W11.heap.size W11 W13 := z12.trans (z13.mono z12.size)
  refine (tagLengthsI_any _ _ _ _ us11_0 _ _ _ x0_1 _ _ _ xs1 _ _ (o11_0.below yW11_W13).sii (o11_1.below yW11_W13).asI o13.asI p0_0 p0_1 (rows_le HN11_0.out HR0_0.out) p1).mono ?_
  rw [HN11_0.out, ← HRES.out]
  rintro e W17 ⟨rfl, z17⟩
  clear uc14 uc15 uc16
  obtain ⟨r0, r1, r2⟩ := res
  dsimp only
  have yW12_W17 : Below W12.heap.size W12 W17 := z13.trans (z17.mono z13.size)
  have uc18 : W17.cell? ⟨W11.heap.size, 0, none⟩ = some (.int .i64 d0_0) := (cb0.below' yW12_W17).cell 0
  have uc19 : W17.cell? ⟨W11.heap.size, 1, none⟩ = some (.slice B11_0 n0_0 n0_0) := (cb0.below' yW12_W17).cell 1
  have uc20 : W17.cell? ⟨W11.heap.size, 2, none⟩ = some (.slice B11_1 n0_1 n0_1) := (cb0.below' yW12_W17).cell 2
  have yW0_W11 : Below W0.heap.size W0 W11 := yW0_W7.trans (z11.mono yW0_W7.size)
  have yW0_W12 : Below W0.heap.size W0 W12 := yW0_W11.trans (z12.mono yW0_W11.size)
  have yW0_W13 : Below W0.heap.size W0 W13 := yW0_W12.trans (z13.mono yW0_W12.size)
  have yW0_W17 : Below W0.heap.size W0 W17 := yW0_W13.trans (z17.mono yW0_W13.size)
  have uc21 : W17.cell? ⟨w.heap.size, 0, none⟩ = some (.int .i64 d0_0) := (bb0.below' yW0_W17).cell 0
  have uc22 : W17.cell? ⟨w.heap.size, 1, none⟩ = some (.slice A0_0 n0_0 c0_0) := (bb0.below' yW0_W17).cell 1
  have uc23 : W17.cell? ⟨w.heap.size, 2, none⟩ = some (.slice A0_1 n0_1 c0_1) := (bb0.below' yW0_W17).cell 2
  have yw_W13 : Below w.heap.size w W13 := yw_W12.trans (z13.mono yw_W12.size)
  have yw_W17 : Below w.heap.size w W17 := yw_W13.trans (z17.mono yw_W13.size)
  have yW11_W17 : Below W11.heap.size W11 W17 := yW11_W13.trans (z17.mono yW11_W13.size)
  go_wp2_with fail
  go_region_held3 (fun w' => w'.cell? ⟨W11.heap.size, 0, none⟩ = some (.int .i64 d0_0) ∧ w'.cell? ⟨W11.heap.size, 1, none⟩ = some (.slice B11_0 n0_0 n0_0) ∧ w'.cell? ⟨W11.heap.size, 2, none⟩ = some (.slice B11_1 n0_1 n0_1) ∧ w'.cell? ⟨w.heap.size, 0, none⟩ = some (.int .i64 d0_0) ∧ w'.cell? ⟨w.heap.size, 1, none⟩ = some (.slice A0_0 n0_0 c0_0) ∧ w'.cell? ⟨w.heap.size, 2, none⟩ = some (.slice A0_1 n0_1 c0_1))
    (first
      | (go_keep; done)
      | (exact ⟨((cb0.below' yW12_W17).below' zz25).cell 0, ((cb0.below' yW12_W17).below' zz25).cell 1, ((cb0.below' yW12_W17).below' zz25).cell 2, ((bb0.below' yW0_W17).below' zz25).cell 0, ((bb0.below' yW0_W17).below' zz25).cell 1, ((bb0.below' yW0_W17).below' zz25).cell 2⟩)
      | (exact ⟨((cb0.below' yW12_W17).below' zz24).cell 0, ((cb0.below' yW12_W17).below' zz24).cell 1, ((cb0.below' yW12_W17).below' zz24).cell 2, ((bb0.below' yW0_W17).below' zz24).cell 0, ((bb0.below' yW0_W17).below' zz24).cell 1, ((bb0.below' yW0_W17).below' zz24).cell 2⟩))
    (first
      | (go_at_call 15; refine (toTag_any _ _ _ _ x0_0 _ _ _ x0_1 _ ((h0_0.below yw_W17).drewN 1) p0_0 HR0_0.out ((h0_1.below yw_W17).drewN 1) p0_1).mono ?_; rintro e W24 ⟨B24_0, us24_0, B24_1, rfl, o24_0, hn24_0, o24_1, z24⟩; have zz24 : Below W17.heap.size W17 W24 := below_undrew z24; have HN24_0 := Lib.hid hn24_0; clear hn24_0)
      | (go_at_call 19; refine (eqTag_any _ _ _ _ us11_0 _ _ _ x0_1 _ _ _ _ us24_0 _ _ _ x0_1 _ ((o11_0.below yW11_W17).below zz24).sii o24_0.sii p0_0 (rows_le HN11_0.out HR0_0.out) ((o11_1.below yW11_W17).below zz24).asI o24_1.asI p0_1).mono ?_; rintro e W25 ⟨rfl, z25⟩; have zz25 : Below W17.heap.size W17 W25 := zz24.trans (z25.mono zz24.size)))
  rw [HN11_0.out, HN24_0.out, sameTagB_self]
  clear uc18 uc19 uc20 uc21 uc22 uc23
  clear o24_0 o24_1 z24 zz24 z25
  have yw_W25 : Below w.heap.size w W25 := yw_W17.trans (zz25.mono yw_W17.size)
  go_wp2_with fail
  refine (toI _ _ _ xs1 _ (hx1.below yw_W25) p1).mono ?_
  rintro e W26 ⟨B26, rfl, o26, z26⟩
  have yW13_W25 : Below W13.heap.size W13 W25 := z17.trans (zz25.mono z17.size)
  have yW13_W26 : Below W13.heap.size W13 W26 := yW13_W25.trans (z26.mono yW13_W25.size)
  go_wp2_with fail
  refine (eqI_b _ _ _ _ _ _ xs1 xs1 _ (o13.below yW13_W26).rd o26.rd (by omega)).mono ?_
  rintro e W27 ⟨rfl, z27⟩
  rw [sameI_self]
  have yw_W26 : Below w.heap.size w W26 := yw_W25.trans (z26.mono yw_W25.size)
  have yw_W27 : Below w.heap.size w W27 := yw_W26.trans (z27.mono yw_W26.size)
  go_wp2_with fail
  go_ret
  exact ⟨rfl, yw_W27⟩
end Go.Proofs.Ytldgfgjaabphnaa
