/-
  The walk of the law FnExactTimeTable: it returns true, and nothing that was there before has turned.
-/
import Derived.Test.YtbedghebckflmaaTimeS
import Derived.Test.YtbedghebckflmaaHelpMachine
import Derived.Test.YtbedghebckflmaaHelpL
namespace Go.Proofs.Ytbedghebckflmaa
open Go.RowKit

set_option maxRecDepth 100000 in
set_option maxHeartbeats 16000000 in
theorem lawTimeTable (sy0 st0 : Int) (A0 : Option Addr) (n0 k0 : Nat) (rs0 : List R3) (A1 : Option Addr) (n1 c1 : Nat) (ts1 : List Sl) (b2 : Int) (w : World) (hr0 : S3 w A0 n0 rs0) (hx1 : SII w A1 n1 ts1)  (hb0 : n0 ≤ 9223372036854775807) (hb1 : n1 ≤ 9223372036854775807) (hbr1 : ∀ t ∈ ts1, t.xs.length ≤ 9223372036854775807)  :
    Calls Try.prog 12 #[.agg #[.int .i64 sy0, .int .i64 st0, .slice A0 n0 k0], .slice A1 n1 c1, .int .i64 b2] w fun e w' => e = .returned (.bool true) ∧ Below w.heap.size w w' := by
  obtain ⟨W0, hW0⟩ : ∃ W, W = w.alloc (.cells #[.int .i64 sy0, .int .i64 st0, .slice A0 n0 k0] 24) := ⟨_, rfl⟩
  have bb0 : Blk W0 w.heap.size 24 #[.int .i64 sy0, .int .i64 st0, .slice A0 n0 k0] := by rw [hW0]; exact Blk.new w _ _
  have z0 : Below w.heap.size w W0 := by rw [hW0]; exact (Below.refl _ _).alloc (Nat.le_refl _) _
  have HW0 := Lib.hid hW0
  clear hW0
  have HBR1 := Lib.hid hbr1
  clear hbr1
  go_enter Try.func12, Try.ntmps12
  go_wp2_with fail
  rw [← HW0.out]
  refine (szMachine_any _ _ _ _ _ _ _ hb0 (by omega) (by omega)).mono ?_
  rintro e W1 ⟨v1, rfl, va1, vb1, vc1, z1⟩
  have VC1 := Lib.hid vc1
  clear vc1
  have yw_W1 : Below w.heap.size w W1 := z0.trans (z1.mono z0.size)
  by_cases hneg1 : v1 < 0
  · go_wp2_with fail
    go_ret
    exact ⟨rfl, yw_W1⟩
  go_wp2_with fail
  refine (szII_p _ _ _ ts1 _ _ (hx1.below yw_W1) hb1 HBR1.out (by omega) (by omega)).mono ?_
  rintro e W2 ⟨v2, rfl, va2, vb2, vc2, z2⟩
  have VC2 := Lib.hid vc2
  clear vc2
  have yw_W2 : Below w.heap.size w W2 := yw_W1.trans (z2.mono yw_W1.size)
  by_cases hneg2 : v2 < 0
  · go_wp2_with fail
    go_ret
    exact ⟨rfl, yw_W2⟩
  have hsm : n0 ≤ 1048576 ∧ n1 ≤ 1048576 ∧ total ts1 ≤ 1048576 := by
    have t1 := VC1.out (by omega)
    have t2 := VC2.out (by omega)
    omega
  obtain ⟨p0, p1, pt1⟩ := hsm
  have HR1 : Hid (∀ t ∈ ts1, t.xs.length ≤ 1048576) := fun t ht => by have := row_total ht; omega
  clear HBR1
  clear VC1
  clear VC2
  have yW0_W2 : Below W0.heap.size W0 W2 := z1.trans (z2.mono z1.size)
  have uc3 : W2.cell? ⟨w.heap.size, 0, none⟩ = some (.int .i64 sy0) := (bb0.below' yW0_W2).cell 0
  have uc4 : W2.cell? ⟨w.heap.size, 1, none⟩ = some (.int .i64 st0) := (bb0.below' yW0_W2).cell 1
  have uc5 : W2.cell? ⟨w.heap.size, 2, none⟩ = some (.slice A0 n0 k0) := (bb0.below' yW0_W2).cell 2
  go_wp2_with fail
  refine (toMachine_any _ _ _ _ _ rs0 _ (hr0.below yw_W2) p0).mono ?_
  rintro e W6 ⟨B6, rfl, o6, z6⟩
  clear uc3 uc4 uc5
  go_wp2_with fail
  have yw_W6 : Below w.heap.size w W6 := yw_W2.trans (z6.mono yw_W2.size)
  refine (toII _ _ _ ts1 _ (hx1.below yw_W6) p1 HR1.out).mono ?_
  rintro e W7 ⟨B7, us7, rfl, o7, hn7, hu7, z7⟩
  have HN7 := Lib.hid hn7; have HU7 := Lib.hid hu7; clear hn7 hu7
  go_wp2_with fail
  refine (specTimeTable_any _ _ _ _ _ rs0 _ _ _ us7 _ _ (o6.below z7).as3 o7.sii p0 p1 (rows_le HN7.out HR1.out) (fun t ht => by have := HU7.out t ht; omega)).mono ?_
  rw [HN7.out]
  obtain ⟨res, hres⟩ : ∃ res, res = timeTableF sy0 st0 rs0 (nums ts1) b2 := ⟨_, rfl⟩
  rw [← hres]
  have HRES := Lib.hid hres
  clear hres
  rintro e W8 ⟨A8r, c8r, rfl, oR8, z8⟩
  have hlen : res.1.length ≤ 1048576 := by rw [HRES.out]; exact timeTableF_len sy0 st0 rs0 (nums ts1) b2
  have lx0 := hlen
  have yW0_W6 : Below W0.heap.size W0 W6 := yW0_W2.trans (z6.mono yW0_W2.size)
  have yW0_W7 : Below W0.heap.size W0 W7 := yW0_W6.trans (z7.mono yW0_W6.size)
  have yW0_W8 : Below W0.heap.size W0 W8 := yW0_W7.trans (z8.mono yW0_W7.size)
  have uc9 : W8.cell? ⟨w.heap.size, 0, none⟩ = some (.int .i64 sy0) := (bb0.below' yW0_W8).cell 0
  have uc10 : W8.cell? ⟨w.heap.size, 1, none⟩ = some (.int .i64 st0) := (bb0.below' yW0_W8).cell 1
  have uc11 : W8.cell? ⟨w.heap.size, 2, none⟩ = some (.slice A0 n0 k0) := (bb0.below' yW0_W8).cell 2
  go_wp2_with fail
  have yw_W7 : Below w.heap.size w W7 := yw_W6.trans (z7.mono yw_W6.size)
  have yw_W8 : Below w.heap.size w W8 := yw_W7.trans (z8.mono yw_W7.size)
  refine (toMachine_any _ _ _ _ _ rs0 _ (hr0.below yw_W8) p0).mono ?_
  rintro e W12 ⟨B12, rfl, o12, z12⟩
  clear uc9 uc10 uc11
  obtain ⟨W13, hW13⟩ : ∃ W, W = W12.alloc (.cells #[.int .i64 sy0, .int .i64 st0, .slice B12 n0 n0] 30) := ⟨_, rfl⟩
  have cb0 : Blk W13 W12.heap.size 30 #[.int .i64 sy0, .int .i64 st0, .slice B12 n0 n0] := by rw [hW13]; exact Blk.new W12 _ _
  have z13 : Below W12.heap.size W12 W13 := by rw [hW13]; exact (Below.refl _ _).alloc (Nat.le_refl _) _
  have HW13 := Lib.hid hW13
  clear hW13
  go_upto_region 10 with fail
  rw [← HW13.out]
  go_wp2_with fail
  have yw_W12 : Below w.heap.size w W12 := yw_W8.trans (z12.mono yw_W8.size)
  have yw_W13 : Below w.heap.size w W13 := yw_W12.trans (z13.mono yw_W12.size)
  refine (toII _ _ _ ts1 _ (hx1.below yw_W13) p1 HR1.out).mono ?_
  rintro e W14 ⟨B14, us14, rfl, o14, hn14, hu14, z14⟩
  have HN14 := Lib.hid hn14; have HU14 := Lib.hid hu14; clear hn14 hu14
  have uc15 : W14.cell? ⟨W12.heap.size, 0, none⟩ = some (.int .i64 sy0) := (cb0.below' z14).cell 0
  have uc16 : W14.cell? ⟨W12.heap.size, 1, none⟩ = some (.int .i64 st0) := (cb0.below' z14).cell 1
  have uc17 : W14.cell? ⟨W12.heap.size, 2, none⟩ = some (.slice B12 n0 n0) := (cb0.below' z14).cell 2
  go_wp2_with fail
  have yW12_W14 : Below W12.heap.size W12 W14 := z13.trans (z14.mono z13.size)
  refine (timeTableI_any _ _ _ _ _ rs0 _ _ _ us14 _ _ (o12.below yW12_W14).as3 o14.sii p0 p1 (rows_le HN14.out HR1.out)).mono ?_
  rw [HN14.out, ← HRES.out]
  rintro e W18 ⟨A18r, c18r, rfl, oR18, z18⟩
  clear uc15 uc16 uc17
  have yW8_W13 : Below W8.heap.size W8 W13 := z12.trans (z13.mono z12.size)
  have yW8_W14 : Below W8.heap.size W8 W14 := yW8_W13.trans (z14.mono yW8_W13.size)
  have yW8_W18 : Below W8.heap.size W8 W18 := yW8_W14.trans (z18.mono yW8_W14.size)
  go_wp2_with fail
  refine (eqI_b _ _ _ _ _ _ res.1 res.1 _ oR18.rd (oR8.below yW8_W18).rd (by omega)).mono ?_
  rintro e W19 ⟨rfl, z19⟩
  rw [sameI_self]
  have yW13_W18 : Below W13.heap.size W13 W18 := z14.trans (z18.mono z14.size)
  have yW13_W19 : Below W13.heap.size W13 W19 := yW13_W18.trans (z19.mono yW13_W18.size)
  have uc20 : W19.cell? ⟨W12.heap.size, 0, none⟩ = some (.int .i64 sy0) := (cb0.below' yW13_W19).cell 0
  have uc21 : W19.cell? ⟨W12.heap.size, 1, none⟩ = some (.int .i64 st0) := (cb0.below' yW13_W19).cell 1
  have uc22 : W19.cell? ⟨W12.heap.size, 2, none⟩ = some (.slice B12 n0 n0) := (cb0.below' yW13_W19).cell 2
  have yW0_W12 : Below W0.heap.size W0 W12 := yW0_W8.trans (z12.mono yW0_W8.size)
  have yW0_W13 : Below W0.heap.size W0 W13 := yW0_W12.trans (z13.mono yW0_W12.size)
  have yW0_W14 : Below W0.heap.size W0 W14 := yW0_W13.trans (z14.mono yW0_W13.size)
  have yW0_W18 : Below W0.heap.size W0 W18 := yW0_W14.trans (z18.mono yW0_W14.size)
  have yW0_W19 : Below W0.heap.size W0 W19 := yW0_W18.trans (z19.mono yW0_W18.size)
  have uc23 : W19.cell? ⟨w.heap.size, 0, none⟩ = some (.int .i64 sy0) := (bb0.below' yW0_W19).cell 0
  have uc24 : W19.cell? ⟨w.heap.size, 1, none⟩ = some (.int .i64 st0) := (bb0.below' yW0_W19).cell 1
  have uc25 : W19.cell? ⟨w.heap.size, 2, none⟩ = some (.slice A0 n0 k0) := (bb0.below' yW0_W19).cell 2
  have yw_W14 : Below w.heap.size w W14 := yw_W13.trans (z14.mono yw_W13.size)
  have yw_W18 : Below w.heap.size w W18 := yw_W14.trans (z18.mono yw_W14.size)
  have yw_W19 : Below w.heap.size w W19 := yw_W18.trans (z19.mono yw_W18.size)
  have yW12_W18 : Below W12.heap.size W12 W18 := yW12_W14.trans (z18.mono yW12_W14.size)
  have yW12_W19 : Below W12.heap.size W12 W19 := yW12_W18.trans (z19.mono yW12_W18.size)
  go_wp2_with fail
  go_region_held3 (fun w' => w'.cell? ⟨W12.heap.size, 0, none⟩ = some (.int .i64 sy0) ∧ w'.cell? ⟨W12.heap.size, 1, none⟩ = some (.int .i64 st0) ∧ w'.cell? ⟨W12.heap.size, 2, none⟩ = some (.slice B12 n0 n0) ∧ w'.cell? ⟨w.heap.size, 0, none⟩ = some (.int .i64 sy0) ∧ w'.cell? ⟨w.heap.size, 1, none⟩ = some (.int .i64 st0) ∧ w'.cell? ⟨w.heap.size, 2, none⟩ = some (.slice A0 n0 k0))
    (first
      | (go_keep; done)
      | (exact ⟨((cb0.below' yW13_W19).below' zz27).cell 0, ((cb0.below' yW13_W19).below' zz27).cell 1, ((cb0.below' yW13_W19).below' zz27).cell 2, ((bb0.below' yW0_W19).below' zz27).cell 0, ((bb0.below' yW0_W19).below' zz27).cell 1, ((bb0.below' yW0_W19).below' zz27).cell 2⟩)
      | (exact ⟨((cb0.below' yW13_W19).below' zz26).cell 0, ((cb0.below' yW13_W19).below' zz26).cell 1, ((cb0.below' yW13_W19).below' zz26).cell 2, ((bb0.below' yW0_W19).below' zz26).cell 0, ((bb0.below' yW0_W19).below' zz26).cell 1, ((bb0.below' yW0_W19).below' zz26).cell 2⟩))
    (first
      | (go_at_call 17; refine (toMachine_any _ _ _ _ _ rs0 _ ((hr0.below yw_W19).drewN 1) p0).mono ?_; rintro e W26 ⟨B26, rfl, o26, z26⟩; have zz26 : Below W19.heap.size W19 W26 := below_undrew z26)
      | (go_at_call 19; refine (eqMachine_any _ _ _ _ _ rs0 _ _ _ _ _ rs0 _ ((o12.below yW12_W19).below zz26).rd o26.rd p0).mono ?_; rintro e W27 ⟨rfl, z27⟩; have zz27 : Below W19.heap.size W19 W27 := zz26.trans (z27.mono zz26.size)))
  rw [sameMachineB_self]
  clear uc20 uc21 uc22 uc23 uc24 uc25
  clear o26 z26 zz26 z27
  have yw_W27 : Below w.heap.size w W27 := yw_W19.trans (zz27.mono yw_W19.size)
  go_wp2_with fail
  refine (toII _ _ _ ts1 _ (hx1.below yw_W27) p1 HR1.out).mono ?_
  rintro e W28 ⟨B28, us28, rfl, o28, hn28, hu28, z28⟩
  have HN28 := Lib.hid hn28; have HU28 := Lib.hid hu28; clear hn28 hu28
  have yW14_W19 : Below W14.heap.size W14 W19 := z18.trans (z19.mono z18.size)
  have yW14_W27 : Below W14.heap.size W14 W27 := yW14_W19.trans (zz27.mono yW14_W19.size)
  have yW14_W28 : Below W14.heap.size W14 W28 := yW14_W27.trans (z28.mono yW14_W27.size)
  go_wp2_with fail
  refine (eqII_b _ _ _ _ _ _ us14 us28 _ (o14.below yW14_W28).sii o28.sii (by omega) (fun t ht => by have := rows_le HN14.out HR1.out t ht; omega)).mono ?_
  rintro e W29 ⟨rfl, z29⟩
  rw [HN14.out, HN28.out, sameII_self]
  have TM0 : Hid (135 ∈ [135, 2]) := Lib.hid (by decide)
  have TI0 : Hid (2 ∈ [135, 2]) := Lib.hid (by decide)
  have TN_Machine : Hid (30 ∉ [135, 2]) := Lib.hid (by decide)
  have TL_Machine : Hid (24 ∉ [135, 2]) := Lib.hid (by decide)
  have TN_SS : Hid (34 ∉ [135, 2]) := Lib.hid (by decide)
  have hs_W1 : W0.heap.size ≤ W1.heap.size := z1.size
  have hs_W2 : W1.heap.size ≤ W2.heap.size := z2.size
  have hs_W6 : W2.heap.size ≤ W6.heap.size := z6.size
  have hs_W7 : W6.heap.size ≤ W7.heap.size := z7.size
  have hs_W8 : W7.heap.size ≤ W8.heap.size := z8.size
  have hs_W12 : W8.heap.size ≤ W12.heap.size := z12.size
  have hs_W13 : W12.heap.size ≤ W13.heap.size := z13.size
  have hs_W14 : W13.heap.size ≤ W14.heap.size := z14.size
  have hs_W18 : W14.heap.size ≤ W18.heap.size := z18.size
  have hs_W19 : W18.heap.size ≤ W19.heap.size := z19.size
  have hs_W27 : W19.heap.size ≤ W27.heap.size := zz27.size
  have hs_W28 : W27.heap.size ≤ W28.heap.size := z28.size
  have hs_W29 : W28.heap.size ≤ W29.heap.size := z29.size
  have yW12_W27 : Below W12.heap.size W12 W27 := yW12_W19.trans (zz27.mono yW12_W19.size)
  have yW12_W28 : Below W12.heap.size W12 W28 := yW12_W27.trans (z28.mono yW12_W27.size)
  have yW12_W29 : Below W12.heap.size W12 W29 := yW12_W28.trans (z29.mono yW12_W28.size)
  have m0 : Mk W29 W8.heap.size W14.heap.size 135 3 B12 n0 := (((o12.below yW12_W29)).mono (by omega)).mk (fun b hb => by have := o12.blk_lt b hb; omega)
  have yW14_W29 : Below W14.heap.size W14 W29 := yW14_W28.trans (z29.mono yW14_W28.size)
  have m1 : MkII W29 W8.heap.size W14.heap.size 34 2 B14 n1 n1 us14 := by
    have h1 := (o14.below yW14_W29)
    exact ⟨h1.1.mono (by omega), fun t ht => ((h1.2.1 t ht).mono (by omega)).mk (fun b hb => by have := (o14.2.1 t ht).blk_lt b hb; omega)⟩
  have pu1 : total us14 ≤ 1048576 := by rw [total_same HN14.out]; exact pt1
  have yW0_W27 : Below W0.heap.size W0 W27 := yW0_W19.trans (zz27.mono yW0_W19.size)
  have yW0_W28 : Below W0.heap.size W0 W28 := yW0_W27.trans (z28.mono yW0_W27.size)
  have yW0_W29 : Below W0.heap.size W0 W29 := yW0_W28.trans (z29.mono yW0_W28.size)
  have yW13_W27 : Below W13.heap.size W13 W27 := yW13_W19.trans (zz27.mono yW13_W19.size)
  have yW13_W28 : Below W13.heap.size W13 W28 := yW13_W27.trans (z28.mono yW13_W27.size)
  have yW13_W29 : Below W13.heap.size W13 W29 := yW13_W28.trans (z29.mono yW13_W28.size)
  have yw_W28 : Below w.heap.size w W28 := yw_W27.trans (z28.mono yw_W27.size)
  have yw_W29 : Below w.heap.size w W29 := yw_W28.trans (z29.mono yw_W28.size)
  have yW18_W27 : Below W18.heap.size W18 W27 := z19.trans (zz27.mono z19.size)
  have yW18_W28 : Below W18.heap.size W18 W28 := yW18_W27.trans (z28.mono yW18_W27.size)
  have yW18_W29 : Below W18.heap.size W18 W29 := yW18_W28.trans (z29.mono yW18_W28.size)
  have yW8_W19 : Below W8.heap.size W8 W19 := yW8_W18.trans (z19.mono yW8_W18.size)
  have yW8_W27 : Below W8.heap.size W8 W27 := yW8_W19.trans (zz27.mono yW8_W19.size)
  have yW8_W28 : Below W8.heap.size W8 W28 := yW8_W27.trans (z28.mono yW8_W27.size)
  have yW8_W29 : Below W8.heap.size W8 W29 := yW8_W28.trans (z29.mono yW8_W28.size)
  have io0 := (oR18.below yW18_W29)
  have so0 := (oR8.below yW8_W29)
  have bm0 := (bb0.below' yW0_W29)
  have cm0 := (cb0.below' yW13_W29)
  have cq0 := cm0
  have uc30 : W29.cell? ⟨W12.heap.size, 0, none⟩ = some (.int .i64 sy0) := cq0.cell 0
  have uc31 : W29.cell? ⟨W12.heap.size, 1, none⟩ = some (.int .i64 st0) := cq0.cell 1
  have uc32 : W29.cell? ⟨W12.heap.size, 2, none⟩ = some (.slice B12 n0 n0) := cq0.cell 2
  go_wp2_with fail
  refine (markMachine_m [135, 2] _ _ _ _ _ _ _ W8.heap.size W14.heap.size m0 p0 TM0.out TN_Machine.out (by omega) (by omega)).mono ?_
  rintro e W33 ⟨rfl, f33⟩
  clear uc30 uc31 uc32
  go_wp2_with fail
  refine (markII_m [135, 2] _ _ _ us14 _ _ W8.heap.size W14.heap.size (m1.mkf f33 TN_SS.out) TI0.out TN_SS.out (by omega) (by omega) (by omega)).mono ?_
  rintro e W34 ⟨rfl, f34⟩
  have ff34 := f33.trans f34
  have io0 := io0.mkf_far ff34 (fun b hb => .inr (oR18.blk_ge b hb))
  have so0 := so0.mkf_far ff34 (fun b hb => .inl (by have := oR8.blk_lt b hb; omega))
  have bm0 := bm0.mkf ff34 TL_Machine.out
  have yM : Below w.heap.size w W34 := yw_W29.trans (ff34.below yw_W8.size yw_W29.size)
  have hs_W34 : W29.heap.size ≤ W34.heap.size := ff34.size
  clear ff34
  have gneg : ¬ ((1 : Int) + ((n0 * 3 : Nat) : Int) + (total us14 : Int) < 0) := by omega
  go_wp2_with fail
  refine (eqI_b _ _ _ _ _ _ res.1 res.1 _ io0.rd so0.rd (by omega)).mono ?_
  rintro e W35 ⟨rfl, z35⟩
  rw [sameI_self]
  clear gneg
  have hs_W35 : W34.heap.size ≤ W35.heap.size := z35.size
  go_wp2_with fail
  refine (markI _ _ _ res.1 _ _ W14.heap.size W18.heap.size (.inr (io0.below z35)) (fun b hb => oR18.blk_lt b hb) (by omega) (by omega)).mono ?_
  rintro e W36 ⟨rfl, eR, t36, _⟩
  have so0 := (so0.below z35).touch t36 (fun b hb => .inl (by have := oR8.blk_lt b hb; omega))
  have bm0 := (bm0.below' z35).touch t36 (.inl (by have := bb0.lt; omega))
  have yw_W35 : Below w.heap.size w W35 := yM.trans (z35.mono yM.size)
  have hlow : w.heap.size ≤ W14.heap.size := by have := yw_W8.size; omega
  have yN : Below w.heap.size w W36 := yw_W35.trans (t36.below hlow yw_W35.size)
  have hs_W36 : W35.heap.size ≤ W36.heap.size := t36.size
  clear t36
  go_wp2_with fail
  refine (heldI_b _ _ _ (marks 1 res.1.length) _ _ eR.si (by omega) (by omega)).mono ?_
  rintro e W37 ⟨rfl, z37⟩
  rw [heldF_marks]
  have gneg : ¬ ((1 : Int) + (res.1.length : Int) < 0) := by omega
  have uc38 : W37.cell? ⟨w.heap.size, 0, none⟩ = some (.int .i64 sy0) := (bm0.below' z37).cell 0
  have uc39 : W37.cell? ⟨w.heap.size, 1, none⟩ = some (.int .i64 st0) := (bm0.below' z37).cell 1
  have uc40 : W37.cell? ⟨w.heap.size, 2, none⟩ = some (.slice A0 n0 k0) := (bm0.below' z37).cell 2
  have yw_W37 : Below w.heap.size w W37 := yN.trans (z37.mono yN.size)
  go_wp2_with fail
  refine (toMachine_any _ _ _ _ _ rs0 _ (hr0.below yw_W37) p0).mono ?_
  rintro e W41 ⟨B41, rfl, o41, z41⟩
  clear uc38 uc39 uc40
  go_wp2_with fail
  have yw_W41 : Below w.heap.size w W41 := yw_W37.trans (z41.mono yw_W37.size)
  refine (toII _ _ _ ts1 _ (hx1.below yw_W41) p1 HR1.out).mono ?_
  rintro e W42 ⟨B42, us42, rfl, o42, hn42, hu42, z42⟩
  have HN42 := Lib.hid hn42; have HU42 := Lib.hid hu42; clear hn42 hu42
  go_wp2_with fail
  refine (timeTableI_any _ _ _ _ _ rs0 _ _ _ us42 _ _ (o41.below z42).as3 o42.sii p0 p1 (rows_le HN42.out HR1.out)).mono ?_
  rw [HN42.out]
  rw [← HRES.out]
  rintro e W43 ⟨A43r, c43r, rfl, oR43, z43⟩
  have yW36_W41 : Below W36.heap.size W36 W41 := z37.trans (z41.mono z37.size)
  have yW36_W42 : Below W36.heap.size W36 W42 := yW36_W41.trans (z42.mono yW36_W41.size)
  have yW36_W43 : Below W36.heap.size W36 W43 := yW36_W42.trans (z43.mono yW36_W42.size)
  go_wp2_with fail
  refine (eqI_b _ _ _ _ _ _ res.1 res.1 _ oR43.rd (so0.below yW36_W43).rd (by omega)).mono ?_
  rintro e W44 ⟨rfl, z44⟩
  rw [sameI_self]
  go_wp2_with fail
  have yW36_W44 : Below W36.heap.size W36 W44 := yW36_W43.trans (z44.mono yW36_W43.size)
  refine (heldI_b _ _ _ (marks 1 res.1.length) _ _ (eR.below yW36_W44).si (by omega) (by omega)).mono ?_
  rintro e W45 ⟨rfl, z45⟩
  rw [heldF_marks]
  have yw_W42 : Below w.heap.size w W42 := yw_W41.trans (z42.mono yw_W41.size)
  have yw_W43 : Below w.heap.size w W43 := yw_W42.trans (z43.mono yw_W42.size)
  have yw_W44 : Below w.heap.size w W44 := yw_W43.trans (z44.mono yw_W43.size)
  have yw_W45 : Below w.heap.size w W45 := yw_W44.trans (z45.mono yw_W44.size)
  go_wp2_with fail
  go_ret
  exact ⟨rfl, yw_W45⟩
end Go.Proofs.Ytbedghebckflmaa
