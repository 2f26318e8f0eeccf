/-
  The walk of the law FnExactFindHalt: it returns true, and nothing that was there before has turned.
-/
import Derived.Test.YtbedghebckflmaaFindI
import Derived.Test.YtbedghebckflmaaHelpMachine
import Derived.Test.YtbedghebckflmaaHelpProofC
import Derived.Test.YtbedghebckflmaaHelpL
namespace Go.Proofs.Ytbedghebckflmaa
open Go.RowKit

set_option maxRecDepth 100000 in
set_option maxHeartbeats 16000000 in
theorem lawFindHalt (sy0 st0 : Int) (A0 : Option Addr) (n0 k0 : Nat) (rs0 : List R3) (b1 : Int) (w : World) (hr0 : S3 w A0 n0 rs0)  (hb0 : n0 ≤ 9223372036854775807)  :
    Calls Try.prog 9 #[.agg #[.int .i64 sy0, .int .i64 st0, .slice A0 n0 k0], .int .i64 b1] w fun e w' => e = .returned (.bool true) ∧ Below w.heap.size w w' := by
  obtain ⟨W0, hW0⟩ : ∃ W, W = w.alloc (.cells #[.int .i64 sy0, .int .i64 st0, .slice A0 n0 k0] 24) := ⟨_, rfl⟩
  have bb0 : Blk W0 w.heap.size 24 #[.int .i64 sy0, .int .i64 st0, .slice A0 n0 k0] := by rw [hW0]; exact Blk.new w _ _
  have z0 : Below w.heap.size w W0 := by rw [hW0]; exact (Below.refl _ _).alloc (Nat.le_refl _) _
  have HW0 := Lib.hid hW0
  clear hW0
  go_enter Try.func9, Try.ntmps9
  go_wp2_with fail
  rw [← HW0.out]
  refine (szMachine_any _ _ _ _ _ _ _ hb0 (by omega) (by omega)).mono ?_
  rintro e W1 ⟨v1, rfl, va1, vb1, vc1, z1⟩
  have VC1 := Lib.hid vc1
  clear vc1
  have yw_W1 : Below w.heap.size w W1 := z0.trans (z1.mono z0.size)
  by_cases hneg1 : v1 < 0
  · go_wp2_with fail
    go_ret
    exact ⟨rfl, yw_W1⟩
  have hsm : n0 ≤ 1048576 := by
    have t1 := VC1.out (by omega)
    omega
  have p0 := hsm
  clear VC1
  have uc2 : W1.cell? ⟨w.heap.size, 0, none⟩ = some (.int .i64 sy0) := (bb0.below' z1).cell 0
  have uc3 : W1.cell? ⟨w.heap.size, 1, none⟩ = some (.int .i64 st0) := (bb0.below' z1).cell 1
  have uc4 : W1.cell? ⟨w.heap.size, 2, none⟩ = some (.slice A0 n0 k0) := (bb0.below' z1).cell 2
  go_wp2_with fail
  refine (toMachine_any _ _ _ _ _ rs0 _ (hr0.below yw_W1) p0).mono ?_
  rintro e W5 ⟨B5, rfl, o5, z5⟩
  clear uc2 uc3 uc4
  go_wp2_with fail
  refine (specFindHalt_any _ _ _ _ _ rs0 _ _ o5.as3 p0).mono ?_
  obtain ⟨res, hres⟩ : ∃ res, res = findHaltF sy0 st0 rs0 b1 := ⟨_, rfl⟩
  rw [← hres]
  have HRES := Lib.hid hres
  clear hres
  rintro e W6 ⟨L6, c6, R6, d6, rfl, oL6, z6⟩
  obtain ⟨W7, hW7⟩ : ∃ W, W = W6.alloc (.cells #[.int .i64 res.1.1, .slice L6 res.1.2.length c6, .slice R6 0 d6] 58) := ⟨_, rfl⟩
  have bx6 : Blk W7 W6.heap.size 58 #[.int .i64 res.1.1, .slice L6 res.1.2.length c6, .slice R6 0 d6] := by rw [hW7]; exact Blk.new W6 _ _
  have z7 : Below W6.heap.size W6 W7 := by rw [hW7]; exact (Below.refl _ _).alloc (Nat.le_refl _) _
  have HW7 := Lib.hid hW7
  clear hW7
  go_upto_region 6 with fail
  rw [← HW7.out]
  have hlen : res.1.2.length ≤ 1048576 := by rw [HRES.out]; exact findHaltF_len sy0 st0 rs0 b1
  have lx0 := hlen
  have yW0_W5 : Below W0.heap.size W0 W5 := z1.trans (z5.mono z1.size)
  have yW0_W6 : Below W0.heap.size W0 W6 := yW0_W5.trans (z6.mono yW0_W5.size)
  have yW0_W7 : Below W0.heap.size W0 W7 := yW0_W6.trans (z7.mono yW0_W6.size)
  have uc8 : W7.cell? ⟨w.heap.size, 0, none⟩ = some (.int .i64 sy0) := (bb0.below' yW0_W7).cell 0
  have uc9 : W7.cell? ⟨w.heap.size, 1, none⟩ = some (.int .i64 st0) := (bb0.below' yW0_W7).cell 1
  have uc10 : W7.cell? ⟨w.heap.size, 2, none⟩ = some (.slice A0 n0 k0) := (bb0.below' yW0_W7).cell 2
  go_wp2_with fail
  have yw_W5 : Below w.heap.size w W5 := yw_W1.trans (z5.mono yw_W1.size)
  have yw_W6 : Below w.heap.size w W6 := yw_W5.trans (z6.mono yw_W5.size)
  have yw_W7 : Below w.heap.size w W7 := yw_W6.trans (z7.mono yw_W6.size)
  refine (toMachine_any _ _ _ _ _ rs0 _ (hr0.below yw_W7) p0).mono ?_
  rintro e W11 ⟨B11, rfl, o11, z11⟩
  clear uc8 uc9 uc10
  obtain ⟨W12, hW12⟩ : ∃ W, W = W11.alloc (.cells #[.int .i64 sy0, .int .i64 st0, .slice B11 n0 n0] 30) := ⟨_, rfl⟩
  have cb0 : Blk W12 W11.heap.size 30 #[.int .i64 sy0, .int .i64 st0, .slice B11 n0 n0] := by rw [hW12]; exact Blk.new W11 _ _
  have z12 : Below W11.heap.size W11 W12 := by rw [hW12]; exact (Below.refl _ _).alloc (Nat.le_refl _) _
  have HW12 := Lib.hid hW12
  clear hW12
  have uc13 : W12.cell? ⟨W11.heap.size, 0, none⟩ = some (.int .i64 sy0) := cb0.cell 0
  have uc14 : W12.cell? ⟨W11.heap.size, 1, none⟩ = some (.int .i64 st0) := cb0.cell 1
  have uc15 : W12.cell? ⟨W11.heap.size, 2, none⟩ = some (.slice B11 n0 n0) := cb0.cell 2
  go_upto_region 7 with fail
  rw [← HW12.out]
  go_wp2_with fail
  refine (findHaltI_any _ _ _ _ _ rs0 _ _ (o11.below z12).as3 p0).mono ?_
  rw [← HRES.out]
  rintro e W16 ⟨L16, c16, R16, d16, rfl, oL16, z16⟩
  clear uc13 uc14 uc15
  obtain ⟨W17, hW17⟩ : ∃ W, W = W16.alloc (.cells #[.int .i64 res.1.1, .slice L16 res.1.2.length c16, .slice R16 0 d16] 58) := ⟨_, rfl⟩
  have ib : Blk W17 W16.heap.size 58 #[.int .i64 res.1.1, .slice L16 res.1.2.length c16, .slice R16 0 d16] := by rw [hW17]; exact Blk.new W16 _ _
  have z17 : Below W16.heap.size W16 W17 := by rw [hW17]; exact (Below.refl _ _).alloc (Nat.le_refl _) _
  have HW17 := Lib.hid hW17
  clear hW17
  go_upto_region 8 with fail
  rw [← HW17.out]
  have uc18 : W17.cell? ⟨W16.heap.size, 0, none⟩ = some (.int .i64 res.1.1) := ib.cell 0
  have uc19 : W17.cell? ⟨W16.heap.size, 1, none⟩ = some (.slice L16 res.1.2.length c16) := ib.cell 1
  have uc20 : W17.cell? ⟨W16.heap.size, 2, none⟩ = some (.slice R16 0 d16) := ib.cell 2
  have yW7_W12 : Below W7.heap.size W7 W12 := z11.trans (z12.mono z11.size)
  have yW7_W16 : Below W7.heap.size W7 W16 := yW7_W12.trans (z16.mono yW7_W12.size)
  have yW7_W17 : Below W7.heap.size W7 W17 := yW7_W16.trans (z17.mono yW7_W16.size)
  have uc21 : W17.cell? ⟨W6.heap.size, 0, none⟩ = some (.int .i64 res.1.1) := (bx6.below' yW7_W17).cell 0
  have uc22 : W17.cell? ⟨W6.heap.size, 1, none⟩ = some (.slice L6 res.1.2.length c6) := (bx6.below' yW7_W17).cell 1
  have uc23 : W17.cell? ⟨W6.heap.size, 2, none⟩ = some (.slice R6 0 d6) := (bx6.below' yW7_W17).cell 2
  have yW6_W11 : Below W6.heap.size W6 W11 := z7.trans (z11.mono z7.size)
  have yW6_W12 : Below W6.heap.size W6 W12 := yW6_W11.trans (z12.mono yW6_W11.size)
  have yW6_W16 : Below W6.heap.size W6 W16 := yW6_W12.trans (z16.mono yW6_W12.size)
  have yW6_W17 : Below W6.heap.size W6 W17 := yW6_W16.trans (z17.mono yW6_W16.size)
  go_wp2_with fail
  refine (eqProof_0 _ _ _ _ res.1.2 _ _ _ _ _ _ _ (oL16.below z17).asI (oL6.below yW6_W17).asI lx0).mono ?_
  rintro e W24 ⟨rfl, z24⟩
  skip
  clear uc18 uc19 uc20 uc21 uc22 uc23
  have yW12_W17 : Below W12.heap.size W12 W17 := z16.trans (z17.mono z16.size)
  have yW12_W24 : Below W12.heap.size W12 W24 := yW12_W17.trans (z24.mono yW12_W17.size)
  have uc25 : W24.cell? ⟨W11.heap.size, 0, none⟩ = some (.int .i64 sy0) := (cb0.below' yW12_W24).cell 0
  have uc26 : W24.cell? ⟨W11.heap.size, 1, none⟩ = some (.int .i64 st0) := (cb0.below' yW12_W24).cell 1
  have uc27 : W24.cell? ⟨W11.heap.size, 2, none⟩ = some (.slice B11 n0 n0) := (cb0.below' yW12_W24).cell 2
  have yW0_W11 : Below W0.heap.size W0 W11 := yW0_W7.trans (z11.mono yW0_W7.size)
  have yW0_W12 : Below W0.heap.size W0 W12 := yW0_W11.trans (z12.mono yW0_W11.size)
  have yW0_W16 : Below W0.heap.size W0 W16 := yW0_W12.trans (z16.mono yW0_W12.size)
  have yW0_W17 : Below W0.heap.size W0 W17 := yW0_W16.trans (z17.mono yW0_W16.size)
  have yW0_W24 : Below W0.heap.size W0 W24 := yW0_W17.trans (z24.mono yW0_W17.size)
  have uc28 : W24.cell? ⟨w.heap.size, 0, none⟩ = some (.int .i64 sy0) := (bb0.below' yW0_W24).cell 0
  have uc29 : W24.cell? ⟨w.heap.size, 1, none⟩ = some (.int .i64 st0) := (bb0.below' yW0_W24).cell 1
  have uc30 : W24.cell? ⟨w.heap.size, 2, none⟩ = some (.slice A0 n0 k0) := (bb0.below' yW0_W24).cell 2
  have yw_W11 : Below w.heap.size w W11 := yw_W7.trans (z11.mono yw_W7.size)
  have yw_W12 : Below w.heap.size w W12 := yw_W11.trans (z12.mono yw_W11.size)
  have yw_W16 : Below w.heap.size w W16 := yw_W12.trans (z16.mono yw_W12.size)
  have yw_W17 : Below w.heap.size w W17 := yw_W16.trans (z17.mono yw_W16.size)
  have yw_W24 : Below w.heap.size w W24 := yw_W17.trans (z24.mono yw_W17.size)
  have yW11_W16 : Below W11.heap.size W11 W16 := z12.trans (z16.mono z12.size)
  have yW11_W17 : Below W11.heap.size W11 W17 := yW11_W16.trans (z17.mono yW11_W16.size)
  have yW11_W24 : Below W11.heap.size W11 W24 := yW11_W17.trans (z24.mono yW11_W17.size)
  go_wp2_with fail
  go_region_held3 (fun w' => w'.cell? ⟨W11.heap.size, 0, none⟩ = some (.int .i64 sy0) ∧ w'.cell? ⟨W11.heap.size, 1, none⟩ = some (.int .i64 st0) ∧ w'.cell? ⟨W11.heap.size, 2, none⟩ = some (.slice B11 n0 n0) ∧ w'.cell? ⟨w.heap.size, 0, none⟩ = some (.int .i64 sy0) ∧ w'.cell? ⟨w.heap.size, 1, none⟩ = some (.int .i64 st0) ∧ w'.cell? ⟨w.heap.size, 2, none⟩ = some (.slice A0 n0 k0))
    (first
      | (go_keep; done)
      | (exact ⟨((cb0.below' yW12_W24).below' zz32).cell 0, ((cb0.below' yW12_W24).below' zz32).cell 1, ((cb0.below' yW12_W24).below' zz32).cell 2, ((bb0.below' yW0_W24).below' zz32).cell 0, ((bb0.below' yW0_W24).below' zz32).cell 1, ((bb0.below' yW0_W24).below' zz32).cell 2⟩)
      | (exact ⟨((cb0.below' yW12_W24).below' zz31).cell 0, ((cb0.below' yW12_W24).below' zz31).cell 1, ((cb0.below' yW12_W24).below' zz31).cell 2, ((bb0.below' yW0_W24).below' zz31).cell 0, ((bb0.below' yW0_W24).below' zz31).cell 1, ((bb0.below' yW0_W24).below' zz31).cell 2⟩))
    (first
      | (go_at_call 17; refine (toMachine_any _ _ _ _ _ rs0 _ ((hr0.below yw_W24).drewN 1) p0).mono ?_; rintro e W31 ⟨B31, rfl, o31, z31⟩; have zz31 : Below W24.heap.size W24 W31 := below_undrew z31)
      | (go_at_call 19; refine (eqMachine_any _ _ _ _ _ rs0 _ _ _ _ _ rs0 _ ((o11.below yW11_W24).below zz31).rd o31.rd p0).mono ?_; rintro e W32 ⟨rfl, z32⟩; have zz32 : Below W24.heap.size W24 W32 := zz31.trans (z32.mono zz31.size)))
  rw [sameMachineB_self]
  clear uc25 uc26 uc27 uc28 uc29 uc30
  clear o31 z31 zz31 z32
  have TM0 : Hid (135 ∈ [135]) := Lib.hid (by decide)
  have TN_Machine : Hid (30 ∉ [135]) := Lib.hid (by decide)
  have TL_Machine : Hid (24 ∉ [135]) := Lib.hid (by decide)
  have TN_Proof : Hid (58 ∉ [135]) := Lib.hid (by decide)
  have hs_W1 : W0.heap.size ≤ W1.heap.size := z1.size
  have hs_W5 : W1.heap.size ≤ W5.heap.size := z5.size
  have hs_W6 : W5.heap.size ≤ W6.heap.size := z6.size
  have hs_W7 : W6.heap.size ≤ W7.heap.size := z7.size
  have hs_W11 : W7.heap.size ≤ W11.heap.size := z11.size
  have hs_W12 : W11.heap.size ≤ W12.heap.size := z12.size
  have hs_W16 : W12.heap.size ≤ W16.heap.size := z16.size
  have hs_W17 : W16.heap.size ≤ W17.heap.size := z17.size
  have hs_W24 : W17.heap.size ≤ W24.heap.size := z24.size
  have hs_W32 : W24.heap.size ≤ W32.heap.size := zz32.size
  have yW11_W32 : Below W11.heap.size W11 W32 := yW11_W24.trans (zz32.mono yW11_W24.size)
  have m0 : Mk W32 W7.heap.size W12.heap.size 135 3 B11 n0 := (((o11.below yW11_W32)).mono (by omega)).mk (fun b hb => by have := o11.blk_lt b hb; omega)
  have yW0_W32 : Below W0.heap.size W0 W32 := yW0_W24.trans (zz32.mono yW0_W24.size)
  have yW12_W32 : Below W12.heap.size W12 W32 := yW12_W24.trans (zz32.mono yW12_W24.size)
  have yw_W32 : Below w.heap.size w W32 := yw_W24.trans (zz32.mono yw_W24.size)
  have yW16_W24 : Below W16.heap.size W16 W24 := z17.trans (z24.mono z17.size)
  have yW16_W32 : Below W16.heap.size W16 W32 := yW16_W24.trans (zz32.mono yW16_W24.size)
  have yW6_W24 : Below W6.heap.size W6 W24 := yW6_W17.trans (z24.mono yW6_W17.size)
  have yW6_W32 : Below W6.heap.size W6 W32 := yW6_W24.trans (zz32.mono yW6_W24.size)
  have io0 := (oL16.below yW16_W32)
  have so0 := (oL6.below yW6_W32)
  have yW17_W32 : Below W17.heap.size W17 W32 := z24.trans (zz32.mono z24.size)
  have yW7_W24 : Below W7.heap.size W7 W24 := yW7_W17.trans (z24.mono yW7_W17.size)
  have yW7_W32 : Below W7.heap.size W7 W32 := yW7_W24.trans (zz32.mono yW7_W24.size)
  have ibm := (ib.below' yW17_W32)
  have sbm := (bx6.below' yW7_W32)
  have bm0 := (bb0.below' yW0_W32)
  have cm0 := (cb0.below' yW12_W32)
  have cq0 := cm0
  have uc33 : W32.cell? ⟨W11.heap.size, 0, none⟩ = some (.int .i64 sy0) := cq0.cell 0
  have uc34 : W32.cell? ⟨W11.heap.size, 1, none⟩ = some (.int .i64 st0) := cq0.cell 1
  have uc35 : W32.cell? ⟨W11.heap.size, 2, none⟩ = some (.slice B11 n0 n0) := cq0.cell 2
  go_wp2_with fail
  refine (markMachine_m [135] _ _ _ _ _ _ _ W7.heap.size W12.heap.size m0 p0 TM0.out TN_Machine.out (by omega) (by omega)).mono ?_
  rintro e W36 ⟨rfl, f36⟩
  clear uc33 uc34 uc35
  have io0 := io0.mkf_far f36 (fun b hb => .inr (oL16.blk_ge b hb))
  have so0 := so0.mkf_far f36 (fun b hb => .inl (by have := oL6.blk_lt b hb; omega))
  have ibm := ibm.mkf f36 TN_Proof.out
  have sbm := sbm.mkf f36 TN_Proof.out
  have bm0 := bm0.mkf f36 TL_Machine.out
  have yM : Below w.heap.size w W36 := yw_W32.trans (f36.below yw_W7.size yw_W32.size)
  have hs_W36 : W32.heap.size ≤ W36.heap.size := f36.size
  clear f36
  have uc37 : W36.cell? ⟨W16.heap.size, 0, none⟩ = some (.int .i64 res.1.1) := ibm.cell 0
  have uc38 : W36.cell? ⟨W16.heap.size, 1, none⟩ = some (.slice L16 res.1.2.length c16) := ibm.cell 1
  have uc39 : W36.cell? ⟨W16.heap.size, 2, none⟩ = some (.slice R16 0 d16) := ibm.cell 2
  have uc40 : W36.cell? ⟨W6.heap.size, 0, none⟩ = some (.int .i64 res.1.1) := sbm.cell 0
  have uc41 : W36.cell? ⟨W6.heap.size, 1, none⟩ = some (.slice L6 res.1.2.length c6) := sbm.cell 1
  have uc42 : W36.cell? ⟨W6.heap.size, 2, none⟩ = some (.slice R6 0 d6) := sbm.cell 2
  have gneg : ¬ ((1 : Int) + ((n0 * 3 : Nat) : Int) < 0) := by omega
  go_wp2_with fail
  refine (eqProof_0 _ _ _ _ res.1.2 _ _ _ _ _ _ _ io0.asI so0.asI lx0).mono ?_
  rintro e W43 ⟨rfl, z43⟩
  skip
  clear uc37 uc38 uc39 uc40 uc41 uc42
  clear gneg
  have hs_W43 : W36.heap.size ≤ W43.heap.size := z43.size
  have uc44 : W43.cell? ⟨W16.heap.size, 0, none⟩ = some (.int .i64 res.1.1) := (ibm.below' z43).cell 0
  have uc45 : W43.cell? ⟨W16.heap.size, 1, none⟩ = some (.slice L16 res.1.2.length c16) := (ibm.below' z43).cell 1
  have uc46 : W43.cell? ⟨W16.heap.size, 2, none⟩ = some (.slice R16 0 d16) := (ibm.below' z43).cell 2
  go_wp2_with fail
  refine (markProof_0 _ _ _ _ res.1.2 _ _ _ _ W12.heap.size W16.heap.size (io0.below z43) (fun b hb => oL16.blk_lt b hb) (by omega) lx0 (by omega) (by omega)).mono ?_
  rintro e W47 ⟨rfl, eL, t47⟩
  clear uc44 uc45 uc46
  have so0 := (so0.below z43).touch t47 (fun b hb => .inl (by have := oL6.blk_lt b hb; omega))
  have bm0 := (bm0.below' z43).touch t47 (.inl (by have := bb0.lt; omega))
  have ibm := (ibm.below' z43).touch t47 (.inr (Nat.le_refl _))
  have sbm := (sbm.below' z43).touch t47 (.inl (by have := bx6.lt; omega))
  have yw_W43 : Below w.heap.size w W43 := yM.trans (z43.mono yM.size)
  have hlow : w.heap.size ≤ W12.heap.size := by have := yw_W7.size; omega
  have yN : Below w.heap.size w W47 := yw_W43.trans (t47.below hlow yw_W43.size)
  have hs_W47 : W43.heap.size ≤ W47.heap.size := t47.size
  clear t47
  have uc48 : W47.cell? ⟨W16.heap.size, 0, none⟩ = some (.int .i64 res.1.1) := ibm.cell 0
  have uc49 : W47.cell? ⟨W16.heap.size, 1, none⟩ = some (.slice L16 res.1.2.length c16) := ibm.cell 1
  have uc50 : W47.cell? ⟨W16.heap.size, 2, none⟩ = some (.slice R16 0 d16) := ibm.cell 2
  go_wp2_with fail
  refine (heldProof_0 _ _ _ _ _ _ _ _ eL.si lx0 (by omega) (by omega)).mono ?_
  rintro e W51 ⟨rfl, z51⟩
  clear uc48 uc49 uc50
  have gneg : ¬ ((1 : Int) + (res.1.2.length : Int) < 0) := by omega
  have uc52 : W51.cell? ⟨w.heap.size, 0, none⟩ = some (.int .i64 sy0) := (bm0.below' z51).cell 0
  have uc53 : W51.cell? ⟨w.heap.size, 1, none⟩ = some (.int .i64 st0) := (bm0.below' z51).cell 1
  have uc54 : W51.cell? ⟨w.heap.size, 2, none⟩ = some (.slice A0 n0 k0) := (bm0.below' z51).cell 2
  have yw_W51 : Below w.heap.size w W51 := yN.trans (z51.mono yN.size)
  go_wp2_with fail
  refine (toMachine_any _ _ _ _ _ rs0 _ (hr0.below yw_W51) p0).mono ?_
  rintro e W55 ⟨B55, rfl, o55, z55⟩
  clear uc52 uc53 uc54
  go_wp2_with fail
  refine (findHaltI_any _ _ _ _ _ rs0 _ _ o55.as3 p0).mono ?_
  rw [← HRES.out]
  rintro e W56 ⟨L56, c56, R56, d56, rfl, oL56, z56⟩
  obtain ⟨W57, hW57⟩ : ∃ W, W = W56.alloc (.cells #[.int .i64 res.1.1, .slice L56 res.1.2.length c56, .slice R56 0 d56] 58) := ⟨_, rfl⟩
  have hbx : Blk W57 W56.heap.size 58 #[.int .i64 res.1.1, .slice L56 res.1.2.length c56, .slice R56 0 d56] := by rw [hW57]; exact Blk.new W56 _ _
  have z57 : Below W56.heap.size W56 W57 := by rw [hW57]; exact (Below.refl _ _).alloc (Nat.le_refl _) _
  have HW57 := Lib.hid hW57
  clear hW57
  go_upto_region 25 with fail
  rw [← HW57.out]
  have uc58 : W57.cell? ⟨W56.heap.size, 0, none⟩ = some (.int .i64 res.1.1) := hbx.cell 0
  have uc59 : W57.cell? ⟨W56.heap.size, 1, none⟩ = some (.slice L56 res.1.2.length c56) := hbx.cell 1
  have uc60 : W57.cell? ⟨W56.heap.size, 2, none⟩ = some (.slice R56 0 d56) := hbx.cell 2
  have yW47_W55 : Below W47.heap.size W47 W55 := z51.trans (z55.mono z51.size)
  have yW47_W56 : Below W47.heap.size W47 W56 := yW47_W55.trans (z56.mono yW47_W55.size)
  have yW47_W57 : Below W47.heap.size W47 W57 := yW47_W56.trans (z57.mono yW47_W56.size)
  have uc61 : W57.cell? ⟨W6.heap.size, 0, none⟩ = some (.int .i64 res.1.1) := (sbm.below' yW47_W57).cell 0
  have uc62 : W57.cell? ⟨W6.heap.size, 1, none⟩ = some (.slice L6 res.1.2.length c6) := (sbm.below' yW47_W57).cell 1
  have uc63 : W57.cell? ⟨W6.heap.size, 2, none⟩ = some (.slice R6 0 d6) := (sbm.below' yW47_W57).cell 2
  go_wp2_with fail
  refine (eqProof_0 _ _ _ _ res.1.2 _ _ _ _ _ _ _ (oL56.below z57).asI (so0.below yW47_W57).asI lx0).mono ?_
  rintro e W64 ⟨rfl, z64⟩
  skip
  clear uc58 uc59 uc60 uc61 uc62 uc63
  have yW47_W64 : Below W47.heap.size W47 W64 := yW47_W57.trans (z64.mono yW47_W57.size)
  have uc65 : W64.cell? ⟨W16.heap.size, 0, none⟩ = some (.int .i64 res.1.1) := (ibm.below' yW47_W64).cell 0
  have uc66 : W64.cell? ⟨W16.heap.size, 1, none⟩ = some (.slice L16 res.1.2.length c16) := (ibm.below' yW47_W64).cell 1
  have uc67 : W64.cell? ⟨W16.heap.size, 2, none⟩ = some (.slice R16 0 d16) := (ibm.below' yW47_W64).cell 2
  go_wp2_with fail
  refine (heldProof_0 _ _ _ _ _ _ _ _ (eL.below yW47_W64).si lx0 (by omega) (by omega)).mono ?_
  rintro e W68 ⟨rfl, z68⟩
  clear uc65 uc66 uc67
  have yw_W55 : Below w.heap.size w W55 := yw_W51.trans (z55.mono yw_W51.size)
  have yw_W56 : Below w.heap.size w W56 := yw_W55.trans (z56.mono yw_W55.size)
  have yw_W57 : Below w.heap.size w W57 := yw_W56.trans (z57.mono yw_W56.size)
  have yw_W64 : Below w.heap.size w W64 := yw_W57.trans (z64.mono yw_W57.size)
  have yw_W68 : Below w.heap.size w W68 := yw_W64.trans (z68.mono yw_W64.size)
  go_wp2_with fail
  go_ret
  exact ⟨rfl, yw_W68⟩
end Go.Proofs.Ytbedghebckflmaa
