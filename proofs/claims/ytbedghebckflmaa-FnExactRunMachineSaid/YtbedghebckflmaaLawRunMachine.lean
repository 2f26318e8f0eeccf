/-
  The walk of the law FnExactRunMachine: it returns true, and nothing that was there before has turned.
-/
import Derived.Test.YtbedghebckflmaaRunV
import Derived.Test.YtbedghebckflmaaHelpMachine
import Derived.Test.YtbedghebckflmaaHelpConfigC
import Derived.Test.YtbedghebckflmaaHelpCB
namespace Go.Proofs.Ytbedghebckflmaa
open Go.RowKit

set_option maxRecDepth 100000 in
set_option maxHeartbeats 16000000 in
theorem lawRunMachine (sy0 st0 : Int) (A0 : Option Addr) (n0 k0 : Nat) (rs0 : List R3) (q1 : Int) (B1 : Option Addr) (m1 c1 : Nat) (xs1 : List Int) (C1 : Option Addr) (l1 d1 : Nat) (ys1 : List Int) (b2 : Int) (w : World) (hr0 : S3 w A0 n0 rs0) (hx1 : SI w B1 m1 xs1) (hy1 : SI w C1 l1 ys1)  (hb0 : n0 ≤ 9223372036854775807) (hb1 : m1 ≤ 9223372036854775807) (hb1' : l1 ≤ 9223372036854775807)  :
    Calls Try.prog 6 #[.agg #[.int .i64 sy0, .int .i64 st0, .slice A0 n0 k0], .agg #[.int .i64 q1, .slice B1 m1 c1, .slice C1 l1 d1], .int .i64 b2] w fun e w' => e = .returned (.bool true) ∧ Below w.heap.size w w' := by
  obtain ⟨W0, hW0⟩ : ∃ W, W = (w.alloc (.cells #[.int .i64 sy0, .int .i64 st0, .slice A0 n0 k0] 24)).alloc (.cells #[.int .i64 q1, .slice B1 m1 c1, .slice C1 l1 d1] 36) := ⟨_, rfl⟩
  have s1 : (w.alloc (.cells #[.int .i64 sy0, .int .i64 st0, .slice A0 n0 k0] 24)).heap.size = w.heap.size + 1 := by simp
  have bb0 : Blk W0 w.heap.size 24 #[.int .i64 sy0, .int .i64 st0, .slice A0 n0 k0] := by rw [hW0]; exact (Blk.new w _ _).alloc _
  have bb1 : Blk W0 (w.heap.size + 1) 36 #[.int .i64 q1, .slice B1 m1 c1, .slice C1 l1 d1] := by rw [hW0, ← s1]; exact Blk.new _ _ _
  have z0 : Below w.heap.size w W0 := by rw [hW0]; exact ((Below.refl _ _).alloc (Nat.le_refl _) _).alloc (by simp) _
  have HW0 := Lib.hid hW0
  clear hW0 s1
  go_enter Try.func6, Try.ntmps6
  go_wp2_with fail
  rw [← HW0.out]
  refine (szMachine_any _ _ _ _ _ _ _ hb0 (by omega) (by omega)).mono ?_
  rintro e W1 ⟨v1, rfl, va1, vb1, vc1, z1⟩
  have VC1 := Lib.hid vc1
  clear vc1
  have yw_W1 : Below w.heap.size w W1 := z0.trans (z1.mono z0.size)
  have uc2 : W1.cell? ⟨(w.heap.size + 1), 0, none⟩ = some (.int .i64 q1) := (bb1.below' z1).cell 0
  have uc3 : W1.cell? ⟨(w.heap.size + 1), 1, none⟩ = some (.slice B1 m1 c1) := (bb1.below' z1).cell 1
  have uc4 : W1.cell? ⟨(w.heap.size + 1), 2, none⟩ = some (.slice C1 l1 d1) := (bb1.below' z1).cell 2
  by_cases hneg1 : v1 < 0
  · go_wp2_with fail
    go_ret
    exact ⟨rfl, yw_W1⟩
  go_wp2_with fail
  refine (szConfig_any _ _ _ _ _ _ _ _ _ hb1 hb1' (by omega) (by omega)).mono ?_
  rintro e W5 ⟨v5, rfl, va5, vb5, vc5, z5⟩
  have VC5 := Lib.hid vc5
  clear vc5
  clear uc2 uc3 uc4
  have yw_W5 : Below w.heap.size w W5 := yw_W1.trans (z5.mono yw_W1.size)
  by_cases hneg5 : v5 < 0
  · go_wp2_with fail
    go_ret
    exact ⟨rfl, yw_W5⟩
  have hsm : n0 ≤ 1048576 ∧ m1 ≤ 1048576 ∧ l1 ≤ 1048576 := by
    have t1 := VC1.out (by omega)
    have t5 := VC5.out (by omega)
    omega
  obtain ⟨p0, p1, p1'⟩ := hsm
  clear VC1
  clear VC5
  have yW0_W5 : Below W0.heap.size W0 W5 := z1.trans (z5.mono z1.size)
  have uc6 : W5.cell? ⟨w.heap.size, 0, none⟩ = some (.int .i64 sy0) := (bb0.below' yW0_W5).cell 0
  have uc7 : W5.cell? ⟨w.heap.size, 1, none⟩ = some (.int .i64 st0) := (bb0.below' yW0_W5).cell 1
  have uc8 : W5.cell? ⟨w.heap.size, 2, none⟩ = some (.slice A0 n0 k0) := (bb0.below' yW0_W5).cell 2
  have uc9 : W5.cell? ⟨(w.heap.size + 1), 0, none⟩ = some (.int .i64 q1) := (bb1.below' yW0_W5).cell 0
  have uc10 : W5.cell? ⟨(w.heap.size + 1), 1, none⟩ = some (.slice B1 m1 c1) := (bb1.below' yW0_W5).cell 1
  have uc11 : W5.cell? ⟨(w.heap.size + 1), 2, none⟩ = some (.slice C1 l1 d1) := (bb1.below' yW0_W5).cell 2
  obtain ⟨res, hres⟩ : ∃ res, res = runMachF sy0 st0 rs0 q1 xs1 ys1 b2 := ⟨_, rfl⟩
  have HRES := Lib.hid hres
  clear hres
  have KEEPA : Hid (∀ cur, Below W5.heap.size W5 cur → cur.cell? ⟨w.heap.size, 0, none⟩ = some (.int .i64 sy0) ∧ cur.cell? ⟨w.heap.size, 1, none⟩ = some (.int .i64 st0) ∧ cur.cell? ⟨w.heap.size, 2, none⟩ = some (.slice A0 n0 k0) ∧ cur.cell? ⟨(w.heap.size + 1), 0, none⟩ = some (.int .i64 q1) ∧ cur.cell? ⟨(w.heap.size + 1), 1, none⟩ = some (.slice B1 m1 c1) ∧ cur.cell? ⟨(w.heap.size + 1), 2, none⟩ = some (.slice C1 l1 d1)) := fun cur h =>
    ⟨((bb0.below' yW0_W5).below' h).cell 0, ((bb0.below' yW0_W5).below' h).cell 1, ((bb0.below' yW0_W5).below' h).cell 2, ((bb1.below' yW0_W5).below' h).cell 0, ((bb1.below' yW0_W5).below' h).cell 1, ((bb1.below' yW0_W5).below' h).cell 2⟩
  go_upto_region 8 with fail
  go_cut [8, 9, 10, 11] (fun s8 s9 s10 s11 wx => ConfBox4 W5.heap.size W5 s8 s9 s10 s11 res wx)
  case first =>
    go_region_held3 (fun w' => w'.cell? ⟨w.heap.size, 0, none⟩ = some (.int .i64 sy0) ∧ w'.cell? ⟨w.heap.size, 1, none⟩ = some (.int .i64 st0) ∧ w'.cell? ⟨w.heap.size, 2, none⟩ = some (.slice A0 n0 k0) ∧ w'.cell? ⟨(w.heap.size + 1), 0, none⟩ = some (.int .i64 q1) ∧ w'.cell? ⟨(w.heap.size + 1), 1, none⟩ = some (.slice B1 m1 c1) ∧ w'.cell? ⟨(w.heap.size + 1), 2, none⟩ = some (.slice C1 l1 d1))
      (first
        | (go_keep; done)
        | (exact KEEPA.out _ (by first
            | exact zz14
            | exact zz14.alloc zz14.size _
            | exact zz13
            | exact zz13.alloc zz13.size _
            | exact zz12
            | exact zz12.alloc zz12.size _
            | exact conf_below (zz14.alloc zz14.size _) zz14.size _ _ _
            | exact conf_below zz14 BX.out.1 _ _ _)))
      (first
        | (go_at_call 17; refine (toMachine_any _ _ _ _ _ rs0 _ ((hr0.below yw_W5).drewN 1) p0).mono ?_; rintro e W12 ⟨B12, rfl, o12, z12⟩; have zz12 : Below W5.heap.size W5 W12 := below_undrew z12)
        | (go_at_call 17; refine (toMachine_any _ _ _ _ _ rs0 _ (((hr0.below yw_W5).alloc _).drewN 1) p0).mono ?_; rintro e W12 ⟨B12, rfl, o12, z12⟩; have zz12 : Below W5.heap.size W5 W12 := below_of_alloc (below_undrew z12); have BX := Lib.hid ((((Bx.new W5 38 #[.int .i64 0, .slice none 0 0, .slice none 0 0] (Nat.le_refl _)).drewN 1)).below' z12))
        | (go_at_call 22; have hq := BX; refine (toConfig_any _ _ _ _ xs1 _ _ _ ys1 _ ((hx1.below yw_W5).below zz12) p1 ((hy1.below yw_W5).below zz12) p1').mono ?_; rintro e W13 ⟨L13, R13, rfl, oL13, oR13, z13⟩; have zz13 : Below W5.heap.size W5 W13 := zz12.trans (z13.mono zz12.size); have BX2 := Lib.hid (BX.out.below' z13); clear hq BX; have BX := BX2; clear BX2; have o12 := o12.below z13)
        | (go_at_call 22; refine (toConfig_any _ _ _ _ xs1 _ _ _ ys1 _ ((hx1.below yw_W5).below zz12) p1 ((hy1.below yw_W5).below zz12) p1').mono ?_; rintro e W13 ⟨L13, R13, rfl, oL13, oR13, z13⟩; have zz13 : Below W5.heap.size W5 W13 := zz12.trans (z13.mono zz12.size); have o12 := o12.below z13)
        | (go_at_call 22; refine (toConfig_any _ _ _ _ xs1 _ _ _ ys1 _ (((hx1.below yw_W5).below zz12).alloc _) p1 (((hy1.below yw_W5).below zz12).alloc _) p1').mono ?_; rintro e W13 ⟨L13, R13, rfl, oL13, oR13, z13⟩; have zz13 : Below W5.heap.size W5 W13 := zz12.trans ((below_of_alloc z13).mono zz12.size); have BX := Lib.hid ((Bx.new W12 38 #[.int .i64 0, .slice none 0 0, .slice none 0 0] zz12.size).below' z13); have o12 := (o12.alloc (.cells #[.int .i64 0, .slice none 0 0, .slice none 0 0] 38)).below z13)
        | (go_at_call 33; have hq := BX; (with_reducible refine (specRunMachine_any _ _ _ _ _ rs0 _ _ _ _ xs1 _ _ _ ys1 _ _ o12.as3 oL13.asI oR13.asI p0 p1 p1').mono ?_); rw [← HRES.out]; rintro e W14 ⟨L14, c14, R14, d14, rfl, oL14, oR14, hap14, z14⟩; have zz14 : Below W5.heap.size W5 W14 := zz13.trans (z14.mono zz13.size); have BX2 := Lib.hid (BX.out.below' z14); clear hq BX; have BX := BX2; clear BX2; have oL14 := oL14.mono zz13.size; have oR14 := oR14.mono zz13.size; have x0 : _ = some (Value.int .i64 0) := BX.out.2.cell 0; have f0 := BX.out.2.frozen 0; have x1 : _ = some (Value.slice none 0 0) := BX.out.2.cell 1; have f1 := BX.out.2.frozen 1; have x2 : _ = some (Value.slice none 0 0) := BX.out.2.cell 2; have f2 := BX.out.2.frozen 2)
        | (go_at_call 33; (with_reducible refine (specRunMachine_any _ _ _ _ _ rs0 _ _ _ _ xs1 _ _ _ ys1 _ _ o12.as3 oL13.asI oR13.asI p0 p1 p1').mono ?_); rw [← HRES.out]; rintro e W14 ⟨L14, c14, R14, d14, rfl, oL14, oR14, hap14, z14⟩; have zz14 : Below W5.heap.size W5 W14 := zz13.trans (z14.mono zz13.size); have oL14 := oL14.mono zz13.size; have oR14 := oR14.mono zz13.size)
        | (go_at_call 33; (with_reducible refine (specRunMachine_any _ _ _ _ _ rs0 _ _ _ _ xs1 _ _ _ ys1 _ _ (o12.alloc _).as3 (oL13.alloc _).asI (oR13.alloc _).asI p0 p1 p1').mono ?_); rw [← HRES.out]; rintro e W14 ⟨L14, c14, R14, d14, rfl, oL14, oR14, hap14, z14⟩; have zz14 : Below W5.heap.size W5 W14 := zz13.trans ((below_of_alloc z14).mono zz13.size); have BX := Lib.hid ((Bx.new W13 38 #[.int .i64 0, .slice none 0 0, .slice none 0 0] zz13.size).below' z14); have oL14 := oL14.mono (show W5.heap.size ≤ _ from Nat.le_trans zz13.size (by simp)); have oR14 := oR14.mono (show W5.heap.size ≤ _ from Nat.le_trans zz13.size (by simp)); have x0 : _ = some (Value.int .i64 0) := BX.out.2.cell 0; have f0 := BX.out.2.frozen 0; have x1 : _ = some (Value.slice none 0 0) := BX.out.2.cell 1; have f1 := BX.out.2.frozen 1; have x2 : _ = some (Value.slice none 0 0) := BX.out.2.cell 2; have f2 := BX.out.2.frozen 2))
    all_goals
      go_wp2_with fail
      go_meet
      first
        | exact ⟨W14.heap.size, L14, c14, R14, d14, rfl, rfl, rfl, rfl, zz14.size, Blk.new W14 _ _, oL14.alloc _, oR14.alloc _, hap14, zz14.alloc zz14.size _⟩
        | exact ⟨_, L14, c14, R14, d14, rfl, rfl, rfl, rfl, BX.out.1, conf_set BX.out.2 _ _ _, conf_far2 BX.out.2 oL14 _ _ _, conf_far2 BX.out.2 oR14 _ _ _, hap14, conf_below zz14 BX.out.1 _ _ _⟩
  case rest =>
    obtain ⟨g15, L15, c15, R15, d15, rfl, rfl, rfl, rfl, hg15, bx15, oL15, oR15, hap15, z15⟩ := hcut
    clear uc6 uc7 uc8 uc9 uc10 uc11
    clear KEEPA
    have HAP15 := Lib.hid hap15
    clear hap15
    obtain ⟨W15, hWc⟩ : ∃ W, W = wc := ⟨_, rfl⟩
    rw [← hWc] at oL15 oR15 z15 bx15
    rw [← hWc]
    clear hWc
    have hlen : res.1.xs.length ≤ 1048576 ∧ res.1.ys.length ≤ 1048576 := by rw [HRES.out]; exact runMachF_len sy0 st0 rs0 q1 xs1 ys1 b2
    obtain ⟨lx0, lx1⟩ := hlen
    have yW0_W15 : Below W0.heap.size W0 W15 := yW0_W5.trans (z15.mono yW0_W5.size)
    have uc16 : W15.cell? ⟨w.heap.size, 0, none⟩ = some (.int .i64 sy0) := (bb0.below' yW0_W15).cell 0
    have uc17 : W15.cell? ⟨w.heap.size, 1, none⟩ = some (.int .i64 st0) := (bb0.below' yW0_W15).cell 1
    have uc18 : W15.cell? ⟨w.heap.size, 2, none⟩ = some (.slice A0 n0 k0) := (bb0.below' yW0_W15).cell 2
    go_wp2_with fail
    have yw_W15 : Below w.heap.size w W15 := yw_W5.trans (z15.mono yw_W5.size)
    refine (toMachine_any _ _ _ _ _ rs0 _ (hr0.below yw_W15) p0).mono ?_
    rintro e W19 ⟨B19, rfl, o19, z19⟩
    clear uc16 uc17 uc18
    obtain ⟨W20, hW20⟩ : ∃ W, W = W19.alloc (.cells #[.int .i64 sy0, .int .i64 st0, .slice B19 n0 n0] 30) := ⟨_, rfl⟩
    have cb0 : Blk W20 W19.heap.size 30 #[.int .i64 sy0, .int .i64 st0, .slice B19 n0 n0] := by rw [hW20]; exact Blk.new W19 _ _
    have z20 : Below W19.heap.size W19 W20 := by rw [hW20]; exact (Below.refl _ _).alloc (Nat.le_refl _) _
    have HW20 := Lib.hid hW20
    clear hW20
    have yW0_W19 : Below W0.heap.size W0 W19 := yW0_W15.trans (z19.mono yW0_W15.size)
    have yW0_W20 : Below W0.heap.size W0 W20 := yW0_W19.trans (z20.mono yW0_W19.size)
    have uc21 : W20.cell? ⟨(w.heap.size + 1), 0, none⟩ = some (.int .i64 q1) := (bb1.below' yW0_W20).cell 0
    have uc22 : W20.cell? ⟨(w.heap.size + 1), 1, none⟩ = some (.slice B1 m1 c1) := (bb1.below' yW0_W20).cell 1
    have uc23 : W20.cell? ⟨(w.heap.size + 1), 2, none⟩ = some (.slice C1 l1 d1) := (bb1.below' yW0_W20).cell 2
    go_upto_region 10 with fail
    rw [← HW20.out]
    go_wp2_with fail
    have yw_W19 : Below w.heap.size w W19 := yw_W15.trans (z19.mono yw_W15.size)
    have yw_W20 : Below w.heap.size w W20 := yw_W19.trans (z20.mono yw_W19.size)
    refine (toConfig_any _ _ _ _ xs1 _ _ _ ys1 _ (hx1.below yw_W20) p1 (hy1.below yw_W20) p1').mono ?_
    rintro e W24 ⟨L24, R24, rfl, oL24, oR24, z24⟩
    clear uc21 uc22 uc23
    obtain ⟨W25, hW25⟩ : ∃ W, W = W24.alloc (.cells #[.int .i64 q1, .slice L24 m1 m1, .slice R24 l1 l1] 38) := ⟨_, rfl⟩
    have cb1 : Blk W25 W24.heap.size 38 #[.int .i64 q1, .slice L24 m1 m1, .slice R24 l1 l1] := by rw [hW25]; exact Blk.new W24 _ _
    have z25 : Below W24.heap.size W24 W25 := by rw [hW25]; exact (Below.refl _ _).alloc (Nat.le_refl _) _
    have HW25 := Lib.hid hW25
    clear hW25
    have yW20_W25 : Below W20.heap.size W20 W25 := z24.trans (z25.mono z24.size)
    have uc26 : W25.cell? ⟨W19.heap.size, 0, none⟩ = some (.int .i64 sy0) := (cb0.below' yW20_W25).cell 0
    have uc27 : W25.cell? ⟨W19.heap.size, 1, none⟩ = some (.int .i64 st0) := (cb0.below' yW20_W25).cell 1
    have uc28 : W25.cell? ⟨W19.heap.size, 2, none⟩ = some (.slice B19 n0 n0) := (cb0.below' yW20_W25).cell 2
    have uc29 : W25.cell? ⟨W24.heap.size, 0, none⟩ = some (.int .i64 q1) := cb1.cell 0
    have uc30 : W25.cell? ⟨W24.heap.size, 1, none⟩ = some (.slice L24 m1 m1) := cb1.cell 1
    have uc31 : W25.cell? ⟨W24.heap.size, 2, none⟩ = some (.slice R24 l1 l1) := cb1.cell 2
    go_upto_region 11 with fail
    rw [← HW25.out]
    go_wp2_with fail
    have yW19_W24 : Below W19.heap.size W19 W24 := z20.trans (z24.mono z20.size)
    have yW19_W25 : Below W19.heap.size W19 W25 := yW19_W24.trans (z25.mono yW19_W24.size)
    refine (runMachine_any _ _ _ _ _ rs0 _ _ _ _ xs1 _ _ _ ys1 _ _ (o19.below yW19_W25).as3 (oL24.below z25).asI (oR24.below z25).asI p0 p1 p1').mono ?_
    rw [← HRES.out]
    rintro e W32 ⟨L32, c32, R32, d32, rfl, oL32, oR32, hap32, z32⟩
    clear uc26 uc27 uc28 uc29 uc30 uc31
    have HAP32 := Lib.hid hap32
    clear hap32
    obtain ⟨W33, hW33⟩ : ∃ W, W = W32.alloc (.cells #[.int .i64 res.1.q, .slice L32 res.1.xs.length c32, .slice R32 res.1.ys.length d32] 38) := ⟨_, rfl⟩
    have ib : Blk W33 W32.heap.size 38 #[.int .i64 res.1.q, .slice L32 res.1.xs.length c32, .slice R32 res.1.ys.length d32] := by rw [hW33]; exact Blk.new W32 _ _
    have z33 : Below W32.heap.size W32 W33 := by rw [hW33]; exact (Below.refl _ _).alloc (Nat.le_refl _) _
    have HW33 := Lib.hid hW33
    clear hW33
    go_upto_region 12 with fail
    rw [← HW33.out]
    have uc34 : W33.cell? ⟨W32.heap.size, 0, none⟩ = some (.int .i64 res.1.q) := ib.cell 0
    have uc35 : W33.cell? ⟨W32.heap.size, 1, none⟩ = some (.slice L32 res.1.xs.length c32) := ib.cell 1
    have uc36 : W33.cell? ⟨W32.heap.size, 2, none⟩ = some (.slice R32 res.1.ys.length d32) := ib.cell 2
    have yW15_W20 : Below W15.heap.size W15 W20 := z19.trans (z20.mono z19.size)
    have yW15_W24 : Below W15.heap.size W15 W24 := yW15_W20.trans (z24.mono yW15_W20.size)
    have yW15_W25 : Below W15.heap.size W15 W25 := yW15_W24.trans (z25.mono yW15_W24.size)
    have yW15_W32 : Below W15.heap.size W15 W32 := yW15_W25.trans (z32.mono yW15_W25.size)
    have yW15_W33 : Below W15.heap.size W15 W33 := yW15_W32.trans (z33.mono yW15_W32.size)
    have uc37 : W33.cell? ⟨g15, 0, none⟩ = some (.int .i64 res.1.q) := (bx15.below' yW15_W33).cell 0
    have uc38 : W33.cell? ⟨g15, 1, none⟩ = some (.slice L15 res.1.xs.length c15) := (bx15.below' yW15_W33).cell 1
    have uc39 : W33.cell? ⟨g15, 2, none⟩ = some (.slice R15 res.1.ys.length d15) := (bx15.below' yW15_W33).cell 2
    go_wp2_with fail
    refine (eqConfig_any _ _ _ _ res.1.xs _ _ _ res.1.ys _ _ _ _ res.1.xs _ _ _ res.1.ys _ (oL32.below z33).rd (oL15.below yW15_W33).rd lx0 (oR32.below z33).rd (oR15.below yW15_W33).rd lx1).mono ?_
    rintro e W40 ⟨rfl, z40⟩
    rw [sameConfigB_self]
    clear uc34 uc35 uc36 uc37 uc38 uc39
    have yW20_W32 : Below W20.heap.size W20 W32 := yW20_W25.trans (z32.mono yW20_W25.size)
    have yW20_W33 : Below W20.heap.size W20 W33 := yW20_W32.trans (z33.mono yW20_W32.size)
    have yW20_W40 : Below W20.heap.size W20 W40 := yW20_W33.trans (z40.mono yW20_W33.size)
    have uc41 : W40.cell? ⟨W19.heap.size, 0, none⟩ = some (.int .i64 sy0) := (cb0.below' yW20_W40).cell 0
    have uc42 : W40.cell? ⟨W19.heap.size, 1, none⟩ = some (.int .i64 st0) := (cb0.below' yW20_W40).cell 1
    have uc43 : W40.cell? ⟨W19.heap.size, 2, none⟩ = some (.slice B19 n0 n0) := (cb0.below' yW20_W40).cell 2
    have yW0_W24 : Below W0.heap.size W0 W24 := yW0_W20.trans (z24.mono yW0_W20.size)
    have yW0_W25 : Below W0.heap.size W0 W25 := yW0_W24.trans (z25.mono yW0_W24.size)
    have yW0_W32 : Below W0.heap.size W0 W32 := yW0_W25.trans (z32.mono yW0_W25.size)
    have yW0_W33 : Below W0.heap.size W0 W33 := yW0_W32.trans (z33.mono yW0_W32.size)
    have yW0_W40 : Below W0.heap.size W0 W40 := yW0_W33.trans (z40.mono yW0_W33.size)
    have uc44 : W40.cell? ⟨w.heap.size, 0, none⟩ = some (.int .i64 sy0) := (bb0.below' yW0_W40).cell 0
    have uc45 : W40.cell? ⟨w.heap.size, 1, none⟩ = some (.int .i64 st0) := (bb0.below' yW0_W40).cell 1
    have uc46 : W40.cell? ⟨w.heap.size, 2, none⟩ = some (.slice A0 n0 k0) := (bb0.below' yW0_W40).cell 2
    have yw_W24 : Below w.heap.size w W24 := yw_W20.trans (z24.mono yw_W20.size)
    have yw_W25 : Below w.heap.size w W25 := yw_W24.trans (z25.mono yw_W24.size)
    have yw_W32 : Below w.heap.size w W32 := yw_W25.trans (z32.mono yw_W25.size)
    have yw_W33 : Below w.heap.size w W33 := yw_W32.trans (z33.mono yw_W32.size)
    have yw_W40 : Below w.heap.size w W40 := yw_W33.trans (z40.mono yw_W33.size)
    have yW19_W32 : Below W19.heap.size W19 W32 := yW19_W25.trans (z32.mono yW19_W25.size)
    have yW19_W33 : Below W19.heap.size W19 W33 := yW19_W32.trans (z33.mono yW19_W32.size)
    have yW19_W40 : Below W19.heap.size W19 W40 := yW19_W33.trans (z40.mono yW19_W33.size)
    go_wp2_with fail
    go_region_held3 (fun w' => w'.cell? ⟨W19.heap.size, 0, none⟩ = some (.int .i64 sy0) ∧ w'.cell? ⟨W19.heap.size, 1, none⟩ = some (.int .i64 st0) ∧ w'.cell? ⟨W19.heap.size, 2, none⟩ = some (.slice B19 n0 n0) ∧ w'.cell? ⟨w.heap.size, 0, none⟩ = some (.int .i64 sy0) ∧ w'.cell? ⟨w.heap.size, 1, none⟩ = some (.int .i64 st0) ∧ w'.cell? ⟨w.heap.size, 2, none⟩ = some (.slice A0 n0 k0))
      (first
        | (go_keep; done)
        | (exact ⟨((cb0.below' yW20_W40).below' zz48).cell 0, ((cb0.below' yW20_W40).below' zz48).cell 1, ((cb0.below' yW20_W40).below' zz48).cell 2, ((bb0.below' yW0_W40).below' zz48).cell 0, ((bb0.below' yW0_W40).below' zz48).cell 1, ((bb0.below' yW0_W40).below' zz48).cell 2⟩)
        | (exact ⟨((cb0.below' yW20_W40).below' zz47).cell 0, ((cb0.below' yW20_W40).below' zz47).cell 1, ((cb0.below' yW20_W40).below' zz47).cell 2, ((bb0.below' yW0_W40).below' zz47).cell 0, ((bb0.below' yW0_W40).below' zz47).cell 1, ((bb0.below' yW0_W40).below' zz47).cell 2⟩))
      (first
        | (go_at_call 17; refine (toMachine_any _ _ _ _ _ rs0 _ ((hr0.below yw_W40).drewN 1) p0).mono ?_; rintro e W47 ⟨B47, rfl, o47, z47⟩; have zz47 : Below W40.heap.size W40 W47 := below_undrew z47)
        | (go_at_call 19; refine (eqMachine_any _ _ _ _ _ rs0 _ _ _ _ _ rs0 _ ((o19.below yW19_W40).below zz47).rd o47.rd p0).mono ?_; rintro e W48 ⟨rfl, z48⟩; have zz48 : Below W40.heap.size W40 W48 := zz47.trans (z48.mono zz47.size)))
    rw [sameMachineB_self]
    clear uc41 uc42 uc43 uc44 uc45 uc46
    clear o47 z47 zz47 z48
    have yW25_W33 : Below W25.heap.size W25 W33 := z32.trans (z33.mono z32.size)
    have yW25_W40 : Below W25.heap.size W25 W40 := yW25_W33.trans (z40.mono yW25_W33.size)
    have yW25_W48 : Below W25.heap.size W25 W48 := yW25_W40.trans (zz48.mono yW25_W40.size)
    have uc49 : W48.cell? ⟨W24.heap.size, 0, none⟩ = some (.int .i64 q1) := (cb1.below' yW25_W48).cell 0
    have uc50 : W48.cell? ⟨W24.heap.size, 1, none⟩ = some (.slice L24 m1 m1) := (cb1.below' yW25_W48).cell 1
    have uc51 : W48.cell? ⟨W24.heap.size, 2, none⟩ = some (.slice R24 l1 l1) := (cb1.below' yW25_W48).cell 2
    have yW0_W48 : Below W0.heap.size W0 W48 := yW0_W40.trans (zz48.mono yW0_W40.size)
    have uc52 : W48.cell? ⟨(w.heap.size + 1), 0, none⟩ = some (.int .i64 q1) := (bb1.below' yW0_W48).cell 0
    have uc53 : W48.cell? ⟨(w.heap.size + 1), 1, none⟩ = some (.slice B1 m1 c1) := (bb1.below' yW0_W48).cell 1
    have uc54 : W48.cell? ⟨(w.heap.size + 1), 2, none⟩ = some (.slice C1 l1 d1) := (bb1.below' yW0_W48).cell 2
    have yw_W48 : Below w.heap.size w W48 := yw_W40.trans (zz48.mono yw_W40.size)
    have yW24_W32 : Below W24.heap.size W24 W32 := z25.trans (z32.mono z25.size)
    have yW24_W33 : Below W24.heap.size W24 W33 := yW24_W32.trans (z33.mono yW24_W32.size)
    have yW24_W40 : Below W24.heap.size W24 W40 := yW24_W33.trans (z40.mono yW24_W33.size)
    have yW24_W48 : Below W24.heap.size W24 W48 := yW24_W40.trans (zz48.mono yW24_W40.size)
    go_wp2_with fail
    go_region_held3 (fun w' => w'.cell? ⟨W24.heap.size, 0, none⟩ = some (.int .i64 q1) ∧ w'.cell? ⟨W24.heap.size, 1, none⟩ = some (.slice L24 m1 m1) ∧ w'.cell? ⟨W24.heap.size, 2, none⟩ = some (.slice R24 l1 l1) ∧ w'.cell? ⟨(w.heap.size + 1), 0, none⟩ = some (.int .i64 q1) ∧ w'.cell? ⟨(w.heap.size + 1), 1, none⟩ = some (.slice B1 m1 c1) ∧ w'.cell? ⟨(w.heap.size + 1), 2, none⟩ = some (.slice C1 l1 d1))
      (first
        | (go_keep; done)
        | (exact ⟨((cb1.below' yW25_W48).below' zz56).cell 0, ((cb1.below' yW25_W48).below' zz56).cell 1, ((cb1.below' yW25_W48).below' zz56).cell 2, ((bb1.below' yW0_W48).below' zz56).cell 0, ((bb1.below' yW0_W48).below' zz56).cell 1, ((bb1.below' yW0_W48).below' zz56).cell 2⟩)
        | (exact ⟨((cb1.below' yW25_W48).below' zz55).cell 0, ((cb1.below' yW25_W48).below' zz55).cell 1, ((cb1.below' yW25_W48).below' zz55).cell 2, ((bb1.below' yW0_W48).below' zz55).cell 0, ((bb1.below' yW0_W48).below' zz55).cell 1, ((bb1.below' yW0_W48).below' zz55).cell 2⟩))
      (first
        | (go_at_call 22; refine (toConfig_any _ _ _ _ xs1 _ _ _ ys1 _ ((hx1.below yw_W48).drewN 1) p1 ((hy1.below yw_W48).drewN 1) p1').mono ?_; rintro e W55 ⟨L55, R55, rfl, oL55, oR55, z55⟩; have zz55 : Below W48.heap.size W48 W55 := below_undrew z55)
        | (go_at_call 24; refine (eqConfig_any _ _ _ _ xs1 _ _ _ ys1 _ _ _ _ xs1 _ _ _ ys1 _ ((oL24.below yW24_W48).below zz55).rd oL55.rd p1 ((oR24.below yW24_W48).below zz55).rd oR55.rd p1').mono ?_; rintro e W56 ⟨rfl, z56⟩; have zz56 : Below W48.heap.size W48 W56 := zz55.trans (z56.mono zz55.size)))
    rw [sameConfigB_self]
    clear uc49 uc50 uc51 uc52 uc53 uc54
    clear oL55 oR55 z55 zz55 z56
    have TM0 : Hid (135 ∈ [135, 2]) := Lib.hid (by decide)
    have TI0 : Hid (2 ∈ [135, 2]) := Lib.hid (by decide)
    have TN_Machine : Hid (30 ∉ [135, 2]) := Lib.hid (by decide)
    have TL_Machine : Hid (24 ∉ [135, 2]) := Lib.hid (by decide)
    have TN_Config : Hid (38 ∉ [135, 2]) := Lib.hid (by decide)
    have TL_Config : Hid (36 ∉ [135, 2]) := Lib.hid (by decide)
    have hs_W1 : W0.heap.size ≤ W1.heap.size := z1.size
    have hs_W5 : W1.heap.size ≤ W5.heap.size := z5.size
    have hs_W15 : W5.heap.size ≤ W15.heap.size := z15.size
    have hs_W19 : W15.heap.size ≤ W19.heap.size := z19.size
    have hs_W20 : W19.heap.size ≤ W20.heap.size := z20.size
    have hs_W24 : W20.heap.size ≤ W24.heap.size := z24.size
    have hs_W25 : W24.heap.size ≤ W25.heap.size := z25.size
    have hs_W32 : W25.heap.size ≤ W32.heap.size := z32.size
    have hs_W33 : W32.heap.size ≤ W33.heap.size := z33.size
    have hs_W40 : W33.heap.size ≤ W40.heap.size := z40.size
    have hs_W48 : W40.heap.size ≤ W48.heap.size := zz48.size
    have hs_W56 : W48.heap.size ≤ W56.heap.size := zz56.size
    have yW19_W48 : Below W19.heap.size W19 W48 := yW19_W40.trans (zz48.mono yW19_W40.size)
    have yW19_W56 : Below W19.heap.size W19 W56 := yW19_W48.trans (zz56.mono yW19_W48.size)
    have m0 : Mk W56 W15.heap.size W25.heap.size 135 3 B19 n0 := (((o19.below yW19_W56)).mono (by omega)).mk (fun b hb => by have := o19.blk_lt b hb; omega)
    have yW24_W56 : Below W24.heap.size W24 W56 := yW24_W48.trans (zz56.mono yW24_W48.size)
    have m1a : Mk W56 W15.heap.size W25.heap.size 2 1 L24 m1 := (((oL24.below yW24_W56)).mono (by omega)).mk (fun b hb => by have := oL24.blk_lt b hb; omega)
    have m1b : Mk W56 W15.heap.size W25.heap.size 2 1 R24 l1 := (((oR24.below yW24_W56)).mono (by omega)).mk (fun b hb => by have := oR24.blk_lt b hb; omega)
    have yW0_W56 : Below W0.heap.size W0 W56 := yW0_W48.trans (zz56.mono yW0_W48.size)
    have yW20_W48 : Below W20.heap.size W20 W48 := yW20_W40.trans (zz48.mono yW20_W40.size)
    have yW20_W56 : Below W20.heap.size W20 W56 := yW20_W48.trans (zz56.mono yW20_W48.size)
    have yW25_W56 : Below W25.heap.size W25 W56 := yW25_W48.trans (zz56.mono yW25_W48.size)
    have yw_W56 : Below w.heap.size w W56 := yw_W48.trans (zz56.mono yw_W48.size)
    have yW32_W40 : Below W32.heap.size W32 W40 := z33.trans (z40.mono z33.size)
    have yW32_W48 : Below W32.heap.size W32 W48 := yW32_W40.trans (zz48.mono yW32_W40.size)
    have yW32_W56 : Below W32.heap.size W32 W56 := yW32_W48.trans (zz56.mono yW32_W48.size)
    have yW15_W40 : Below W15.heap.size W15 W40 := yW15_W33.trans (z40.mono yW15_W33.size)
    have yW15_W48 : Below W15.heap.size W15 W48 := yW15_W40.trans (zz48.mono yW15_W40.size)
    have yW15_W56 : Below W15.heap.size W15 W56 := yW15_W48.trans (zz56.mono yW15_W48.size)
    have io0 := (oL32.below yW32_W56)
    have io1 := (oR32.below yW32_W56)
    have so0 := (oL15.below yW15_W56)
    have so1 := (oR15.below yW15_W56)
    have yW33_W48 : Below W33.heap.size W33 W48 := z40.trans (zz48.mono z40.size)
    have yW33_W56 : Below W33.heap.size W33 W56 := yW33_W48.trans (zz56.mono yW33_W48.size)
    have ibm := (ib.below' yW33_W56)
    have sbm := (bx15.below' yW15_W56)
    have bm0 := (bb0.below' yW0_W56)
    have cm0 := (cb0.below' yW20_W56)
    have bm1 := (bb1.below' yW0_W56)
    have cm1 := (cb1.below' yW25_W56)
    have cq0 := cm0
    have uc57 : W56.cell? ⟨W19.heap.size, 0, none⟩ = some (.int .i64 sy0) := cq0.cell 0
    have uc58 : W56.cell? ⟨W19.heap.size, 1, none⟩ = some (.int .i64 st0) := cq0.cell 1
    have uc59 : W56.cell? ⟨W19.heap.size, 2, none⟩ = some (.slice B19 n0 n0) := cq0.cell 2
    go_wp2_with fail
    refine (markMachine_m [135, 2] _ _ _ _ _ _ _ W15.heap.size W25.heap.size m0 p0 TM0.out TN_Machine.out (by omega) (by omega)).mono ?_
    rintro e W60 ⟨rfl, f60⟩
    clear uc57 uc58 uc59
    have cq1 := cm1.mkf f60 TN_Config.out
    have uc61 : W60.cell? ⟨W24.heap.size, 0, none⟩ = some (.int .i64 q1) := cq1.cell 0
    have uc62 : W60.cell? ⟨W24.heap.size, 1, none⟩ = some (.slice L24 m1 m1) := cq1.cell 1
    have uc63 : W60.cell? ⟨W24.heap.size, 2, none⟩ = some (.slice R24 l1 l1) := cq1.cell 2
    go_wp2_with fail
    refine (markConfig_m [135, 2] _ _ _ _ _ _ _ _ _ W15.heap.size W25.heap.size (m1a.mkf f60) p1 (m1b.mkf f60) p1' TI0.out TN_Config.out (by omega) (by omega)).mono ?_
    rintro e W64 ⟨rfl, f64⟩
    clear uc61 uc62 uc63
    have ff64 := f60.trans f64
    have io0 := io0.mkf_far ff64 (fun b hb => .inr (oL32.blk_ge b hb))
    have io1 := io1.mkf_far ff64 (fun b hb => .inr (oR32.blk_ge b hb))
    have so0 := so0.mkf_far ff64 (fun b hb => .inl (oL15.blk_lt b hb))
    have so1 := so1.mkf_far ff64 (fun b hb => .inl (oR15.blk_lt b hb))
    have ibm := ibm.mkf ff64 TN_Config.out
    have sbm := sbm.mkf ff64 TN_Config.out
    have bm0 := bm0.mkf ff64 TL_Machine.out
    have bm1 := bm1.mkf ff64 TL_Config.out
    have yM : Below w.heap.size w W64 := yw_W56.trans (ff64.below yw_W15.size yw_W56.size)
    have hs_W64 : W56.heap.size ≤ W64.heap.size := ff64.size
    clear ff64
    have uc65 : W64.cell? ⟨W32.heap.size, 0, none⟩ = some (.int .i64 res.1.q) := ibm.cell 0
    have uc66 : W64.cell? ⟨W32.heap.size, 1, none⟩ = some (.slice L32 res.1.xs.length c32) := ibm.cell 1
    have uc67 : W64.cell? ⟨W32.heap.size, 2, none⟩ = some (.slice R32 res.1.ys.length d32) := ibm.cell 2
    have uc68 : W64.cell? ⟨g15, 0, none⟩ = some (.int .i64 res.1.q) := sbm.cell 0
    have uc69 : W64.cell? ⟨g15, 1, none⟩ = some (.slice L15 res.1.xs.length c15) := sbm.cell 1
    have uc70 : W64.cell? ⟨g15, 2, none⟩ = some (.slice R15 res.1.ys.length d15) := sbm.cell 2
    have gneg : ¬ ((1 : Int) + ((n0 * 3 : Nat) : Int) + ((m1 + l1 : Nat) : Int) < 0) := by omega
    go_wp2_with fail
    refine (eqConfig_any _ _ _ _ res.1.xs _ _ _ res.1.ys _ _ _ _ res.1.xs _ _ _ res.1.ys _ io0.rd so0.rd lx0 io1.rd so1.rd lx1).mono ?_
    rintro e W71 ⟨rfl, z71⟩
    rw [sameConfigB_self]
    clear uc65 uc66 uc67 uc68 uc69 uc70
    clear gneg
    have hs_W71 : W64.heap.size ≤ W71.heap.size := z71.size
    have uc72 : W71.cell? ⟨W32.heap.size, 0, none⟩ = some (.int .i64 res.1.q) := (ibm.below' z71).cell 0
    have uc73 : W71.cell? ⟨W32.heap.size, 1, none⟩ = some (.slice L32 res.1.xs.length c32) := (ibm.below' z71).cell 1
    have uc74 : W71.cell? ⟨W32.heap.size, 2, none⟩ = some (.slice R32 res.1.ys.length d32) := (ibm.below' z71).cell 2
    go_wp2_with fail
    refine (markConfig_c _ _ _ _ res.1.xs _ _ _ res.1.ys _ _ W25.heap.size W32.heap.size (io0.below z71) (io1.below z71) HAP32.out (fun b hb => oL32.blk_lt b hb) (fun b hb => oR32.blk_lt b hb) (by omega) lx0 lx1 (by omega) (by omega)).mono ?_
    rintro e W75 ⟨rfl, eL, eR, t75⟩
    clear uc72 uc73 uc74
    have so0 := (so0.below z71).touch t75 (fun b hb => .inl (by have := oL15.blk_lt b hb; omega))
    have so1 := (so1.below z71).touch t75 (fun b hb => .inl (by have := oR15.blk_lt b hb; omega))
    have bm0 := (bm0.below' z71).touch t75 (.inl (by have := bb0.lt; omega))
    have bm1 := (bm1.below' z71).touch t75 (.inl (by have := bb1.lt; omega))
    have ibm := (ibm.below' z71).touch t75 (.inr (Nat.le_refl _))
    have sbm := (sbm.below' z71).touch t75 (.inl (by have := bx15.lt; omega))
    have yw_W71 : Below w.heap.size w W71 := yM.trans (z71.mono yM.size)
    have hlow : w.heap.size ≤ W25.heap.size := by have := yw_W15.size; omega
    have yN : Below w.heap.size w W75 := yw_W71.trans (t75.below hlow yw_W71.size)
    have hs_W75 : W71.heap.size ≤ W75.heap.size := t75.size
    clear t75
    have uc76 : W75.cell? ⟨W32.heap.size, 0, none⟩ = some (.int .i64 res.1.q) := ibm.cell 0
    have uc77 : W75.cell? ⟨W32.heap.size, 1, none⟩ = some (.slice L32 res.1.xs.length c32) := ibm.cell 1
    have uc78 : W75.cell? ⟨W32.heap.size, 2, none⟩ = some (.slice R32 res.1.ys.length d32) := ibm.cell 2
    go_wp2_with fail
    refine (heldConfig_c _ _ _ _ _ _ _ _ _ eL.si eR.si lx0 lx1 (by omega) (by omega)).mono ?_
    rintro e W79 ⟨rfl, z79⟩
    clear uc76 uc77 uc78
    have gneg : ¬ ((1 : Int) + (res.1.xs.length : Int) + (res.1.ys.length : Int) < 0) := by omega
    have uc80 : W79.cell? ⟨w.heap.size, 0, none⟩ = some (.int .i64 sy0) := (bm0.below' z79).cell 0
    have uc81 : W79.cell? ⟨w.heap.size, 1, none⟩ = some (.int .i64 st0) := (bm0.below' z79).cell 1
    have uc82 : W79.cell? ⟨w.heap.size, 2, none⟩ = some (.slice A0 n0 k0) := (bm0.below' z79).cell 2
    have uc83 : W79.cell? ⟨(w.heap.size + 1), 0, none⟩ = some (.int .i64 q1) := (bm1.below' z79).cell 0
    have uc84 : W79.cell? ⟨(w.heap.size + 1), 1, none⟩ = some (.slice B1 m1 c1) := (bm1.below' z79).cell 1
    have uc85 : W79.cell? ⟨(w.heap.size + 1), 2, none⟩ = some (.slice C1 l1 d1) := (bm1.below' z79).cell 2
    clear uc80 uc81 uc82 uc83 uc84 uc85
    have uc86 : W79.cell? ⟨w.heap.size, 0, none⟩ = some (.int .i64 sy0) := (bm0.below' z79).cell 0
    have uc87 : W79.cell? ⟨w.heap.size, 1, none⟩ = some (.int .i64 st0) := (bm0.below' z79).cell 1
    have uc88 : W79.cell? ⟨w.heap.size, 2, none⟩ = some (.slice A0 n0 k0) := (bm0.below' z79).cell 2
    have uc89 : W79.cell? ⟨(w.heap.size + 1), 0, none⟩ = some (.int .i64 q1) := (bm1.below' z79).cell 0
    have uc90 : W79.cell? ⟨(w.heap.size + 1), 1, none⟩ = some (.slice B1 m1 c1) := (bm1.below' z79).cell 1
    have uc91 : W79.cell? ⟨(w.heap.size + 1), 2, none⟩ = some (.slice C1 l1 d1) := (bm1.below' z79).cell 2
    have yw_W79 : Below w.heap.size w W79 := yN.trans (z79.mono yN.size)
    have KEEPB : Hid (∀ cur, Below W79.heap.size W79 cur → cur.cell? ⟨w.heap.size, 0, none⟩ = some (.int .i64 sy0) ∧ cur.cell? ⟨w.heap.size, 1, none⟩ = some (.int .i64 st0) ∧ cur.cell? ⟨w.heap.size, 2, none⟩ = some (.slice A0 n0 k0) ∧ cur.cell? ⟨(w.heap.size + 1), 0, none⟩ = some (.int .i64 q1) ∧ cur.cell? ⟨(w.heap.size + 1), 1, none⟩ = some (.slice B1 m1 c1) ∧ cur.cell? ⟨(w.heap.size + 1), 2, none⟩ = some (.slice C1 l1 d1)) := fun cur h =>
      ⟨((bm0.below' z79).below' h).cell 0, ((bm0.below' z79).below' h).cell 1, ((bm0.below' z79).below' h).cell 2, ((bm1.below' z79).below' h).cell 0, ((bm1.below' z79).below' h).cell 1, ((bm1.below' z79).below' h).cell 2⟩
    go_upto_region 31 with fail
    go_cut [21, 22, 23, 24] (fun s21 s22 s23 s24 wx => ConfBox4 W79.heap.size W79 s21 s22 s23 s24 res wx)
    case first =>
      go_region_held3 (fun w' => w'.cell? ⟨w.heap.size, 0, none⟩ = some (.int .i64 sy0) ∧ w'.cell? ⟨w.heap.size, 1, none⟩ = some (.int .i64 st0) ∧ w'.cell? ⟨w.heap.size, 2, none⟩ = some (.slice A0 n0 k0) ∧ w'.cell? ⟨(w.heap.size + 1), 0, none⟩ = some (.int .i64 q1) ∧ w'.cell? ⟨(w.heap.size + 1), 1, none⟩ = some (.slice B1 m1 c1) ∧ w'.cell? ⟨(w.heap.size + 1), 2, none⟩ = some (.slice C1 l1 d1))
        (first
          | (go_keep; done)
          | (exact KEEPB.out _ (by first
              | exact zz94
              | exact zz94.alloc zz94.size _
              | exact zz93
              | exact zz93.alloc zz93.size _
              | exact zz92
              | exact zz92.alloc zz92.size _
              | exact conf_below (zz94.alloc zz94.size _) zz94.size _ _ _
              | exact conf_below zz94 BX.out.1 _ _ _)))
        (first
          | (go_at_call 17; refine (toMachine_any _ _ _ _ _ rs0 _ ((hr0.below yw_W79).drewN 1) p0).mono ?_; rintro e W92 ⟨B92, rfl, o92, z92⟩; have zz92 : Below W79.heap.size W79 W92 := below_undrew z92)
          | (go_at_call 17; refine (toMachine_any _ _ _ _ _ rs0 _ (((hr0.below yw_W79).alloc _).drewN 1) p0).mono ?_; rintro e W92 ⟨B92, rfl, o92, z92⟩; have zz92 : Below W79.heap.size W79 W92 := below_of_alloc (below_undrew z92); have BX := Lib.hid ((((Bx.new W79 38 #[.int .i64 0, .slice none 0 0, .slice none 0 0] (Nat.le_refl _)).drewN 1)).below' z92))
          | (go_at_call 22; have hq := BX; refine (toConfig_any _ _ _ _ xs1 _ _ _ ys1 _ ((hx1.below yw_W79).below zz92) p1 ((hy1.below yw_W79).below zz92) p1').mono ?_; rintro e W93 ⟨L93, R93, rfl, oL93, oR93, z93⟩; have zz93 : Below W79.heap.size W79 W93 := zz92.trans (z93.mono zz92.size); have BX2 := Lib.hid (BX.out.below' z93); clear hq BX; have BX := BX2; clear BX2; have o92 := o92.below z93)
          | (go_at_call 22; refine (toConfig_any _ _ _ _ xs1 _ _ _ ys1 _ ((hx1.below yw_W79).below zz92) p1 ((hy1.below yw_W79).below zz92) p1').mono ?_; rintro e W93 ⟨L93, R93, rfl, oL93, oR93, z93⟩; have zz93 : Below W79.heap.size W79 W93 := zz92.trans (z93.mono zz92.size); have o92 := o92.below z93)
          | (go_at_call 22; refine (toConfig_any _ _ _ _ xs1 _ _ _ ys1 _ (((hx1.below yw_W79).below zz92).alloc _) p1 (((hy1.below yw_W79).below zz92).alloc _) p1').mono ?_; rintro e W93 ⟨L93, R93, rfl, oL93, oR93, z93⟩; have zz93 : Below W79.heap.size W79 W93 := zz92.trans ((below_of_alloc z93).mono zz92.size); have BX := Lib.hid ((Bx.new W92 38 #[.int .i64 0, .slice none 0 0, .slice none 0 0] zz92.size).below' z93); have o92 := (o92.alloc (.cells #[.int .i64 0, .slice none 0 0, .slice none 0 0] 38)).below z93)
          | (go_at_call 34; have hq := BX; (with_reducible refine (runMachine_any _ _ _ _ _ rs0 _ _ _ _ xs1 _ _ _ ys1 _ _ o92.as3 oL93.asI oR93.asI p0 p1 p1').mono ?_); rw [← HRES.out]; rintro e W94 ⟨L94, c94, R94, d94, rfl, oL94, oR94, hap94, z94⟩; have zz94 : Below W79.heap.size W79 W94 := zz93.trans (z94.mono zz93.size); have BX2 := Lib.hid (BX.out.below' z94); clear hq BX; have BX := BX2; clear BX2; have oL94 := oL94.mono zz93.size; have oR94 := oR94.mono zz93.size; have x0 : _ = some (Value.int .i64 0) := BX.out.2.cell 0; have f0 := BX.out.2.frozen 0; have x1 : _ = some (Value.slice none 0 0) := BX.out.2.cell 1; have f1 := BX.out.2.frozen 1; have x2 : _ = some (Value.slice none 0 0) := BX.out.2.cell 2; have f2 := BX.out.2.frozen 2)
          | (go_at_call 34; (with_reducible refine (runMachine_any _ _ _ _ _ rs0 _ _ _ _ xs1 _ _ _ ys1 _ _ o92.as3 oL93.asI oR93.asI p0 p1 p1').mono ?_); rw [← HRES.out]; rintro e W94 ⟨L94, c94, R94, d94, rfl, oL94, oR94, hap94, z94⟩; have zz94 : Below W79.heap.size W79 W94 := zz93.trans (z94.mono zz93.size); have oL94 := oL94.mono zz93.size; have oR94 := oR94.mono zz93.size)
          | (go_at_call 34; (with_reducible refine (runMachine_any _ _ _ _ _ rs0 _ _ _ _ xs1 _ _ _ ys1 _ _ (o92.alloc _).as3 (oL93.alloc _).asI (oR93.alloc _).asI p0 p1 p1').mono ?_); rw [← HRES.out]; rintro e W94 ⟨L94, c94, R94, d94, rfl, oL94, oR94, hap94, z94⟩; have zz94 : Below W79.heap.size W79 W94 := zz93.trans ((below_of_alloc z94).mono zz93.size); have BX := Lib.hid ((Bx.new W93 38 #[.int .i64 0, .slice none 0 0, .slice none 0 0] zz93.size).below' z94); have oL94 := oL94.mono (show W79.heap.size ≤ _ from Nat.le_trans zz93.size (by simp)); have oR94 := oR94.mono (show W79.heap.size ≤ _ from Nat.le_trans zz93.size (by simp)); have x0 : _ = some (Value.int .i64 0) := BX.out.2.cell 0; have f0 := BX.out.2.frozen 0; have x1 : _ = some (Value.slice none 0 0) := BX.out.2.cell 1; have f1 := BX.out.2.frozen 1; have x2 : _ = some (Value.slice none 0 0) := BX.out.2.cell 2; have f2 := BX.out.2.frozen 2))
      all_goals
        go_wp2_with fail
        go_meet
        first
          | exact ⟨W94.heap.size, L94, c94, R94, d94, rfl, rfl, rfl, rfl, zz94.size, Blk.new W94 _ _, oL94.alloc _, oR94.alloc _, hap94, zz94.alloc zz94.size _⟩
          | exact ⟨_, L94, c94, R94, d94, rfl, rfl, rfl, rfl, BX.out.1, conf_set BX.out.2 _ _ _, conf_far2 BX.out.2 oL94 _ _ _, conf_far2 BX.out.2 oR94 _ _ _, hap94, conf_below zz94 BX.out.1 _ _ _⟩
    case rest =>
      obtain ⟨g95, L95, c95, R95, d95, rfl, rfl, rfl, rfl, hg95, bx95, oL95, oR95, hap95, z95⟩ := hcut
      clear uc86 uc87 uc88 uc89 uc90 uc91
      clear KEEPB
      have HAP95 := Lib.hid hap95
      clear hap95
      obtain ⟨W95, hWc⟩ : ∃ W, W = wc := ⟨_, rfl⟩
      rw [← hWc] at oL95 oR95 z95 bx95
      rw [← hWc]
      clear hWc
      have uc96 : W95.cell? ⟨g95, 0, none⟩ = some (.int .i64 res.1.q) := bx95.cell 0
      have uc97 : W95.cell? ⟨g95, 1, none⟩ = some (.slice L95 res.1.xs.length c95) := bx95.cell 1
      have uc98 : W95.cell? ⟨g95, 2, none⟩ = some (.slice R95 res.1.ys.length d95) := bx95.cell 2
      have yW75_W95 : Below W75.heap.size W75 W95 := z79.trans (z95.mono z79.size)
      have uc99 : W95.cell? ⟨g15, 0, none⟩ = some (.int .i64 res.1.q) := (sbm.below' yW75_W95).cell 0
      have uc100 : W95.cell? ⟨g15, 1, none⟩ = some (.slice L15 res.1.xs.length c15) := (sbm.below' yW75_W95).cell 1
      have uc101 : W95.cell? ⟨g15, 2, none⟩ = some (.slice R15 res.1.ys.length d15) := (sbm.below' yW75_W95).cell 2
      go_wp2_with fail
      refine (eqConfig_any _ _ _ _ res.1.xs _ _ _ res.1.ys _ _ _ _ res.1.xs _ _ _ res.1.ys _ oL95.rd (so0.below yW75_W95).rd lx0 oR95.rd (so1.below yW75_W95).rd lx1).mono ?_
      rintro e W102 ⟨rfl, z102⟩
      rw [sameConfigB_self]
      clear uc96 uc97 uc98 uc99 uc100 uc101
      have yW75_W102 : Below W75.heap.size W75 W102 := yW75_W95.trans (z102.mono yW75_W95.size)
      have uc103 : W102.cell? ⟨W32.heap.size, 0, none⟩ = some (.int .i64 res.1.q) := (ibm.below' yW75_W102).cell 0
      have uc104 : W102.cell? ⟨W32.heap.size, 1, none⟩ = some (.slice L32 res.1.xs.length c32) := (ibm.below' yW75_W102).cell 1
      have uc105 : W102.cell? ⟨W32.heap.size, 2, none⟩ = some (.slice R32 res.1.ys.length d32) := (ibm.below' yW75_W102).cell 2
      go_wp2_with fail
      refine (heldConfig_c _ _ _ _ _ _ _ _ _ (eL.below yW75_W102).si (eR.below yW75_W102).si lx0 lx1 (by omega) (by omega)).mono ?_
      rintro e W106 ⟨rfl, z106⟩
      clear uc103 uc104 uc105
      have yw_W95 : Below w.heap.size w W95 := yw_W79.trans (z95.mono yw_W79.size)
      have yw_W102 : Below w.heap.size w W102 := yw_W95.trans (z102.mono yw_W95.size)
      have yw_W106 : Below w.heap.size w W106 := yw_W102.trans (z106.mono yw_W102.size)
      go_wp2_with fail
      go_ret
      exact ⟨rfl, yw_W106⟩
end Go.Proofs.Ytbedghebckflmaa
