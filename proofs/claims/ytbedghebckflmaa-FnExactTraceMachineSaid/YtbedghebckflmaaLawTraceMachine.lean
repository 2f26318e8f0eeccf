/-
  The walk of the law FnExactTraceMachine: it returns true, and nothing that was there before has turned.
-/
import Derived.Test.YtbedghebckflmaaTraceS
import Derived.Test.YtbedghebckflmaaHelpMachine
import Derived.Test.YtbedghebckflmaaHelpConfigS
namespace Go.Proofs.Ytbedghebckflmaa
open Go.RowKit

set_option maxRecDepth 100000 in
set_option maxHeartbeats 16000000 in
theorem lawTraceMachine (sy0 st0 : Int) (A0 : Option Addr) (n0 k0 : Nat) (rs0 : List R3) (q1 : Int) (B1 : Option Addr) (m1 c1 : Nat) (xs1 : List Int) (C1 : Option Addr) (l1 d1 : Nat) (ys1 : List Int) (b2 : Int) (w : World) (hr0 : S3 w A0 n0 rs0) (hx1 : SI w B1 m1 xs1) (hy1 : SI w C1 l1 ys1)  (hb0 : n0 ≤ 9223372036854775807) (hb1 : m1 ≤ 9223372036854775807) (hb1' : l1 ≤ 9223372036854775807)  :
    Calls Try.prog 10 #[.agg #[.int .i64 sy0, .int .i64 st0, .slice A0 n0 k0], .agg #[.int .i64 q1, .slice B1 m1 c1, .slice C1 l1 d1], .int .i64 b2] w fun e w' => e = .returned (.bool true) ∧ Below w.heap.size w w' := by
  obtain ⟨W0, hW0⟩ : ∃ W, W = (w.alloc (.cells #[.int .i64 sy0, .int .i64 st0, .slice A0 n0 k0] 24)).alloc (.cells #[.int .i64 q1, .slice B1 m1 c1, .slice C1 l1 d1] 36) := ⟨_, rfl⟩
  have s1 : (w.alloc (.cells #[.int .i64 sy0, .int .i64 st0, .slice A0 n0 k0] 24)).heap.size = w.heap.size + 1 := by simp
  have bb0 : Blk W0 w.heap.size 24 #[.int .i64 sy0, .int .i64 st0, .slice A0 n0 k0] := by rw [hW0]; exact (Blk.new w _ _).alloc _
  have bb1 : Blk W0 (w.heap.size + 1) 36 #[.int .i64 q1, .slice B1 m1 c1, .slice C1 l1 d1] := by rw [hW0, ← s1]; exact Blk.new _ _ _
  have z0 : Below w.heap.size w W0 := by rw [hW0]; exact ((Below.refl _ _).alloc (Nat.le_refl _) _).alloc (by simp) _
  have HW0 := Lib.hid hW0
  clear hW0 s1
  go_enter Try.func10, Try.ntmps10
  go_wp2_with fail
  rw [← HW0.out]
  refine (szMachine_any _ _ _ _ _ _ _ hb0 (by omega) (by omega)).mono ?_
  rintro e W1 ⟨v1, rfl, va1, vb1, vc1, z1⟩
  have VC1 := Lib.hid vc1
  clear vc1
  have yw_W1 : Below w.heap.size w W1 := z0.trans (z1.mono z0.size)
  have uc2 : W1.cell? ⟨(w.heap.size + 1), 0, none⟩ = some (.int .i64 q1) := (bb1.below' z1).cell 0
  have uc3 : W1.cell? ⟨(w.heap.size + 1), 1, none⟩ = some (.slice B1 m1 c1) := (bb1.below' z1).cell 1
  have uc4 : W1.cell? ⟨(w.heap.size + 1), 2, none⟩ = some (.slice C1 l1 d1) := (bb1.below' z1).cell 2
  by_cases hneg1 : v1 < 0
  · go_wp2_with fail
    go_ret
    exact ⟨rfl, yw_W1⟩
  go_wp2_with fail
  refine (szConfig_any _ _ _ _ _ _ _ _ _ hb1 hb1' (by omega) (by omega)).mono ?_
  rintro e W5 ⟨v5, rfl, va5, vb5, vc5, z5⟩
  have VC5 := Lib.hid vc5
  clear vc5
  clear uc2 uc3 uc4
  have yw_W5 : Below w.heap.size w W5 := yw_W1.trans (z5.mono yw_W1.size)
  by_cases hneg5 : v5 < 0
  · go_wp2_with fail
    go_ret
    exact ⟨rfl, yw_W5⟩
  have hsm : n0 ≤ 1048576 ∧ m1 ≤ 1048576 ∧ l1 ≤ 1048576 := by
    have t1 := VC1.out (by omega)
    have t5 := VC5.out (by omega)
    omega
  obtain ⟨p0, p1, p1'⟩ := hsm
  clear VC1
  clear VC5
  have yW0_W5 : Below W0.heap.size W0 W5 := z1.trans (z5.mono z1.size)
  have uc6 : W5.cell? ⟨w.heap.size, 0, none⟩ = some (.int .i64 sy0) := (bb0.below' yW0_W5).cell 0
  have uc7 : W5.cell? ⟨w.heap.size, 1, none⟩ = some (.int .i64 st0) := (bb0.below' yW0_W5).cell 1
  have uc8 : W5.cell? ⟨w.heap.size, 2, none⟩ = some (.slice A0 n0 k0) := (bb0.below' yW0_W5).cell 2
  have uc9 : W5.cell? ⟨(w.heap.size + 1), 0, none⟩ = some (.int .i64 q1) := (bb1.below' yW0_W5).cell 0
  have uc10 : W5.cell? ⟨(w.heap.size + 1), 1, none⟩ = some (.slice B1 m1 c1) := (bb1.below' yW0_W5).cell 1
  have uc11 : W5.cell? ⟨(w.heap.size + 1), 2, none⟩ = some (.slice C1 l1 d1) := (bb1.below' yW0_W5).cell 2
  obtain ⟨res, hres⟩ : ∃ res, res = traceMachF sy0 st0 rs0 q1 xs1 ys1 b2 := ⟨_, rfl⟩
  have HRES := Lib.hid hres
  clear hres
  go_wp2_with fail
  go_region_held3 (fun w' => w'.cell? ⟨w.heap.size, 0, none⟩ = some (.int .i64 sy0) ∧ w'.cell? ⟨w.heap.size, 1, none⟩ = some (.int .i64 st0) ∧ w'.cell? ⟨w.heap.size, 2, none⟩ = some (.slice A0 n0 k0) ∧ w'.cell? ⟨(w.heap.size + 1), 0, none⟩ = some (.int .i64 q1) ∧ w'.cell? ⟨(w.heap.size + 1), 1, none⟩ = some (.slice B1 m1 c1) ∧ w'.cell? ⟨(w.heap.size + 1), 2, none⟩ = some (.slice C1 l1 d1))
    (first
      | (go_keep; done)
      | (exact ⟨((bb0.below' yW0_W5).below' zz14).cell 0, ((bb0.below' yW0_W5).below' zz14).cell 1, ((bb0.below' yW0_W5).below' zz14).cell 2, ((bb1.below' yW0_W5).below' zz14).cell 0, ((bb1.below' yW0_W5).below' zz14).cell 1, ((bb1.below' yW0_W5).below' zz14).cell 2⟩)
      | (exact ⟨((bb0.below' yW0_W5).below' zz13).cell 0, ((bb0.below' yW0_W5).below' zz13).cell 1, ((bb0.below' yW0_W5).below' zz13).cell 2, ((bb1.below' yW0_W5).below' zz13).cell 0, ((bb1.below' yW0_W5).below' zz13).cell 1, ((bb1.below' yW0_W5).below' zz13).cell 2⟩)
      | (exact ⟨((bb0.below' yW0_W5).below' zz12).cell 0, ((bb0.below' yW0_W5).below' zz12).cell 1, ((bb0.below' yW0_W5).below' zz12).cell 2, ((bb1.below' yW0_W5).below' zz12).cell 0, ((bb1.below' yW0_W5).below' zz12).cell 1, ((bb1.below' yW0_W5).below' zz12).cell 2⟩))
    (first
      | (go_at_call 17; refine (toMachine_any _ _ _ _ _ rs0 _ ((hr0.below yw_W5).drewN 1) p0).mono ?_; rintro e W12 ⟨B12, rfl, o12, z12⟩; have zz12 : Below W5.heap.size W5 W12 := below_undrew z12)
      | (go_at_call 22; refine (toConfig_any _ _ _ _ xs1 _ _ _ ys1 _ ((hx1.below yw_W5).below zz12) p1 ((hy1.below yw_W5).below zz12) p1').mono ?_; rintro e W13 ⟨L13, R13, rfl, oL13, oR13, z13⟩; have zz13 : Below W5.heap.size W5 W13 := zz12.trans (z13.mono zz12.size))
      | (go_at_call 46; (with_reducible refine (traceMachineS_any _ _ _ _ _ rs0 _ _ _ _ xs1 _ _ _ ys1 _ _ (o12.below z13).as3 oL13.asI oR13.asI p0 p1 p1').mono ?_); rw [← HRES.out]; rintro e W14 ⟨A14r, c14r, us14r, rfl, oR14, hn14r, z14⟩; have zz14 : Below W5.heap.size W5 W14 := zz13.trans (z14.mono zz13.size)))
  clear uc6 uc7 uc8 uc9 uc10 uc11
  have HN14r := Lib.hid hn14r
  clear hn14r
  have hlen : res.1.length ≤ 1000 ∧ ∀ x ∈ res.1, x.xs.length ≤ 200 ∧ x.ys.length ≤ 200 := by rw [HRES.out]; exact ⟨Nat.le_trans (traceMachF_len sy0 st0 rs0 q1 xs1 ys1 b2) (by decide), traceMachF_side sy0 st0 rs0 q1 xs1 ys1 b2⟩
  obtain ⟨lx0, lx1⟩ := hlen
  have LXS := Lib.hid lx1
  clear lx1
  have yW0_W14 : Below W0.heap.size W0 W14 := yW0_W5.trans (zz14.mono yW0_W5.size)
  have uc15 : W14.cell? ⟨w.heap.size, 0, none⟩ = some (.int .i64 sy0) := (bb0.below' yW0_W14).cell 0
  have uc16 : W14.cell? ⟨w.heap.size, 1, none⟩ = some (.int .i64 st0) := (bb0.below' yW0_W14).cell 1
  have uc17 : W14.cell? ⟨w.heap.size, 2, none⟩ = some (.slice A0 n0 k0) := (bb0.below' yW0_W14).cell 2
  go_wp2_with fail
  have yw_W14 : Below w.heap.size w W14 := yw_W5.trans (zz14.mono yw_W5.size)
  refine (toMachine_any _ _ _ _ _ rs0 _ (hr0.below yw_W14) p0).mono ?_
  rintro e W18 ⟨B18, rfl, o18, z18⟩
  clear uc15 uc16 uc17
  obtain ⟨W19, hW19⟩ : ∃ W, W = W18.alloc (.cells #[.int .i64 sy0, .int .i64 st0, .slice B18 n0 n0] 30) := ⟨_, rfl⟩
  have cb0 : Blk W19 W18.heap.size 30 #[.int .i64 sy0, .int .i64 st0, .slice B18 n0 n0] := by rw [hW19]; exact Blk.new W18 _ _
  have z19 : Below W18.heap.size W18 W19 := by rw [hW19]; exact (Below.refl _ _).alloc (Nat.le_refl _) _
  have HW19 := Lib.hid hW19
  clear hW19
  have yW0_W18 : Below W0.heap.size W0 W18 := yW0_W14.trans (z18.mono yW0_W14.size)
  have yW0_W19 : Below W0.heap.size W0 W19 := yW0_W18.trans (z19.mono yW0_W18.size)
  have uc20 : W19.cell? ⟨(w.heap.size + 1), 0, none⟩ = some (.int .i64 q1) := (bb1.below' yW0_W19).cell 0
  have uc21 : W19.cell? ⟨(w.heap.size + 1), 1, none⟩ = some (.slice B1 m1 c1) := (bb1.below' yW0_W19).cell 1
  have uc22 : W19.cell? ⟨(w.heap.size + 1), 2, none⟩ = some (.slice C1 l1 d1) := (bb1.below' yW0_W19).cell 2
  go_upto_region 10 with fail
  rw [← HW19.out]
  go_wp2_with fail
  have yw_W18 : Below w.heap.size w W18 := yw_W14.trans (z18.mono yw_W14.size)
  have yw_W19 : Below w.heap.size w W19 := yw_W18.trans (z19.mono yw_W18.size)
  refine (toConfig_any _ _ _ _ xs1 _ _ _ ys1 _ (hx1.below yw_W19) p1 (hy1.below yw_W19) p1').mono ?_
  rintro e W23 ⟨L23, R23, rfl, oL23, oR23, z23⟩
  clear uc20 uc21 uc22
  obtain ⟨W24, hW24⟩ : ∃ W, W = W23.alloc (.cells #[.int .i64 q1, .slice L23 m1 m1, .slice R23 l1 l1] 38) := ⟨_, rfl⟩
  have cb1 : Blk W24 W23.heap.size 38 #[.int .i64 q1, .slice L23 m1 m1, .slice R23 l1 l1] := by rw [hW24]; exact Blk.new W23 _ _
  have z24 : Below W23.heap.size W23 W24 := by rw [hW24]; exact (Below.refl _ _).alloc (Nat.le_refl _) _
  have HW24 := Lib.hid hW24
  clear hW24
  have yW19_W24 : Below W19.heap.size W19 W24 := z23.trans (z24.mono z23.size)
  have uc25 : W24.cell? ⟨W18.heap.size, 0, none⟩ = some (.int .i64 sy0) := (cb0.below' yW19_W24).cell 0
  have uc26 : W24.cell? ⟨W18.heap.size, 1, none⟩ = some (.int .i64 st0) := (cb0.below' yW19_W24).cell 1
  have uc27 : W24.cell? ⟨W18.heap.size, 2, none⟩ = some (.slice B18 n0 n0) := (cb0.below' yW19_W24).cell 2
  have uc28 : W24.cell? ⟨W23.heap.size, 0, none⟩ = some (.int .i64 q1) := cb1.cell 0
  have uc29 : W24.cell? ⟨W23.heap.size, 1, none⟩ = some (.slice L23 m1 m1) := cb1.cell 1
  have uc30 : W24.cell? ⟨W23.heap.size, 2, none⟩ = some (.slice R23 l1 l1) := cb1.cell 2
  go_upto_region 11 with fail
  rw [← HW24.out]
  go_wp2_with fail
  have yW18_W23 : Below W18.heap.size W18 W23 := z19.trans (z23.mono z19.size)
  have yW18_W24 : Below W18.heap.size W18 W24 := yW18_W23.trans (z24.mono yW18_W23.size)
  refine (traceMachineI_any _ _ _ _ _ rs0 _ _ _ _ xs1 _ _ _ ys1 _ _ (o18.below yW18_W24).as3 (oL23.below z24).asI (oR23.below z24).asI p0 p1 p1').mono ?_
  rw [← HRES.out]
  rintro e W31 ⟨A31r, c31r, us31r, rfl, oR31, hn31r, z31⟩
  clear uc25 uc26 uc27 uc28 uc29 uc30
  have HN31r := Lib.hid hn31r
  clear hn31r
  have yW14_W19 : Below W14.heap.size W14 W19 := z18.trans (z19.mono z18.size)
  have yW14_W23 : Below W14.heap.size W14 W23 := yW14_W19.trans (z23.mono yW14_W19.size)
  have yW14_W24 : Below W14.heap.size W14 W24 := yW14_W23.trans (z24.mono yW14_W23.size)
  have yW14_W31 : Below W14.heap.size W14 W31 := yW14_W24.trans (z31.mono yW14_W24.size)
  go_wp2_with fail
  refine (eqConfigS_c _ _ _ _ _ _ _ us31r us14r _ oR31 (oR14.below yW14_W31) (HN14r.out.trans HN31r.out.symm) (by rw [HN31r.out]; exact LXS.out) (by omega)).mono ?_
  rintro e W32 ⟨rfl, z32⟩
  skip
  have yW19_W31 : Below W19.heap.size W19 W31 := yW19_W24.trans (z31.mono yW19_W24.size)
  have yW19_W32 : Below W19.heap.size W19 W32 := yW19_W31.trans (z32.mono yW19_W31.size)
  have uc33 : W32.cell? ⟨W18.heap.size, 0, none⟩ = some (.int .i64 sy0) := (cb0.below' yW19_W32).cell 0
  have uc34 : W32.cell? ⟨W18.heap.size, 1, none⟩ = some (.int .i64 st0) := (cb0.below' yW19_W32).cell 1
  have uc35 : W32.cell? ⟨W18.heap.size, 2, none⟩ = some (.slice B18 n0 n0) := (cb0.below' yW19_W32).cell 2
  have yW0_W23 : Below W0.heap.size W0 W23 := yW0_W19.trans (z23.mono yW0_W19.size)
  have yW0_W24 : Below W0.heap.size W0 W24 := yW0_W23.trans (z24.mono yW0_W23.size)
  have yW0_W31 : Below W0.heap.size W0 W31 := yW0_W24.trans (z31.mono yW0_W24.size)
  have yW0_W32 : Below W0.heap.size W0 W32 := yW0_W31.trans (z32.mono yW0_W31.size)
  have uc36 : W32.cell? ⟨w.heap.size, 0, none⟩ = some (.int .i64 sy0) := (bb0.below' yW0_W32).cell 0
  have uc37 : W32.cell? ⟨w.heap.size, 1, none⟩ = some (.int .i64 st0) := (bb0.below' yW0_W32).cell 1
  have uc38 : W32.cell? ⟨w.heap.size, 2, none⟩ = some (.slice A0 n0 k0) := (bb0.below' yW0_W32).cell 2
  have yw_W23 : Below w.heap.size w W23 := yw_W19.trans (z23.mono yw_W19.size)
  have yw_W24 : Below w.heap.size w W24 := yw_W23.trans (z24.mono yw_W23.size)
  have yw_W31 : Below w.heap.size w W31 := yw_W24.trans (z31.mono yw_W24.size)
  have yw_W32 : Below w.heap.size w W32 := yw_W31.trans (z32.mono yw_W31.size)
  have yW18_W31 : Below W18.heap.size W18 W31 := yW18_W24.trans (z31.mono yW18_W24.size)
  have yW18_W32 : Below W18.heap.size W18 W32 := yW18_W31.trans (z32.mono yW18_W31.size)
  go_wp2_with fail
  go_region_held3 (fun w' => w'.cell? ⟨W18.heap.size, 0, none⟩ = some (.int .i64 sy0) ∧ w'.cell? ⟨W18.heap.size, 1, none⟩ = some (.int .i64 st0) ∧ w'.cell? ⟨W18.heap.size, 2, none⟩ = some (.slice B18 n0 n0) ∧ w'.cell? ⟨w.heap.size, 0, none⟩ = some (.int .i64 sy0) ∧ w'.cell? ⟨w.heap.size, 1, none⟩ = some (.int .i64 st0) ∧ w'.cell? ⟨w.heap.size, 2, none⟩ = some (.slice A0 n0 k0))
    (first
      | (go_keep; done)
      | (exact ⟨((cb0.below' yW19_W32).below' zz40).cell 0, ((cb0.below' yW19_W32).below' zz40).cell 1, ((cb0.below' yW19_W32).below' zz40).cell 2, ((bb0.below' yW0_W32).below' zz40).cell 0, ((bb0.below' yW0_W32).below' zz40).cell 1, ((bb0.below' yW0_W32).below' zz40).cell 2⟩)
      | (exact ⟨((cb0.below' yW19_W32).below' zz39).cell 0, ((cb0.below' yW19_W32).below' zz39).cell 1, ((cb0.below' yW19_W32).below' zz39).cell 2, ((bb0.below' yW0_W32).below' zz39).cell 0, ((bb0.below' yW0_W32).below' zz39).cell 1, ((bb0.below' yW0_W32).below' zz39).cell 2⟩))
    (first
      | (go_at_call 17; refine (toMachine_any _ _ _ _ _ rs0 _ ((hr0.below yw_W32).drewN 1) p0).mono ?_; rintro e W39 ⟨B39, rfl, o39, z39⟩; have zz39 : Below W32.heap.size W32 W39 := below_undrew z39)
      | (go_at_call 19; refine (eqMachine_any _ _ _ _ _ rs0 _ _ _ _ _ rs0 _ ((o18.below yW18_W32).below zz39).rd o39.rd p0).mono ?_; rintro e W40 ⟨rfl, z40⟩; have zz40 : Below W32.heap.size W32 W40 := zz39.trans (z40.mono zz39.size)))
  rw [sameMachineB_self]
  clear uc33 uc34 uc35 uc36 uc37 uc38
  clear o39 z39 zz39 z40
  have yW24_W32 : Below W24.heap.size W24 W32 := z31.trans (z32.mono z31.size)
  have yW24_W40 : Below W24.heap.size W24 W40 := yW24_W32.trans (zz40.mono yW24_W32.size)
  have uc41 : W40.cell? ⟨W23.heap.size, 0, none⟩ = some (.int .i64 q1) := (cb1.below' yW24_W40).cell 0
  have uc42 : W40.cell? ⟨W23.heap.size, 1, none⟩ = some (.slice L23 m1 m1) := (cb1.below' yW24_W40).cell 1
  have uc43 : W40.cell? ⟨W23.heap.size, 2, none⟩ = some (.slice R23 l1 l1) := (cb1.below' yW24_W40).cell 2
  have yW0_W40 : Below W0.heap.size W0 W40 := yW0_W32.trans (zz40.mono yW0_W32.size)
  have uc44 : W40.cell? ⟨(w.heap.size + 1), 0, none⟩ = some (.int .i64 q1) := (bb1.below' yW0_W40).cell 0
  have uc45 : W40.cell? ⟨(w.heap.size + 1), 1, none⟩ = some (.slice B1 m1 c1) := (bb1.below' yW0_W40).cell 1
  have uc46 : W40.cell? ⟨(w.heap.size + 1), 2, none⟩ = some (.slice C1 l1 d1) := (bb1.below' yW0_W40).cell 2
  have yw_W40 : Below w.heap.size w W40 := yw_W32.trans (zz40.mono yw_W32.size)
  have yW23_W31 : Below W23.heap.size W23 W31 := z24.trans (z31.mono z24.size)
  have yW23_W32 : Below W23.heap.size W23 W32 := yW23_W31.trans (z32.mono yW23_W31.size)
  have yW23_W40 : Below W23.heap.size W23 W40 := yW23_W32.trans (zz40.mono yW23_W32.size)
  go_wp2_with fail
  go_region_held3 (fun w' => w'.cell? ⟨W23.heap.size, 0, none⟩ = some (.int .i64 q1) ∧ w'.cell? ⟨W23.heap.size, 1, none⟩ = some (.slice L23 m1 m1) ∧ w'.cell? ⟨W23.heap.size, 2, none⟩ = some (.slice R23 l1 l1) ∧ w'.cell? ⟨(w.heap.size + 1), 0, none⟩ = some (.int .i64 q1) ∧ w'.cell? ⟨(w.heap.size + 1), 1, none⟩ = some (.slice B1 m1 c1) ∧ w'.cell? ⟨(w.heap.size + 1), 2, none⟩ = some (.slice C1 l1 d1))
    (first
      | (go_keep; done)
      | (exact ⟨((cb1.below' yW24_W40).below' zz48).cell 0, ((cb1.below' yW24_W40).below' zz48).cell 1, ((cb1.below' yW24_W40).below' zz48).cell 2, ((bb1.below' yW0_W40).below' zz48).cell 0, ((bb1.below' yW0_W40).below' zz48).cell 1, ((bb1.below' yW0_W40).below' zz48).cell 2⟩)
      | (exact ⟨((cb1.below' yW24_W40).below' zz47).cell 0, ((cb1.below' yW24_W40).below' zz47).cell 1, ((cb1.below' yW24_W40).below' zz47).cell 2, ((bb1.below' yW0_W40).below' zz47).cell 0, ((bb1.below' yW0_W40).below' zz47).cell 1, ((bb1.below' yW0_W40).below' zz47).cell 2⟩))
    (first
      | (go_at_call 22; refine (toConfig_any _ _ _ _ xs1 _ _ _ ys1 _ ((hx1.below yw_W40).drewN 1) p1 ((hy1.below yw_W40).drewN 1) p1').mono ?_; rintro e W47 ⟨L47, R47, rfl, oL47, oR47, z47⟩; have zz47 : Below W40.heap.size W40 W47 := below_undrew z47)
      | (go_at_call 24; refine (eqConfig_any _ _ _ _ xs1 _ _ _ ys1 _ _ _ _ xs1 _ _ _ ys1 _ ((oL23.below yW23_W40).below zz47).rd oL47.rd p1 ((oR23.below yW23_W40).below zz47).rd oR47.rd p1').mono ?_; rintro e W48 ⟨rfl, z48⟩; have zz48 : Below W40.heap.size W40 W48 := zz47.trans (z48.mono zz47.size)))
  rw [sameConfigB_self]
  clear uc41 uc42 uc43 uc44 uc45 uc46
  clear oL47 oR47 z47 zz47 z48
  have TM0 : Hid (135 ∈ [135, 2]) := Lib.hid (by decide)
  have TI0 : Hid (2 ∈ [135, 2]) := Lib.hid (by decide)
  have TN_Machine : Hid (30 ∉ [135, 2]) := Lib.hid (by decide)
  have TL_Machine : Hid (24 ∉ [135, 2]) := Lib.hid (by decide)
  have TN_Config : Hid (38 ∉ [135, 2]) := Lib.hid (by decide)
  have TL_Config : Hid (36 ∉ [135, 2]) := Lib.hid (by decide)
  have hs_W1 : W0.heap.size ≤ W1.heap.size := z1.size
  have hs_W5 : W1.heap.size ≤ W5.heap.size := z5.size
  have hs_W14 : W5.heap.size ≤ W14.heap.size := zz14.size
  have hs_W18 : W14.heap.size ≤ W18.heap.size := z18.size
  have hs_W19 : W18.heap.size ≤ W19.heap.size := z19.size
  have hs_W23 : W19.heap.size ≤ W23.heap.size := z23.size
  have hs_W24 : W23.heap.size ≤ W24.heap.size := z24.size
  have hs_W31 : W24.heap.size ≤ W31.heap.size := z31.size
  have hs_W32 : W31.heap.size ≤ W32.heap.size := z32.size
  have hs_W40 : W32.heap.size ≤ W40.heap.size := zz40.size
  have hs_W48 : W40.heap.size ≤ W48.heap.size := zz48.size
  have yW18_W40 : Below W18.heap.size W18 W40 := yW18_W32.trans (zz40.mono yW18_W32.size)
  have yW18_W48 : Below W18.heap.size W18 W48 := yW18_W40.trans (zz48.mono yW18_W40.size)
  have m0 : Mk W48 W14.heap.size W24.heap.size 135 3 B18 n0 := (((o18.below yW18_W48)).mono (by omega)).mk (fun b hb => by have := o18.blk_lt b hb; omega)
  have yW23_W48 : Below W23.heap.size W23 W48 := yW23_W40.trans (zz48.mono yW23_W40.size)
  have m1a : Mk W48 W14.heap.size W24.heap.size 2 1 L23 m1 := (((oL23.below yW23_W48)).mono (by omega)).mk (fun b hb => by have := oL23.blk_lt b hb; omega)
  have m1b : Mk W48 W14.heap.size W24.heap.size 2 1 R23 l1 := (((oR23.below yW23_W48)).mono (by omega)).mk (fun b hb => by have := oR23.blk_lt b hb; omega)
  have yW0_W48 : Below W0.heap.size W0 W48 := yW0_W40.trans (zz48.mono yW0_W40.size)
  have yW19_W40 : Below W19.heap.size W19 W40 := yW19_W32.trans (zz40.mono yW19_W32.size)
  have yW19_W48 : Below W19.heap.size W19 W48 := yW19_W40.trans (zz48.mono yW19_W40.size)
  have yW24_W48 : Below W24.heap.size W24 W48 := yW24_W40.trans (zz48.mono yW24_W40.size)
  have yw_W48 : Below w.heap.size w W48 := yw_W40.trans (zz48.mono yw_W40.size)
  have yW31_W40 : Below W31.heap.size W31 W40 := z32.trans (zz40.mono z32.size)
  have yW31_W48 : Below W31.heap.size W31 W48 := yW31_W40.trans (zz48.mono yW31_W40.size)
  have yW14_W32 : Below W14.heap.size W14 W32 := yW14_W31.trans (z32.mono yW14_W31.size)
  have yW14_W40 : Below W14.heap.size W14 W40 := yW14_W32.trans (zz40.mono yW14_W32.size)
  have yW14_W48 : Below W14.heap.size W14 W48 := yW14_W40.trans (zz48.mono yW14_W40.size)
  have io0 := (oR31.below yW31_W48)
  have so0 := (oR14.below yW14_W48)
  have bm0 := (bb0.below' yW0_W48)
  have cm0 := (cb0.below' yW19_W48)
  have bm1 := (bb1.below' yW0_W48)
  have cm1 := (cb1.below' yW24_W48)
  have cq0 := cm0
  have uc49 : W48.cell? ⟨W18.heap.size, 0, none⟩ = some (.int .i64 sy0) := cq0.cell 0
  have uc50 : W48.cell? ⟨W18.heap.size, 1, none⟩ = some (.int .i64 st0) := cq0.cell 1
  have uc51 : W48.cell? ⟨W18.heap.size, 2, none⟩ = some (.slice B18 n0 n0) := cq0.cell 2
  go_wp2_with fail
  refine (markMachine_m [135, 2] _ _ _ _ _ _ _ W14.heap.size W24.heap.size m0 p0 TM0.out TN_Machine.out (by omega) (by omega)).mono ?_
  rintro e W52 ⟨rfl, f52⟩
  clear uc49 uc50 uc51
  have cq1 := cm1.mkf f52 TN_Config.out
  have uc53 : W52.cell? ⟨W23.heap.size, 0, none⟩ = some (.int .i64 q1) := cq1.cell 0
  have uc54 : W52.cell? ⟨W23.heap.size, 1, none⟩ = some (.slice L23 m1 m1) := cq1.cell 1
  have uc55 : W52.cell? ⟨W23.heap.size, 2, none⟩ = some (.slice R23 l1 l1) := cq1.cell 2
  go_wp2_with fail
  refine (markConfig_m [135, 2] _ _ _ _ _ _ _ _ _ W14.heap.size W24.heap.size (m1a.mkf f52) p1 (m1b.mkf f52) p1' TI0.out TN_Config.out (by omega) (by omega)).mono ?_
  rintro e W56 ⟨rfl, f56⟩
  clear uc53 uc54 uc55
  have ff56 := f52.trans f56
  have io0 := io0.mkf_far ff56 (fun b hb => .inr hb)
  have so0 := OCs.mkf_below oR14 (Nat.le_refl _) so0 ff56
  have bm0 := bm0.mkf ff56 TL_Machine.out
  have bm1 := bm1.mkf ff56 TL_Config.out
  have yM : Below w.heap.size w W56 := yw_W48.trans (ff56.below yw_W14.size yw_W48.size)
  have hs_W56 : W48.heap.size ≤ W56.heap.size := ff56.size
  clear ff56
  have gneg : ¬ ((1 : Int) + ((n0 * 3 : Nat) : Int) + ((m1 + l1 : Nat) : Int) < 0) := by omega
  go_wp2_with fail
  refine (eqConfigS_c _ _ _ _ _ _ _ us31r us14r _ io0 so0 (HN14r.out.trans HN31r.out.symm) (by rw [HN31r.out]; exact LXS.out) (by omega)).mono ?_
  rintro e W57 ⟨rfl, z57⟩
  skip
  clear gneg
  have hs_W57 : W56.heap.size ≤ W57.heap.size := z57.size
  go_wp2_with fail
  refine (markConfigS_c _ _ _ us31r _ _ W24.heap.size W31.heap.size (io0.below z57) (fun b hb => (Recs.blk_ge oR31 b hb).2) (by rw [HN31r.out]; exact LXS.out) (by omega) (by omega) (by omega)).mono ?_
  rintro e W58 ⟨rfl, eR, t58⟩
  have so0 := OCs.touch_below oR14 (by omega) (so0.below z57) t58
  have bm0 := (bm0.below' z57).touch t58 (.inl (by have := bb0.lt; omega))
  have bm1 := (bm1.below' z57).touch t58 (.inl (by have := bb1.lt; omega))
  have yw_W57 : Below w.heap.size w W57 := yM.trans (z57.mono yM.size)
  have hlow : w.heap.size ≤ W24.heap.size := by have := yw_W14.size; omega
  have yN : Below w.heap.size w W58 := yw_W57.trans (t58.below hlow yw_W57.size)
  have hs_W58 : W57.heap.size ≤ W58.heap.size := t58.size
  clear t58
  go_wp2_with fail
  refine (heldConfigS_c _ _ _ _ us31r _ _ eR (confs_len HN31r.out) (by rw [HN31r.out]; exact LXS.out) (by omega) (by omega) (by omega)).mono ?_
  rintro e W59 ⟨rfl, z59⟩
  have gneg : ¬ ((1 : Int) + (offC us31r res.1.length : Int) < 0) := by omega
  have uc60 : W59.cell? ⟨w.heap.size, 0, none⟩ = some (.int .i64 sy0) := (bm0.below' z59).cell 0
  have uc61 : W59.cell? ⟨w.heap.size, 1, none⟩ = some (.int .i64 st0) := (bm0.below' z59).cell 1
  have uc62 : W59.cell? ⟨w.heap.size, 2, none⟩ = some (.slice A0 n0 k0) := (bm0.below' z59).cell 2
  have uc63 : W59.cell? ⟨(w.heap.size + 1), 0, none⟩ = some (.int .i64 q1) := (bm1.below' z59).cell 0
  have uc64 : W59.cell? ⟨(w.heap.size + 1), 1, none⟩ = some (.slice B1 m1 c1) := (bm1.below' z59).cell 1
  have uc65 : W59.cell? ⟨(w.heap.size + 1), 2, none⟩ = some (.slice C1 l1 d1) := (bm1.below' z59).cell 2
  have yw_W59 : Below w.heap.size w W59 := yN.trans (z59.mono yN.size)
  go_wp2_with fail
  go_region_held3 (fun w' => w'.cell? ⟨w.heap.size, 0, none⟩ = some (.int .i64 sy0) ∧ w'.cell? ⟨w.heap.size, 1, none⟩ = some (.int .i64 st0) ∧ w'.cell? ⟨w.heap.size, 2, none⟩ = some (.slice A0 n0 k0) ∧ w'.cell? ⟨(w.heap.size + 1), 0, none⟩ = some (.int .i64 q1) ∧ w'.cell? ⟨(w.heap.size + 1), 1, none⟩ = some (.slice B1 m1 c1) ∧ w'.cell? ⟨(w.heap.size + 1), 2, none⟩ = some (.slice C1 l1 d1))
    (first
      | (go_keep; done)
      | (exact ⟨((bm0.below' z59).below' zz68).cell 0, ((bm0.below' z59).below' zz68).cell 1, ((bm0.below' z59).below' zz68).cell 2, ((bm1.below' z59).below' zz68).cell 0, ((bm1.below' z59).below' zz68).cell 1, ((bm1.below' z59).below' zz68).cell 2⟩)
      | (exact ⟨((bm0.below' z59).below' zz67).cell 0, ((bm0.below' z59).below' zz67).cell 1, ((bm0.below' z59).below' zz67).cell 2, ((bm1.below' z59).below' zz67).cell 0, ((bm1.below' z59).below' zz67).cell 1, ((bm1.below' z59).below' zz67).cell 2⟩)
      | (exact ⟨((bm0.below' z59).below' zz66).cell 0, ((bm0.below' z59).below' zz66).cell 1, ((bm0.below' z59).below' zz66).cell 2, ((bm1.below' z59).below' zz66).cell 0, ((bm1.below' z59).below' zz66).cell 1, ((bm1.below' z59).below' zz66).cell 2⟩))
    (first
      | (go_at_call 17; refine (toMachine_any _ _ _ _ _ rs0 _ ((hr0.below yw_W59).drewN 1) p0).mono ?_; rintro e W66 ⟨B66, rfl, o66, z66⟩; have zz66 : Below W59.heap.size W59 W66 := below_undrew z66)
      | (go_at_call 22; refine (toConfig_any _ _ _ _ xs1 _ _ _ ys1 _ ((hx1.below yw_W59).below zz66) p1 ((hy1.below yw_W59).below zz66) p1').mono ?_; rintro e W67 ⟨L67, R67, rfl, oL67, oR67, z67⟩; have zz67 : Below W59.heap.size W59 W67 := zz66.trans (z67.mono zz66.size))
      | (go_at_call 47; (with_reducible refine (traceMachineI_any _ _ _ _ _ rs0 _ _ _ _ xs1 _ _ _ ys1 _ _ (o66.below z67).as3 oL67.asI oR67.asI p0 p1 p1').mono ?_); rw [← HRES.out]; rintro e W68 ⟨A68r, c68r, us68r, rfl, oR68, hn68r, z68⟩; have zz68 : Below W59.heap.size W59 W68 := zz67.trans (z68.mono zz67.size)))
  clear uc60 uc61 uc62 uc63 uc64 uc65
  have HN68r := Lib.hid hn68r
  clear hn68r
  have yW58_W68 : Below W58.heap.size W58 W68 := z59.trans (zz68.mono z59.size)
  go_wp2_with fail
  refine (eqConfigS_c _ _ _ _ _ _ _ us68r us14r _ oR68 (so0.below yW58_W68) (HN14r.out.trans HN68r.out.symm) (by rw [HN68r.out]; exact LXS.out) (by omega)).mono ?_
  rintro e W69 ⟨rfl, z69⟩
  skip
  go_wp2_with fail
  have yW58_W69 : Below W58.heap.size W58 W69 := yW58_W68.trans (z69.mono yW58_W68.size)
  refine (heldConfigS_c _ _ _ _ us31r _ _ (eR.below yW58_W69) (confs_len HN31r.out) (by rw [HN31r.out]; exact LXS.out) (by omega) (by omega) (by omega)).mono ?_
  rintro e W70 ⟨rfl, z70⟩
  have yw_W68 : Below w.heap.size w W68 := yw_W59.trans (zz68.mono yw_W59.size)
  have yw_W69 : Below w.heap.size w W69 := yw_W68.trans (z69.mono yw_W68.size)
  have yw_W70 : Below w.heap.size w W70 := yw_W69.trans (z70.mono yw_W69.size)
  go_wp2_with fail
  go_ret
  exact ⟨rfl, yw_W70⟩
end Go.Proofs.Ytbedghebckflmaa
