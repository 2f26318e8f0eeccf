/-
  The walk of the law FnExactCheckCycle: it returns true, and nothing that was there before has turned.
-/
import Derived.Test.YtbedghebckflmaaCycS
import Derived.Test.YtbedghebckflmaaHelpMachine
import Derived.Test.YtbedghebckflmaaHelpProof
import Derived.Test.YtbedghebckflmaaHelpL
namespace Go.Proofs.Ytbedghebckflmaa
open Go.RowKit

set_option maxRecDepth 100000 in
set_option maxHeartbeats 16000000 in
theorem lawCheckCycle (sy0 st0 : Int) (A0 : Option Addr) (n0 k0 : Nat) (rs0 : List R3) (q1 : Int) (B1 : Option Addr) (m1 c1 : Nat) (xs1 : List Int) (C1 : Option Addr) (l1 d1 : Nat) (ts1 : List Sl) (w : World) (hr0 : S3 w A0 n0 rs0) (hx1 : SI w B1 m1 xs1) (hy1 : SII w C1 l1 ts1) (hb0 : n0 ≤ 9223372036854775807) (hb1 : m1 ≤ 9223372036854775807) (hb1' : l1 ≤ 9223372036854775807) (hbr1 : ∀ t ∈ ts1, t.xs.length ≤ 9223372036854775807) :
    Calls Try.prog 11 #[.agg #[.int .i64 sy0, .int .i64 st0, .slice A0 n0 k0], .agg #[.int .i64 q1, .slice B1 m1 c1, .slice C1 l1 d1]] w fun e w' => e = .returned (.bool true) ∧ Below w.heap.size w w' := by
  obtain ⟨W0, hW0⟩ : ∃ W, W = (w.alloc (.cells #[.int .i64 sy0, .int .i64 st0, .slice A0 n0 k0] 24)).alloc (.cells #[.int .i64 q1, .slice B1 m1 c1, .slice C1 l1 d1] 55) := ⟨_, rfl⟩
  have s1 : (w.alloc (.cells #[.int .i64 sy0, .int .i64 st0, .slice A0 n0 k0] 24)).heap.size = w.heap.size + 1 := by simp
  have bb0 : Blk W0 w.heap.size 24 #[.int .i64 sy0, .int .i64 st0, .slice A0 n0 k0] := by rw [hW0]; exact (Blk.new w _ _).alloc _
  have bb1 : Blk W0 (w.heap.size + 1) 55 #[.int .i64 q1, .slice B1 m1 c1, .slice C1 l1 d1] := by rw [hW0, ← s1]; exact Blk.new _ _ _
  have z0 : Below w.heap.size w W0 := by rw [hW0]; exact ((Below.refl _ _).alloc (Nat.le_refl _) _).alloc (by simp) _
  have HW0 := Lib.hid hW0
  clear hW0 s1
  have HBR1 := Lib.hid hbr1
  clear hbr1
  go_enter Try.func11, Try.ntmps11
  go_wp2_with fail
  rw [← HW0.out]
  refine (szMachine_any _ _ _ _ _ _ _ hb0 (by omega) (by omega)).mono ?_
  rintro e W1 ⟨v1, rfl, va1, vb1, vc1, z1⟩
  have VC1 := Lib.hid vc1
  clear vc1
  have yw_W1 : Below w.heap.size w W1 := z0.trans (z1.mono z0.size)
  have uc2 : W1.cell? ⟨(w.heap.size + 1), 0, none⟩ = some (.int .i64 q1) := (bb1.below' z1).cell 0
  have uc3 : W1.cell? ⟨(w.heap.size + 1), 1, none⟩ = some (.slice B1 m1 c1) := (bb1.below' z1).cell 1
  have uc4 : W1.cell? ⟨(w.heap.size + 1), 2, none⟩ = some (.slice C1 l1 d1) := (bb1.below' z1).cell 2
  by_cases hneg1 : v1 < 0
  · go_wp2_with fail
    go_ret
    exact ⟨rfl, yw_W1⟩
  go_wp2_with fail
  refine (szProof_any _ _ _ _ _ _ _ ts1 _ _ hb1 hb1' (hy1.below yw_W1) HBR1.out (by omega) (by omega)).mono ?_
  rintro e W5 ⟨v5, rfl, va5, vb5, vc5, z5⟩
  have VC5 := Lib.hid vc5
  clear vc5
  clear uc2 uc3 uc4
  have yw_W5 : Below w.heap.size w W5 := yw_W1.trans (z5.mono yw_W1.size)
  by_cases hneg5 : v5 < 0
  · go_wp2_with fail
    go_ret
    exact ⟨rfl, yw_W5⟩
  have hsm : n0 ≤ 1048576 ∧ m1 ≤ 1048576 ∧ l1 ≤ 1048576 ∧ total ts1 ≤ 1048576 := by
    have t1 := VC1.out (by omega)
    have t5 := VC5.out (by omega)
    omega
  obtain ⟨p0, p1, p1', pt1⟩ := hsm
  have HR1 : Hid (∀ t ∈ ts1, t.xs.length ≤ 1048576) := fun t ht => by have := row_total ht; omega
  clear HBR1
  clear VC1
  clear VC5
  have yW0_W5 : Below W0.heap.size W0 W5 := z1.trans (z5.mono z1.size)
  have uc6 : W5.cell? ⟨w.heap.size, 0, none⟩ = some (.int .i64 sy0) := (bb0.below' yW0_W5).cell 0
  have uc7 : W5.cell? ⟨w.heap.size, 1, none⟩ = some (.int .i64 st0) := (bb0.below' yW0_W5).cell 1
  have uc8 : W5.cell? ⟨w.heap.size, 2, none⟩ = some (.slice A0 n0 k0) := (bb0.below' yW0_W5).cell 2
  have uc9 : W5.cell? ⟨(w.heap.size + 1), 0, none⟩ = some (.int .i64 q1) := (bb1.below' yW0_W5).cell 0
  have uc10 : W5.cell? ⟨(w.heap.size + 1), 1, none⟩ = some (.slice B1 m1 c1) := (bb1.below' yW0_W5).cell 1
  have uc11 : W5.cell? ⟨(w.heap.size + 1), 2, none⟩ = some (.slice C1 l1 d1) := (bb1.below' yW0_W5).cell 2
  obtain ⟨res, hres⟩ : ∃ res, res = checkCycleF sy0 st0 rs0 q1 xs1 (nums ts1) := ⟨_, rfl⟩
  have HRES := Lib.hid hres
  clear hres
  go_wp2_with fail
  go_region_held3 (fun w' => w'.cell? ⟨w.heap.size, 0, none⟩ = some (.int .i64 sy0) ∧ w'.cell? ⟨w.heap.size, 1, none⟩ = some (.int .i64 st0) ∧ w'.cell? ⟨w.heap.size, 2, none⟩ = some (.slice A0 n0 k0) ∧ w'.cell? ⟨(w.heap.size + 1), 0, none⟩ = some (.int .i64 q1) ∧ w'.cell? ⟨(w.heap.size + 1), 1, none⟩ = some (.slice B1 m1 c1) ∧ w'.cell? ⟨(w.heap.size + 1), 2, none⟩ = some (.slice C1 l1 d1))
    (first
      | (go_keep; done)
      | (exact ⟨((bb0.below' yW0_W5).below' zz14).cell 0, ((bb0.below' yW0_W5).below' zz14).cell 1, ((bb0.below' yW0_W5).below' zz14).cell 2, ((bb1.below' yW0_W5).below' zz14).cell 0, ((bb1.below' yW0_W5).below' zz14).cell 1, ((bb1.below' yW0_W5).below' zz14).cell 2⟩)
      | (exact ⟨((bb0.below' yW0_W5).below' zz13).cell 0, ((bb0.below' yW0_W5).below' zz13).cell 1, ((bb0.below' yW0_W5).below' zz13).cell 2, ((bb1.below' yW0_W5).below' zz13).cell 0, ((bb1.below' yW0_W5).below' zz13).cell 1, ((bb1.below' yW0_W5).below' zz13).cell 2⟩)
      | (exact ⟨((bb0.below' yW0_W5).below' zz12).cell 0, ((bb0.below' yW0_W5).below' zz12).cell 1, ((bb0.below' yW0_W5).below' zz12).cell 2, ((bb1.below' yW0_W5).below' zz12).cell 0, ((bb1.below' yW0_W5).below' zz12).cell 1, ((bb1.below' yW0_W5).below' zz12).cell 2⟩))
    (first
      | (go_at_call 17; refine (toMachine_any _ _ _ _ _ rs0 _ ((hr0.below yw_W5).drewN 1) p0).mono ?_; rintro e W12 ⟨B12, rfl, o12, z12⟩; have zz12 : Below W5.heap.size W5 W12 := below_undrew z12)
      | (go_at_call 37; refine (toProof_any _ _ _ _ xs1 _ _ _ ts1 _ ((hx1.below yw_W5).below zz12) p1 ((hy1.below yw_W5).below zz12) p1' HR1.out).mono ?_; rintro e W13 ⟨L13, R13, us13, rfl, oL13, oR13, hn13, z13⟩; have zz13 : Below W5.heap.size W5 W13 := zz12.trans (z13.mono zz12.size); have HN13 := Lib.hid hn13; clear hn13)
      | (go_at_call 51; (with_reducible refine (specCheckCycle_any _ _ _ _ _ rs0 _ _ _ _ xs1 _ _ _ us13 _ (o12.below z13).as3 oL13.asI oR13.sii p0 p1 p1' (rows_le HN13.out HR1.out)).mono ?_); rw [HN13.out]; rw [← HRES.out]; rintro e W14 ⟨rfl, z14⟩; have zz14 : Below W5.heap.size W5 W14 := zz13.trans (z14.mono zz13.size)))
  clear uc6 uc7 uc8 uc9 uc10 uc11
  have yW0_W14 : Below W0.heap.size W0 W14 := yW0_W5.trans (zz14.mono yW0_W5.size)
  have uc15 : W14.cell? ⟨w.heap.size, 0, none⟩ = some (.int .i64 sy0) := (bb0.below' yW0_W14).cell 0
  have uc16 : W14.cell? ⟨w.heap.size, 1, none⟩ = some (.int .i64 st0) := (bb0.below' yW0_W14).cell 1
  have uc17 : W14.cell? ⟨w.heap.size, 2, none⟩ = some (.slice A0 n0 k0) := (bb0.below' yW0_W14).cell 2
  go_wp2_with fail
  have yw_W14 : Below w.heap.size w W14 := yw_W5.trans (zz14.mono yw_W5.size)
  refine (toMachine_any _ _ _ _ _ rs0 _ (hr0.below yw_W14) p0).mono ?_
  rintro e W18 ⟨B18, rfl, o18, z18⟩
  clear uc15 uc16 uc17
  obtain ⟨W19, hW19⟩ : ∃ W, W = W18.alloc (.cells #[.int .i64 sy0, .int .i64 st0, .slice B18 n0 n0] 30) := ⟨_, rfl⟩
  have cb0 : Blk W19 W18.heap.size 30 #[.int .i64 sy0, .int .i64 st0, .slice B18 n0 n0] := by rw [hW19]; exact Blk.new W18 _ _
  have z19 : Below W18.heap.size W18 W19 := by rw [hW19]; exact (Below.refl _ _).alloc (Nat.le_refl _) _
  have HW19 := Lib.hid hW19
  clear hW19
  have yW0_W18 : Below W0.heap.size W0 W18 := yW0_W14.trans (z18.mono yW0_W14.size)
  have yW0_W19 : Below W0.heap.size W0 W19 := yW0_W18.trans (z19.mono yW0_W18.size)
  have uc20 : W19.cell? ⟨(w.heap.size + 1), 0, none⟩ = some (.int .i64 q1) := (bb1.below' yW0_W19).cell 0
  have uc21 : W19.cell? ⟨(w.heap.size + 1), 1, none⟩ = some (.slice B1 m1 c1) := (bb1.below' yW0_W19).cell 1
  have uc22 : W19.cell? ⟨(w.heap.size + 1), 2, none⟩ = some (.slice C1 l1 d1) := (bb1.below' yW0_W19).cell 2
  go_upto_region 10 with fail
  rw [← HW19.out]
  go_wp2_with fail
  have yw_W18 : Below w.heap.size w W18 := yw_W14.trans (z18.mono yw_W14.size)
  have yw_W19 : Below w.heap.size w W19 := yw_W18.trans (z19.mono yw_W18.size)
  refine (toProof_any _ _ _ _ xs1 _ _ _ ts1 _ (hx1.below yw_W19) p1 (hy1.below yw_W19) p1' HR1.out).mono ?_
  rintro e W23 ⟨L23, R23, us23, rfl, oL23, oR23, hn23, z23⟩
  have HN23 := Lib.hid hn23; clear hn23
  clear uc20 uc21 uc22
  obtain ⟨W24, hW24⟩ : ∃ W, W = W23.alloc (.cells #[.int .i64 q1, .slice L23 m1 m1, .slice R23 l1 l1] 58) := ⟨_, rfl⟩
  have cb1 : Blk W24 W23.heap.size 58 #[.int .i64 q1, .slice L23 m1 m1, .slice R23 l1 l1] := by rw [hW24]; exact Blk.new W23 _ _
  have z24 : Below W23.heap.size W23 W24 := by rw [hW24]; exact (Below.refl _ _).alloc (Nat.le_refl _) _
  have HW24 := Lib.hid hW24
  clear hW24
  have yW19_W24 : Below W19.heap.size W19 W24 := z23.trans (z24.mono z23.size)
  have uc25 : W24.cell? ⟨W18.heap.size, 0, none⟩ = some (.int .i64 sy0) := (cb0.below' yW19_W24).cell 0
  have uc26 : W24.cell? ⟨W18.heap.size, 1, none⟩ = some (.int .i64 st0) := (cb0.below' yW19_W24).cell 1
  have uc27 : W24.cell? ⟨W18.heap.size, 2, none⟩ = some (.slice B18 n0 n0) := (cb0.below' yW19_W24).cell 2
  have uc28 : W24.cell? ⟨W23.heap.size, 0, none⟩ = some (.int .i64 q1) := cb1.cell 0
  have uc29 : W24.cell? ⟨W23.heap.size, 1, none⟩ = some (.slice L23 m1 m1) := cb1.cell 1
  have uc30 : W24.cell? ⟨W23.heap.size, 2, none⟩ = some (.slice R23 l1 l1) := cb1.cell 2
  go_upto_region 11 with fail
  rw [← HW24.out]
  go_wp2_with fail
  have yW18_W23 : Below W18.heap.size W18 W23 := z19.trans (z23.mono z19.size)
  have yW18_W24 : Below W18.heap.size W18 W24 := yW18_W23.trans (z24.mono yW18_W23.size)
  refine (checkCycleI_any _ _ _ _ _ rs0 _ _ _ _ xs1 _ _ _ us23 _ (o18.below yW18_W24).as3 (oL23.below z24).asI (oR23.below z24).sii p0 p1 p1' (rows_le HN23.out HR1.out)).mono ?_
  rw [HN23.out, ← HRES.out]
  rintro e W31 ⟨rfl, z31⟩
  clear uc25 uc26 uc27 uc28 uc29 uc30
  have yW19_W31 : Below W19.heap.size W19 W31 := yW19_W24.trans (z31.mono yW19_W24.size)
  have uc32 : W31.cell? ⟨W18.heap.size, 0, none⟩ = some (.int .i64 sy0) := (cb0.below' yW19_W31).cell 0
  have uc33 : W31.cell? ⟨W18.heap.size, 1, none⟩ = some (.int .i64 st0) := (cb0.below' yW19_W31).cell 1
  have uc34 : W31.cell? ⟨W18.heap.size, 2, none⟩ = some (.slice B18 n0 n0) := (cb0.below' yW19_W31).cell 2
  have yW0_W23 : Below W0.heap.size W0 W23 := yW0_W19.trans (z23.mono yW0_W19.size)
  have yW0_W24 : Below W0.heap.size W0 W24 := yW0_W23.trans (z24.mono yW0_W23.size)
  have yW0_W31 : Below W0.heap.size W0 W31 := yW0_W24.trans (z31.mono yW0_W24.size)
  have uc35 : W31.cell? ⟨w.heap.size, 0, none⟩ = some (.int .i64 sy0) := (bb0.below' yW0_W31).cell 0
  have uc36 : W31.cell? ⟨w.heap.size, 1, none⟩ = some (.int .i64 st0) := (bb0.below' yW0_W31).cell 1
  have uc37 : W31.cell? ⟨w.heap.size, 2, none⟩ = some (.slice A0 n0 k0) := (bb0.below' yW0_W31).cell 2
  have yw_W23 : Below w.heap.size w W23 := yw_W19.trans (z23.mono yw_W19.size)
  have yw_W24 : Below w.heap.size w W24 := yw_W23.trans (z24.mono yw_W23.size)
  have yw_W31 : Below w.heap.size w W31 := yw_W24.trans (z31.mono yw_W24.size)
  have yW18_W31 : Below W18.heap.size W18 W31 := yW18_W24.trans (z31.mono yW18_W24.size)
  go_wp2_with fail
  go_region_held3 (fun w' => w'.cell? ⟨W18.heap.size, 0, none⟩ = some (.int .i64 sy0) ∧ w'.cell? ⟨W18.heap.size, 1, none⟩ = some (.int .i64 st0) ∧ w'.cell? ⟨W18.heap.size, 2, none⟩ = some (.slice B18 n0 n0) ∧ w'.cell? ⟨w.heap.size, 0, none⟩ = some (.int .i64 sy0) ∧ w'.cell? ⟨w.heap.size, 1, none⟩ = some (.int .i64 st0) ∧ w'.cell? ⟨w.heap.size, 2, none⟩ = some (.slice A0 n0 k0))
    (first
      | (go_keep; done)
      | (exact ⟨((cb0.below' yW19_W31).below' zz39).cell 0, ((cb0.below' yW19_W31).below' zz39).cell 1, ((cb0.below' yW19_W31).below' zz39).cell 2, ((bb0.below' yW0_W31).below' zz39).cell 0, ((bb0.below' yW0_W31).below' zz39).cell 1, ((bb0.below' yW0_W31).below' zz39).cell 2⟩)
      | (exact ⟨((cb0.below' yW19_W31).below' zz38).cell 0, ((cb0.below' yW19_W31).below' zz38).cell 1, ((cb0.below' yW19_W31).below' zz38).cell 2, ((bb0.below' yW0_W31).below' zz38).cell 0, ((bb0.below' yW0_W31).below' zz38).cell 1, ((bb0.below' yW0_W31).below' zz38).cell 2⟩))
    (first
      | (go_at_call 17; refine (toMachine_any _ _ _ _ _ rs0 _ ((hr0.below yw_W31).drewN 1) p0).mono ?_; rintro e W38 ⟨B38, rfl, o38, z38⟩; have zz38 : Below W31.heap.size W31 W38 := below_undrew z38)
      | (go_at_call 19; refine (eqMachine_any _ _ _ _ _ rs0 _ _ _ _ _ rs0 _ ((o18.below yW18_W31).below zz38).rd o38.rd p0).mono ?_; rintro e W39 ⟨rfl, z39⟩; have zz39 : Below W31.heap.size W31 W39 := zz38.trans (z39.mono zz38.size)))
  rw [sameMachineB_self]
  clear uc32 uc33 uc34 uc35 uc36 uc37
  clear o38 z38 zz38 z39
  have yW24_W39 : Below W24.heap.size W24 W39 := z31.trans (zz39.mono z31.size)
  have uc40 : W39.cell? ⟨W23.heap.size, 0, none⟩ = some (.int .i64 q1) := (cb1.below' yW24_W39).cell 0
  have uc41 : W39.cell? ⟨W23.heap.size, 1, none⟩ = some (.slice L23 m1 m1) := (cb1.below' yW24_W39).cell 1
  have uc42 : W39.cell? ⟨W23.heap.size, 2, none⟩ = some (.slice R23 l1 l1) := (cb1.below' yW24_W39).cell 2
  have yW0_W39 : Below W0.heap.size W0 W39 := yW0_W31.trans (zz39.mono yW0_W31.size)
  have uc43 : W39.cell? ⟨(w.heap.size + 1), 0, none⟩ = some (.int .i64 q1) := (bb1.below' yW0_W39).cell 0
  have uc44 : W39.cell? ⟨(w.heap.size + 1), 1, none⟩ = some (.slice B1 m1 c1) := (bb1.below' yW0_W39).cell 1
  have uc45 : W39.cell? ⟨(w.heap.size + 1), 2, none⟩ = some (.slice C1 l1 d1) := (bb1.below' yW0_W39).cell 2
  have yw_W39 : Below w.heap.size w W39 := yw_W31.trans (zz39.mono yw_W31.size)
  have yW23_W31 : Below W23.heap.size W23 W31 := z24.trans (z31.mono z24.size)
  have yW23_W39 : Below W23.heap.size W23 W39 := yW23_W31.trans (zz39.mono yW23_W31.size)
  go_wp2_with fail
  go_region_held3 (fun w' => w'.cell? ⟨W23.heap.size, 0, none⟩ = some (.int .i64 q1) ∧ w'.cell? ⟨W23.heap.size, 1, none⟩ = some (.slice L23 m1 m1) ∧ w'.cell? ⟨W23.heap.size, 2, none⟩ = some (.slice R23 l1 l1) ∧ w'.cell? ⟨(w.heap.size + 1), 0, none⟩ = some (.int .i64 q1) ∧ w'.cell? ⟨(w.heap.size + 1), 1, none⟩ = some (.slice B1 m1 c1) ∧ w'.cell? ⟨(w.heap.size + 1), 2, none⟩ = some (.slice C1 l1 d1))
    (first
      | (go_keep; done)
      | (exact ⟨((cb1.below' yW24_W39).below' zz47).cell 0, ((cb1.below' yW24_W39).below' zz47).cell 1, ((cb1.below' yW24_W39).below' zz47).cell 2, ((bb1.below' yW0_W39).below' zz47).cell 0, ((bb1.below' yW0_W39).below' zz47).cell 1, ((bb1.below' yW0_W39).below' zz47).cell 2⟩)
      | (exact ⟨((cb1.below' yW24_W39).below' zz46).cell 0, ((cb1.below' yW24_W39).below' zz46).cell 1, ((cb1.below' yW24_W39).below' zz46).cell 2, ((bb1.below' yW0_W39).below' zz46).cell 0, ((bb1.below' yW0_W39).below' zz46).cell 1, ((bb1.below' yW0_W39).below' zz46).cell 2⟩))
    (first
      | (go_at_call 37; refine (toProof_any _ _ _ _ xs1 _ _ _ ts1 _ ((hx1.below yw_W39).drewN 1) p1 ((hy1.below yw_W39).drewN 1) p1' HR1.out).mono ?_; rintro e W46 ⟨L46, R46, us46, rfl, oL46, oR46, hn46, z46⟩; have zz46 : Below W39.heap.size W39 W46 := below_undrew z46; have HN46 := Lib.hid hn46; clear hn46)
      | (go_at_call 39; refine (eqProof_any _ _ _ _ xs1 _ _ _ us23 _ _ _ _ xs1 _ _ _ us46 _ ((oL23.below yW23_W39).below zz46).rd oL46.rd p1 ((oR23.below yW23_W39).below zz46).sii oR46.sii p1' (rows_le HN23.out HR1.out)).mono ?_; rintro e W47 ⟨rfl, z47⟩; have zz47 : Below W39.heap.size W39 W47 := zz46.trans (z47.mono zz46.size)))
  rw [HN23.out, HN46.out, sameProofB_self]
  clear uc40 uc41 uc42 uc43 uc44 uc45
  clear oL46 oR46 z46 zz46 z47
  have yw_W47 : Below w.heap.size w W47 := yw_W39.trans (zz47.mono yw_W39.size)
  go_wp2_with fail
  go_ret
  exact ⟨rfl, yw_W47⟩
end Go.Proofs.Ytbedghebckflmaa
