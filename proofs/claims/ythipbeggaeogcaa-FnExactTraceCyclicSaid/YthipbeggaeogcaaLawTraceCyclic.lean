/-
  The walk of the law FnExactTraceCyclic: it returns true, and nothing that was there before has turned.
-/
import Derived.Test.YthipbeggaeogcaaTrCycS
import Derived.Test.YthipbeggaeogcaaTrCycI
import Derived.Test.YthipbeggaeogcaaHelpCyclic
import Derived.Test.YthipbeggaeogcaaHelpTurnS
import Derived.Test.YthipbeggaeogcaaHelpBC
namespace Go.Proofs.Ythipbeggaeogcaa
open Go.RowKit

set_option maxRecDepth 100000 in
set_option maxHeartbeats 16000000 in
theorem lawTraceCyclic (A0_0 : Option Addr) (n0_0 c0_0 : Nat) (x0_0 : List Sl) (d1_0 : Int) (A1_0 : Option Addr) (n1_0 c1_0 : Nat) (x1_0 : List Int) (b2 : Int) (w : World) (h0_0 : SII w A0_0 n0_0 x0_0) (h1_0 : SI w A1_0 n1_0 x1_0)  (hb0_0 : n0_0 ≤ 9223372036854775807) (hbr0_0 : ∀ t ∈ x0_0, t.xs.length ≤ 9223372036854775807) (hb1_0 : n1_0 ≤ 9223372036854775807)  :
    Calls Try.prog 4 #[.agg #[.slice A0_0 n0_0 c0_0], .agg #[.int .i64 d1_0, .slice A1_0 n1_0 c1_0], .int .i64 b2] w fun e w' => e = .returned (.bool true) ∧ Below w.heap.size w w' := by
  obtain ⟨W0, hW0⟩ : ∃ W, W = (w.alloc (.cells #[.slice A0_0 n0_0 c0_0] 24)).alloc (.cells #[.int .i64 d1_0, .slice A1_0 n1_0 c1_0] 27) := ⟨_, rfl⟩
  have s1 : (w.alloc (.cells #[.slice A0_0 n0_0 c0_0] 24)).heap.size = w.heap.size + 1 := by simp
  have bb0 : Blk W0 w.heap.size 24 #[.slice A0_0 n0_0 c0_0] := by rw [hW0]; exact (Blk.new w _ _).alloc _
  have bb1 : Blk W0 (w.heap.size + 1) 27 #[.int .i64 d1_0, .slice A1_0 n1_0 c1_0] := by rw [hW0, ← s1]; exact Blk.new _ _ _
  have z0 : Below w.heap.size w W0 := by rw [hW0]; exact ((Below.refl _ _).alloc (Nat.le_refl _) _).alloc (by simp) _
  have HW0 := Lib.hid hW0
  clear hW0 s1
  have HBR0_0 := Lib.hid hbr0_0
  clear hbr0_0
  go_enter Try.func4, Try.ntmps4
  go_wp2_with fail
  rw [← HW0.out]
  refine (szCyclic_any _ _ _ x0_0 _ _ hb0_0 (h0_0.below z0) HBR0_0.out (by omega) (by omega)).mono ?_
  rintro e W1 ⟨v1, rfl, va1, vb1, vc1, z1⟩
  have VC1 := Lib.hid vc1
  clear vc1
  have yw_W1 : Below w.heap.size w W1 := z0.trans (z1.mono z0.size)
  have uc2 : W1.cell? ⟨(w.heap.size + 1), 0, none⟩ = some (.int .i64 d1_0) := (bb1.below' z1).cell 0
  have uc3 : W1.cell? ⟨(w.heap.size + 1), 1, none⟩ = some (.slice A1_0 n1_0 c1_0) := (bb1.below' z1).cell 1
  by_cases hneg1 : v1 < 0
  · go_wp2_with fail
    go_ret
    exact ⟨rfl, yw_W1⟩
  go_wp2_with fail
  refine (szTurn_any _ _ _ _ _ _ hb1_0 (by omega) (by omega)).mono ?_
  rintro e W4 ⟨v4, rfl, va4, vb4, vc4, z4⟩
  have VC4 := Lib.hid vc4
  clear vc4
  clear uc2 uc3
  have yw_W4 : Below w.heap.size w W4 := yw_W1.trans (z4.mono yw_W1.size)
  by_cases hneg4 : v4 < 0
  · go_wp2_with fail
    go_ret
    exact ⟨rfl, yw_W4⟩
  have hsm : n0_0 ≤ 1048576 ∧ total x0_0 ≤ 1048576 ∧ n1_0 ≤ 1048576 := by
    have t1 := VC1.out (by omega)
    have t4 := VC4.out (by omega)
    omega
  obtain ⟨p0_0, pt0_0, p1_0⟩ := hsm
  have HR0_0 : Hid (∀ t ∈ x0_0, t.xs.length ≤ 1048576) := fun t ht => by have := row_total ht; omega
  clear HBR0_0
  clear VC1
  clear VC4
  have yW0_W4 : Below W0.heap.size W0 W4 := z1.trans (z4.mono z1.size)
  have uc5 : W4.cell? ⟨w.heap.size, 0, none⟩ = some (.slice A0_0 n0_0 c0_0) := (bb0.below' yW0_W4).cell 0
  have uc6 : W4.cell? ⟨(w.heap.size + 1), 0, none⟩ = some (.int .i64 d1_0) := (bb1.below' yW0_W4).cell 0
  have uc7 : W4.cell? ⟨(w.heap.size + 1), 1, none⟩ = some (.slice A1_0 n1_0 c1_0) := (bb1.below' yW0_W4).cell 1
  obtain ⟨res, hres⟩ : ∃ res, res = traceCycF (nums x0_0) ⟨d1_0, x1_0⟩ b2 := ⟨_, rfl⟩
  have HRES := Lib.hid hres
  clear hres
  go_wp2_with fail
  go_region_held3 (fun w' => w'.cell? ⟨w.heap.size, 0, none⟩ = some (.slice A0_0 n0_0 c0_0) ∧ w'.cell? ⟨(w.heap.size + 1), 0, none⟩ = some (.int .i64 d1_0) ∧ w'.cell? ⟨(w.heap.size + 1), 1, none⟩ = some (.slice A1_0 n1_0 c1_0))
    (first
      | (go_keep; done)
      | (exact ⟨((bb0.below' yW0_W4).below' zz10).cell 0, ((bb1.below' yW0_W4).below' zz10).cell 0, ((bb1.below' yW0_W4).below' zz10).cell 1⟩)
      | (exact ⟨((bb0.below' yW0_W4).below' zz9).cell 0, ((bb1.below' yW0_W4).below' zz9).cell 0, ((bb1.below' yW0_W4).below' zz9).cell 1⟩)
      | (exact ⟨((bb0.below' yW0_W4).below' zz8).cell 0, ((bb1.below' yW0_W4).below' zz8).cell 0, ((bb1.below' yW0_W4).below' zz8).cell 1⟩))
    (first
      | (go_at_call 17; refine (toCyclic_any _ _ _ x0_0 _ ((h0_0.below yw_W4).drewN 1) p0_0 HR0_0.out).mono ?_; rintro e W8 ⟨B8_0, us8_0, rfl, o8_0, hn8_0, z8⟩; have zz8 : Below W4.heap.size W4 W8 := below_undrew z8; have HN8_0 := Lib.hid hn8_0; clear hn8_0)
      | (go_at_call 18; refine (toTurn_any _ _ _ _ x1_0 _ ((h1_0.below yw_W4).below zz8) p1_0).mono ?_; rintro e W9 ⟨B9_0, rfl, o9_0, z9⟩; have zz9 : Below W4.heap.size W4 W9 := zz8.trans (z9.mono zz8.size))
      | (go_at_call 25; (with_reducible refine (traceCycS_any _ _ _ us8_0 _ _ _ _ x1_0 _ _ (o8_0.below z9).sii o9_0.asI p0_0 (rows_le HN8_0.out HR0_0.out) p1_0).mono ?_); rw [HN8_0.out]; rw [← HRES.out]; rintro e W10 ⟨A10r, c10r, us10r, rfl, oR10, hn10r, z10⟩; have zz10 : Below W4.heap.size W4 W10 := zz9.trans (z10.mono zz9.size)))
  clear uc5 uc6 uc7
  have HN10r := Lib.hid hn10r
  clear hn10r
  have hlen : res.1.length ≤ 1000 ∧ ∀ x ∈ res.1, x.word.length ≤ 1000 := by rw [HRES.out]; exact traceCycF_len (nums x0_0) ⟨d1_0, x1_0⟩ b2
  obtain ⟨lx0, lx1⟩ := hlen
  have LXS := Lib.hid lx1
  clear lx1
  have yW0_W10 : Below W0.heap.size W0 W10 := yW0_W4.trans (zz10.mono yW0_W4.size)
  have uc11 : W10.cell? ⟨w.heap.size, 0, none⟩ = some (.slice A0_0 n0_0 c0_0) := (bb0.below' yW0_W10).cell 0
  go_wp2_with fail
  have yw_W10 : Below w.heap.size w W10 := yw_W4.trans (zz10.mono yw_W4.size)
  refine (toCyclic_any _ _ _ x0_0 _ (h0_0.below yw_W10) p0_0 HR0_0.out).mono ?_
  rintro e W12 ⟨B12_0, us12_0, rfl, o12_0, hn12_0, z12⟩
  have HN12_0 := Lib.hid hn12_0; clear hn12_0
  clear uc11
  obtain ⟨W13, hW13⟩ : ∃ W, W = W12.alloc (.cells #[.slice B12_0 n0_0 n0_0] 33) := ⟨_, rfl⟩
  have cb0 : Blk W13 W12.heap.size 33 #[.slice B12_0 n0_0 n0_0] := by rw [hW13]; exact Blk.new W12 _ _
  have z13 : Below W12.heap.size W12 W13 := by rw [hW13]; exact (Below.refl _ _).alloc (Nat.le_refl _) _
  have HW13 := Lib.hid hW13
  clear hW13
  have yW0_W12 : Below W0.heap.size W0 W12 := yW0_W10.trans (z12.mono yW0_W10.size)
  have yW0_W13 : Below W0.heap.size W0 W13 := yW0_W12.trans (z13.mono yW0_W12.size)
  have uc14 : W13.cell? ⟨(w.heap.size + 1), 0, none⟩ = some (.int .i64 d1_0) := (bb1.below' yW0_W13).cell 0
  have uc15 : W13.cell? ⟨(w.heap.size + 1), 1, none⟩ = some (.slice A1_0 n1_0 c1_0) := (bb1.below' yW0_W13).cell 1
  go_upto_region 10 with fail
  rw [← HW13.out]
  go_wp2_with fail
  have yw_W12 : Below w.heap.size w W12 := yw_W10.trans (z12.mono yw_W10.size)
  have yw_W13 : Below w.heap.size w W13 := yw_W12.trans (z13.mono yw_W12.size)
  refine (toTurn_any _ _ _ _ x1_0 _ (h1_0.below yw_W13) p1_0).mono ?_
  rintro e W16 ⟨B16_0, rfl, o16_0, z16⟩
  clear uc14 uc15
  obtain ⟨W17, hW17⟩ : ∃ W, W = W16.alloc (.cells #[.int .i64 d1_0, .slice B16_0 n1_0 n1_0] 30) := ⟨_, rfl⟩
  have cb1 : Blk W17 W16.heap.size 30 #[.int .i64 d1_0, .slice B16_0 n1_0 n1_0] := by rw [hW17]; exact Blk.new W16 _ _
  have z17 : Below W16.heap.size W16 W17 := by rw [hW17]; exact (Below.refl _ _).alloc (Nat.le_refl _) _
  have HW17 := Lib.hid hW17
  clear hW17
  have yW13_W17 : Below W13.heap.size W13 W17 := z16.trans (z17.mono z16.size)
  have uc18 : W17.cell? ⟨W12.heap.size, 0, none⟩ = some (.slice B12_0 n0_0 n0_0) := (cb0.below' yW13_W17).cell 0
  have uc19 : W17.cell? ⟨W16.heap.size, 0, none⟩ = some (.int .i64 d1_0) := cb1.cell 0
  have uc20 : W17.cell? ⟨W16.heap.size, 1, none⟩ = some (.slice B16_0 n1_0 n1_0) := cb1.cell 1
  go_upto_region 11 with fail
  rw [← HW17.out]
  go_wp2_with fail
  have yW12_W16 : Below W12.heap.size W12 W16 := z13.trans (z16.mono z13.size)
  have yW12_W17 : Below W12.heap.size W12 W17 := yW12_W16.trans (z17.mono yW12_W16.size)
  refine (traceCycI_any _ _ _ us12_0 _ _ _ _ x1_0 _ _ (o12_0.below yW12_W17).sii (o16_0.below z17).asI p0_0 (rows_le HN12_0.out HR0_0.out) p1_0).mono ?_
  rw [HN12_0.out, ← HRES.out]
  rintro e W21 ⟨A21r, c21r, us21r, rfl, oR21, hn21r, z21⟩
  clear uc18 uc19 uc20
  have HN21r := Lib.hid hn21r
  clear hn21r
  have yW10_W13 : Below W10.heap.size W10 W13 := z12.trans (z13.mono z12.size)
  have yW10_W16 : Below W10.heap.size W10 W16 := yW10_W13.trans (z16.mono yW10_W13.size)
  have yW10_W17 : Below W10.heap.size W10 W17 := yW10_W16.trans (z17.mono yW10_W16.size)
  have yW10_W21 : Below W10.heap.size W10 W21 := yW10_W17.trans (z21.mono yW10_W17.size)
  go_wp2_with fail
  refine (eqTurnS_c _ _ _ _ _ _ _ us21r us10r _ oR21 (oR10.below yW10_W21) (HN10r.out.trans HN21r.out.symm) (by rw [HN21r.out]; exact LXS.out) (by omega)).mono ?_
  rintro e W22 ⟨rfl, z22⟩
  skip
  have yW13_W21 : Below W13.heap.size W13 W21 := yW13_W17.trans (z21.mono yW13_W17.size)
  have yW13_W22 : Below W13.heap.size W13 W22 := yW13_W21.trans (z22.mono yW13_W21.size)
  have uc23 : W22.cell? ⟨W12.heap.size, 0, none⟩ = some (.slice B12_0 n0_0 n0_0) := (cb0.below' yW13_W22).cell 0
  have yW0_W16 : Below W0.heap.size W0 W16 := yW0_W13.trans (z16.mono yW0_W13.size)
  have yW0_W17 : Below W0.heap.size W0 W17 := yW0_W16.trans (z17.mono yW0_W16.size)
  have yW0_W21 : Below W0.heap.size W0 W21 := yW0_W17.trans (z21.mono yW0_W17.size)
  have yW0_W22 : Below W0.heap.size W0 W22 := yW0_W21.trans (z22.mono yW0_W21.size)
  have uc24 : W22.cell? ⟨w.heap.size, 0, none⟩ = some (.slice A0_0 n0_0 c0_0) := (bb0.below' yW0_W22).cell 0
  have yw_W16 : Below w.heap.size w W16 := yw_W13.trans (z16.mono yw_W13.size)
  have yw_W17 : Below w.heap.size w W17 := yw_W16.trans (z17.mono yw_W16.size)
  have yw_W21 : Below w.heap.size w W21 := yw_W17.trans (z21.mono yw_W17.size)
  have yw_W22 : Below w.heap.size w W22 := yw_W21.trans (z22.mono yw_W21.size)
  have yW12_W21 : Below W12.heap.size W12 W21 := yW12_W17.trans (z21.mono yW12_W17.size)
  have yW12_W22 : Below W12.heap.size W12 W22 := yW12_W21.trans (z22.mono yW12_W21.size)
  go_wp2_with fail
  go_region_held3 (fun w' => w'.cell? ⟨W12.heap.size, 0, none⟩ = some (.slice B12_0 n0_0 n0_0) ∧ w'.cell? ⟨w.heap.size, 0, none⟩ = some (.slice A0_0 n0_0 c0_0))
    (first
      | (go_keep; done)
      | (exact ⟨((cb0.below' yW13_W22).below' zz26).cell 0, ((bb0.below' yW0_W22).below' zz26).cell 0⟩)
      | (exact ⟨((cb0.below' yW13_W22).below' zz25).cell 0, ((bb0.below' yW0_W22).below' zz25).cell 0⟩))
    (first
      | (go_at_call 17; refine (toCyclic_any _ _ _ x0_0 _ ((h0_0.below yw_W22).drewN 1) p0_0 HR0_0.out).mono ?_; rintro e W25 ⟨B25_0, us25_0, rfl, o25_0, hn25_0, z25⟩; have zz25 : Below W22.heap.size W22 W25 := below_undrew z25; have HN25_0 := Lib.hid hn25_0; clear hn25_0)
      | (go_at_call 21; refine (eqCyclic_any _ _ _ us12_0 _ _ _ us25_0 _ ((o12_0.below yW12_W22).below zz25).sii o25_0.sii p0_0 (rows_le HN12_0.out HR0_0.out)).mono ?_; rintro e W26 ⟨rfl, z26⟩; have zz26 : Below W22.heap.size W22 W26 := zz25.trans (z26.mono zz25.size)))
  rw [HN12_0.out, HN25_0.out, sameCyclicB_self]
  clear uc23 uc24
  clear o25_0 z25 zz25 z26
  have yW17_W22 : Below W17.heap.size W17 W22 := z21.trans (z22.mono z21.size)
  have yW17_W26 : Below W17.heap.size W17 W26 := yW17_W22.trans (zz26.mono yW17_W22.size)
  have uc27 : W26.cell? ⟨W16.heap.size, 0, none⟩ = some (.int .i64 d1_0) := (cb1.below' yW17_W26).cell 0
  have uc28 : W26.cell? ⟨W16.heap.size, 1, none⟩ = some (.slice B16_0 n1_0 n1_0) := (cb1.below' yW17_W26).cell 1
  have yW0_W26 : Below W0.heap.size W0 W26 := yW0_W22.trans (zz26.mono yW0_W22.size)
  have uc29 : W26.cell? ⟨(w.heap.size + 1), 0, none⟩ = some (.int .i64 d1_0) := (bb1.below' yW0_W26).cell 0
  have uc30 : W26.cell? ⟨(w.heap.size + 1), 1, none⟩ = some (.slice A1_0 n1_0 c1_0) := (bb1.below' yW0_W26).cell 1
  have yw_W26 : Below w.heap.size w W26 := yw_W22.trans (zz26.mono yw_W22.size)
  have yW16_W21 : Below W16.heap.size W16 W21 := z17.trans (z21.mono z17.size)
  have yW16_W22 : Below W16.heap.size W16 W22 := yW16_W21.trans (z22.mono yW16_W21.size)
  have yW16_W26 : Below W16.heap.size W16 W26 := yW16_W22.trans (zz26.mono yW16_W22.size)
  go_wp2_with fail
  go_region_held3 (fun w' => w'.cell? ⟨W16.heap.size, 0, none⟩ = some (.int .i64 d1_0) ∧ w'.cell? ⟨W16.heap.size, 1, none⟩ = some (.slice B16_0 n1_0 n1_0) ∧ w'.cell? ⟨(w.heap.size + 1), 0, none⟩ = some (.int .i64 d1_0) ∧ w'.cell? ⟨(w.heap.size + 1), 1, none⟩ = some (.slice A1_0 n1_0 c1_0))
    (first
      | (go_keep; done)
      | (exact ⟨((cb1.below' yW17_W26).below' zz32).cell 0, ((cb1.below' yW17_W26).below' zz32).cell 1, ((bb1.below' yW0_W26).below' zz32).cell 0, ((bb1.below' yW0_W26).below' zz32).cell 1⟩)
      | (exact ⟨((cb1.below' yW17_W26).below' zz31).cell 0, ((cb1.below' yW17_W26).below' zz31).cell 1, ((bb1.below' yW0_W26).below' zz31).cell 0, ((bb1.below' yW0_W26).below' zz31).cell 1⟩))
    (first
      | (go_at_call 18; refine (toTurn_any _ _ _ _ x1_0 _ ((h1_0.below yw_W26).drewN 1) p1_0).mono ?_; rintro e W31 ⟨B31_0, rfl, o31_0, z31⟩; have zz31 : Below W26.heap.size W26 W31 := below_undrew z31)
      | (go_at_call 20; refine (eqTurn_any _ _ _ _ x1_0 _ _ _ _ x1_0 _ ((o16_0.below yW16_W26).below zz31).asI o31_0.asI p1_0).mono ?_; rintro e W32 ⟨rfl, z32⟩; have zz32 : Below W26.heap.size W26 W32 := zz31.trans (z32.mono zz31.size)))
  rw [sameTurnB_self]
  clear uc27 uc28 uc29 uc30
  clear o31_0 z31 zz31 z32
  have TI0 : Hid (2 ∈ [2]) := Lib.hid (by decide)
  have TN_SS : Hid (25 ∉ [2]) := Lib.hid (by decide)
  have TN_Cyclic : Hid (33 ∉ [2]) := Lib.hid (by decide)
  have TL_Cyclic : Hid (24 ∉ [2]) := Lib.hid (by decide)
  have TN_Turn : Hid (30 ∉ [2]) := Lib.hid (by decide)
  have TL_Turn : Hid (27 ∉ [2]) := Lib.hid (by decide)
  have hs_W1 : W0.heap.size ≤ W1.heap.size := z1.size
  have hs_W4 : W1.heap.size ≤ W4.heap.size := z4.size
  have hs_W10 : W4.heap.size ≤ W10.heap.size := zz10.size
  have hs_W12 : W10.heap.size ≤ W12.heap.size := z12.size
  have hs_W13 : W12.heap.size ≤ W13.heap.size := z13.size
  have hs_W16 : W13.heap.size ≤ W16.heap.size := z16.size
  have hs_W17 : W16.heap.size ≤ W17.heap.size := z17.size
  have hs_W21 : W17.heap.size ≤ W21.heap.size := z21.size
  have hs_W22 : W21.heap.size ≤ W22.heap.size := z22.size
  have hs_W26 : W22.heap.size ≤ W26.heap.size := zz26.size
  have hs_W32 : W26.heap.size ≤ W32.heap.size := zz32.size
  have yW12_W26 : Below W12.heap.size W12 W26 := yW12_W22.trans (zz26.mono yW12_W22.size)
  have yW12_W32 : Below W12.heap.size W12 W32 := yW12_W26.trans (zz32.mono yW12_W26.size)
  have m0_0 : MkII W32 W10.heap.size W17.heap.size 25 2 B12_0 n0_0 n0_0 us12_0 := by
    have h1 := (o12_0.below yW12_W32)
    exact ⟨h1.1.mono (by omega), fun t ht => ((h1.2.1 t ht).mono (by omega)).mk (fun b hb => by have := (o12_0.2.1 t ht).blk_lt b hb; omega)⟩
  have pu0_0 : total us12_0 ≤ 1048576 := by rw [total_same HN12_0.out]; exact pt0_0
  have yW16_W32 : Below W16.heap.size W16 W32 := yW16_W26.trans (zz32.mono yW16_W26.size)
  have m1_0 : Mk W32 W10.heap.size W17.heap.size 2 1 B16_0 n1_0 := (((o16_0.below yW16_W32)).mono (by omega)).mk (fun b hb => by have := o16_0.blk_lt b hb; omega)
  have yW0_W32 : Below W0.heap.size W0 W32 := yW0_W26.trans (zz32.mono yW0_W26.size)
  have yW13_W26 : Below W13.heap.size W13 W26 := yW13_W22.trans (zz26.mono yW13_W22.size)
  have yW13_W32 : Below W13.heap.size W13 W32 := yW13_W26.trans (zz32.mono yW13_W26.size)
  have yW17_W32 : Below W17.heap.size W17 W32 := yW17_W26.trans (zz32.mono yW17_W26.size)
  have yw_W32 : Below w.heap.size w W32 := yw_W26.trans (zz32.mono yw_W26.size)
  have yW21_W26 : Below W21.heap.size W21 W26 := z22.trans (zz26.mono z22.size)
  have yW21_W32 : Below W21.heap.size W21 W32 := yW21_W26.trans (zz32.mono yW21_W26.size)
  have yW10_W22 : Below W10.heap.size W10 W22 := yW10_W21.trans (z22.mono yW10_W21.size)
  have yW10_W26 : Below W10.heap.size W10 W26 := yW10_W22.trans (zz26.mono yW10_W22.size)
  have yW10_W32 : Below W10.heap.size W10 W32 := yW10_W26.trans (zz32.mono yW10_W26.size)
  have io0 := (oR21.below yW21_W32)
  have so0 := (oR10.below yW10_W32)
  have bm0 := (bb0.below' yW0_W32)
  have cm0 := (cb0.below' yW13_W32)
  have bm1 := (bb1.below' yW0_W32)
  have cm1 := (cb1.below' yW17_W32)
  have cq0 := cm0
  have uc33 : W32.cell? ⟨W12.heap.size, 0, none⟩ = some (.slice B12_0 n0_0 n0_0) := cq0.cell 0
  go_wp2_with fail
  refine (markCyclic_m [2] _ _ _ us12_0 _ _ W10.heap.size W17.heap.size m0_0 p0_0 pu0_0 TI0.out TN_SS.out TN_Cyclic.out (by omega) (by omega)).mono ?_
  rintro e W34 ⟨rfl, f34⟩
  clear uc33
  have cq1 := cm1.mkf f34 TN_Turn.out
  have uc35 : W34.cell? ⟨W16.heap.size, 0, none⟩ = some (.int .i64 d1_0) := cq1.cell 0
  have uc36 : W34.cell? ⟨W16.heap.size, 1, none⟩ = some (.slice B16_0 n1_0 n1_0) := cq1.cell 1
  go_wp2_with fail
  refine (markTurn_m [2] _ _ _ _ _ _ W10.heap.size W17.heap.size (m1_0.mkf f34) p1_0 TI0.out TN_Turn.out (by omega) (by omega)).mono ?_
  rintro e W37 ⟨rfl, f37⟩
  clear uc35 uc36
  have ff37 := f34.trans f37
  have io0 := io0.mkf_far ff37 (fun b hb => .inr hb)
  have so0 := OTs.mkf_below oR10 (Nat.le_refl _) so0 ff37
  have bm0 := bm0.mkf ff37 TL_Cyclic.out
  have bm1 := bm1.mkf ff37 TL_Turn.out
  have yM : Below w.heap.size w W37 := yw_W32.trans (ff37.below yw_W10.size yw_W32.size)
  have hs_W37 : W32.heap.size ≤ W37.heap.size := ff37.size
  clear ff37
  have gneg : ¬ ((1 : Int) + ((total us12_0 : Nat) : Int) + ((n1_0 : Nat) : Int) < 0) := by omega
  go_wp2_with fail
  refine (eqTurnS_c _ _ _ _ _ _ _ us21r us10r _ io0 so0 (HN10r.out.trans HN21r.out.symm) (by rw [HN21r.out]; exact LXS.out) (by omega)).mono ?_
  rintro e W38 ⟨rfl, z38⟩
  skip
  clear gneg
  have hs_W38 : W37.heap.size ≤ W38.heap.size := z38.size
  go_wp2_with fail
  refine (markTurnS_c _ _ _ us21r _ _ W17.heap.size W21.heap.size (io0.below z38) (fun b hb => (Recs.blk_ge oR21 b hb).2) (by rw [HN21r.out]; exact LXS.out) (by omega) (by omega) (by omega)).mono ?_
  rintro e W39 ⟨rfl, eR, t39⟩
  have so0 := OTs.touch_below oR10 (by omega) (so0.below z38) t39
  have bm0 := (bm0.below' z38).touch t39 (.inl (by have := bb0.lt; omega))
  have bm1 := (bm1.below' z38).touch t39 (.inl (by have := bb1.lt; omega))
  have yw_W38 : Below w.heap.size w W38 := yM.trans (z38.mono yM.size)
  have hlow : w.heap.size ≤ W17.heap.size := by have := yw_W10.size; omega
  have yN : Below w.heap.size w W39 := yw_W38.trans (t39.below hlow yw_W38.size)
  have hs_W39 : W38.heap.size ≤ W39.heap.size := t39.size
  clear t39
  go_wp2_with fail
  refine (heldTurnS_c _ _ _ _ us21r _ _ eR (confsU_len HN21r.out) (by rw [HN21r.out]; exact LXS.out) (by omega) (by omega) (by omega)).mono ?_
  rintro e W40 ⟨rfl, z40⟩
  have gneg : ¬ ((1 : Int) + (offU us21r res.1.length : Int) < 0) := by omega
  have uc41 : W40.cell? ⟨w.heap.size, 0, none⟩ = some (.slice A0_0 n0_0 c0_0) := (bm0.below' z40).cell 0
  have uc42 : W40.cell? ⟨(w.heap.size + 1), 0, none⟩ = some (.int .i64 d1_0) := (bm1.below' z40).cell 0
  have uc43 : W40.cell? ⟨(w.heap.size + 1), 1, none⟩ = some (.slice A1_0 n1_0 c1_0) := (bm1.below' z40).cell 1
  have yw_W40 : Below w.heap.size w W40 := yN.trans (z40.mono yN.size)
  go_wp2_with fail
  go_region_held3 (fun w' => w'.cell? ⟨w.heap.size, 0, none⟩ = some (.slice A0_0 n0_0 c0_0) ∧ w'.cell? ⟨(w.heap.size + 1), 0, none⟩ = some (.int .i64 d1_0) ∧ w'.cell? ⟨(w.heap.size + 1), 1, none⟩ = some (.slice A1_0 n1_0 c1_0))
    (first
      | (go_keep; done)
      | (exact ⟨((bm0.below' z40).below' zz46).cell 0, ((bm1.below' z40).below' zz46).cell 0, ((bm1.below' z40).below' zz46).cell 1⟩)
      | (exact ⟨((bm0.below' z40).below' zz45).cell 0, ((bm1.below' z40).below' zz45).cell 0, ((bm1.below' z40).below' zz45).cell 1⟩)
      | (exact ⟨((bm0.below' z40).below' zz44).cell 0, ((bm1.below' z40).below' zz44).cell 0, ((bm1.below' z40).below' zz44).cell 1⟩))
    (first
      | (go_at_call 17; refine (toCyclic_any _ _ _ x0_0 _ ((h0_0.below yw_W40).drewN 1) p0_0 HR0_0.out).mono ?_; rintro e W44 ⟨B44_0, us44_0, rfl, o44_0, hn44_0, z44⟩; have zz44 : Below W40.heap.size W40 W44 := below_undrew z44; have HN44_0 := Lib.hid hn44_0; clear hn44_0)
      | (go_at_call 18; refine (toTurn_any _ _ _ _ x1_0 _ ((h1_0.below yw_W40).below zz44) p1_0).mono ?_; rintro e W45 ⟨B45_0, rfl, o45_0, z45⟩; have zz45 : Below W40.heap.size W40 W45 := zz44.trans (z45.mono zz44.size))
      | (go_at_call 26; (with_reducible refine (traceCycI_any _ _ _ us44_0 _ _ _ _ x1_0 _ _ (o44_0.below z45).sii o45_0.asI p0_0 (rows_le HN44_0.out HR0_0.out) p1_0).mono ?_); rw [HN44_0.out]; rw [← HRES.out]; rintro e W46 ⟨A46r, c46r, us46r, rfl, oR46, hn46r, z46⟩; have zz46 : Below W40.heap.size W40 W46 := zz45.trans (z46.mono zz45.size)))
  clear uc41 uc42 uc43
  have HN46r := Lib.hid hn46r
  clear hn46r
  have yW39_W46 : Below W39.heap.size W39 W46 := z40.trans (zz46.mono z40.size)
  go_wp2_with fail
  refine (eqTurnS_c _ _ _ _ _ _ _ us46r us10r _ oR46 (so0.below yW39_W46) (HN10r.out.trans HN46r.out.symm) (by rw [HN46r.out]; exact LXS.out) (by omega)).mono ?_
  rintro e W47 ⟨rfl, z47⟩
  skip
  go_wp2_with fail
  have yW39_W47 : Below W39.heap.size W39 W47 := yW39_W46.trans (z47.mono yW39_W46.size)
  refine (heldTurnS_c _ _ _ _ us21r _ _ (eR.below yW39_W47) (confsU_len HN21r.out) (by rw [HN21r.out]; exact LXS.out) (by omega) (by omega) (by omega)).mono ?_
  rintro e W48 ⟨rfl, z48⟩
  have yw_W46 : Below w.heap.size w W46 := yw_W40.trans (zz46.mono yw_W40.size)
  have yw_W47 : Below w.heap.size w W47 := yw_W46.trans (z47.mono yw_W46.size)
  have yw_W48 : Below w.heap.size w W48 := yw_W47.trans (z48.mono yw_W47.size)
  go_wp2_with fail
  go_ret
  exact ⟨rfl, yw_W48⟩
end Go.Proofs.Ythipbeggaeogcaa
