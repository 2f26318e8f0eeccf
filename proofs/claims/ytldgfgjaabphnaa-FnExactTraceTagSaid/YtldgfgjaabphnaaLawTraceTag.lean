/-
  The walk of the law FnExactTraceTag: it returns true, and nothing that was there before has turned.
-/
import Derived.Test.YtldgfgjaabphnaaTraceTagS
import Derived.Test.YtldgfgjaabphnaaHelpTagG
import Derived.Test.YtldgfgjaabphnaaHelpBC
namespace Go.Proofs.Ytldgfgjaabphnaa
open Go.RowKit

set_option maxRecDepth 100000 in
set_option maxHeartbeats 16000000 in
theorem lawTraceTag (d0_0 : Int) (A0_0 : Option Addr) (n0_0 c0_0 : Nat) (x0_0 : List Sl) (A0_1 : Option Addr) (n0_1 c0_1 : Nat) (x0_1 : List Int) (A1 : Option Addr) (n1 c1 : Nat) (xs1 : List Int) (b2 : Int) (w : World) (h0_0 : SII w A0_0 n0_0 x0_0) (h0_1 : SI w A0_1 n0_1 x0_1) (hx1 : SI w A1 n1 xs1)  (hb0_0 : n0_0 ≤ 9223372036854775807) (hb0_1 : n0_1 ≤ 9223372036854775807) (hbr0_0 : ∀ t ∈ x0_0, t.xs.length ≤ 9223372036854775807) (hb1 : n1 ≤ 9223372036854775807)  :
    Calls Try.prog 4 #[.agg #[.int .i64 d0_0, .slice A0_0 n0_0 c0_0, .slice A0_1 n0_1 c0_1], .slice A1 n1 c1, .int .i64 b2] w fun e w' => e = .returned (.bool true) ∧ Below w.heap.size w w' := by
  obtain ⟨W0, hW0⟩ : ∃ W, W = w.alloc (.cells #[.int .i64 d0_0, .slice A0_0 n0_0 c0_0, .slice A0_1 n0_1 c0_1] 25) := ⟨_, rfl⟩
  have bb0 : Blk W0 w.heap.size 25 #[.int .i64 d0_0, .slice A0_0 n0_0 c0_0, .slice A0_1 n0_1 c0_1] := by rw [hW0]; exact Blk.new w _ _
  have z0 : Below w.heap.size w W0 := by rw [hW0]; exact (Below.refl _ _).alloc (Nat.le_refl _) _
  have HW0 := Lib.hid hW0
  clear hW0
  have HBR0_0 := Lib.hid hbr0_0
  clear hbr0_0
  by_cases hbig1 : 1048576 < n1
  · have hbig' : (1048576 : Int) < (n1 : Int) := by omega
    go_enter Try.func4, Try.ntmps4
    go_wp2_with fail
    rw [← HW0.out]
    go_ret
    exact ⟨rfl, z0⟩
  have hbig1' : ¬ (1048576 : Int) < (n1 : Int) := by omega
  have p1 : n1 ≤ 1048576 := by omega
  go_enter Try.func4, Try.ntmps4
  go_wp2_with fail
  rw [← HW0.out]
  refine (szTag_any _ _ _ _ x0_0 _ _ _ _ _ hb0_0 (h0_0.below z0) HBR0_0.out hb0_1 (by omega) (by omega)).mono ?_
  rintro e W1 ⟨v1, rfl, va1, vb1, vc1, z1⟩
  have VC1 := Lib.hid vc1
  clear vc1
  have yw_W1 : Below w.heap.size w W1 := z0.trans (z1.mono z0.size)
  by_cases hneg1 : v1 < 0
  · go_wp2_with fail
    go_ret
    exact ⟨rfl, yw_W1⟩
  have hsm : n0_0 ≤ 1048576 ∧ n0_1 ≤ 1048576 ∧ total x0_0 ≤ 1048576 := by
    have t1 := VC1.out (by omega)
    omega
  obtain ⟨p0_0, p0_1, pt0_0⟩ := hsm
  have HR0_0 : Hid (∀ t ∈ x0_0, t.xs.length ≤ 1048576) := fun t ht => by have := row_total ht; omega
  clear HBR0_0
  clear VC1
  have uc2 : W1.cell? ⟨w.heap.size, 0, none⟩ = some (.int .i64 d0_0) := (bb0.below' z1).cell 0
  have uc3 : W1.cell? ⟨w.heap.size, 1, none⟩ = some (.slice A0_0 n0_0 c0_0) := (bb0.below' z1).cell 1
  have uc4 : W1.cell? ⟨w.heap.size, 2, none⟩ = some (.slice A0_1 n0_1 c0_1) := (bb0.below' z1).cell 2
  go_wp2_with fail
  refine (toTag_any _ _ _ _ x0_0 _ _ _ x0_1 _ (h0_0.below yw_W1) p0_0 HR0_0.out (h0_1.below yw_W1) p0_1).mono ?_
  rintro e W5 ⟨B5_0, us5_0, B5_1, rfl, o5_0, hn5_0, o5_1, z5⟩
  have HN5_0 := Lib.hid hn5_0; clear hn5_0
  clear uc2 uc3 uc4
  go_wp2_with fail
  have yw_W5 : Below w.heap.size w W5 := yw_W1.trans (z5.mono yw_W1.size)
  refine (toI _ _ _ xs1 _ (hx1.below yw_W5) p1).mono ?_
  rintro e W6 ⟨B6, rfl, o6, z6⟩
  go_wp2_with fail
  refine (traceTagS_any _ _ _ _ us5_0 _ _ _ x0_1 _ _ _ xs1 _ _ (o5_0.below z6).sii (o5_1.below z6).asI o6.asI p0_0 p0_1 (rows_le HN5_0.out HR0_0.out) p1).mono ?_
  rw [HN5_0.out]
  obtain ⟨res, hres⟩ : ∃ res, res = traceTagF d0_0 (nums x0_0) x0_1 xs1 b2 := ⟨_, rfl⟩
  rw [← hres]
  have HRES := Lib.hid hres
  clear hres
  rintro e W7 ⟨A7r, c7r, us7r, rfl, oR7, hn7r, z7⟩
  have HN7r := Lib.hid hn7r
  clear hn7r
  have hlen : res.1.length ≤ 1048576 ∧ (res.1.map List.length).sum ≤ 1048576 := by rw [HRES.out]; exact traceTagF_len d0_0 (nums x0_0) x0_1 xs1 b2
  obtain ⟨lx0, lx1⟩ := hlen
  have yW0_W5 : Below W0.heap.size W0 W5 := z1.trans (z5.mono z1.size)
  have yW0_W6 : Below W0.heap.size W0 W6 := yW0_W5.trans (z6.mono yW0_W5.size)
  have yW0_W7 : Below W0.heap.size W0 W7 := yW0_W6.trans (z7.mono yW0_W6.size)
  have uc8 : W7.cell? ⟨w.heap.size, 0, none⟩ = some (.int .i64 d0_0) := (bb0.below' yW0_W7).cell 0
  have uc9 : W7.cell? ⟨w.heap.size, 1, none⟩ = some (.slice A0_0 n0_0 c0_0) := (bb0.below' yW0_W7).cell 1
  have uc10 : W7.cell? ⟨w.heap.size, 2, none⟩ = some (.slice A0_1 n0_1 c0_1) := (bb0.below' yW0_W7).cell 2
  go_wp2_with fail
  have yw_W6 : Below w.heap.size w W6 := yw_W5.trans (z6.mono yw_W5.size)
  have yw_W7 : Below w.heap.size w W7 := yw_W6.trans (z7.mono yw_W6.size)
  refine (toTag_any _ _ _ _ x0_0 _ _ _ x0_1 _ (h0_0.below yw_W7) p0_0 HR0_0.out (h0_1.below yw_W7) p0_1).mono ?_
  rintro e W11 ⟨B11_0, us11_0, B11_1, rfl, o11_0, hn11_0, o11_1, z11⟩
  have HN11_0 := Lib.hid hn11_0; clear hn11_0
  clear uc8 uc9 uc10
  obtain ⟨W12, hW12⟩ : ∃ W, W = W11.alloc (.cells #[.int .i64 d0_0, .slice B11_0 n0_0 n0_0, .slice B11_1 n0_1 n0_1] 29) := ⟨_, rfl⟩
  have cb0 : Blk W12 W11.heap.size 29 #[.int .i64 d0_0, .slice B11_0 n0_0 n0_0, .slice B11_1 n0_1 n0_1] := by rw [hW12]; exact Blk.new W11 _ _
  have z12 : Below W11.heap.size W11 W12 := by rw [hW12]; exact (Below.refl _ _).alloc (Nat.le_refl _) _
  have HW12 := Lib.hid hW12
  clear hW12
  go_upto_region 10 with fail
  rw [← HW12.out]
  go_wp2_with fail
  have yw_W11 : Below w.heap.size w W11 := yw_W7.trans (z11.mono yw_W7.size)
  have yw_W12 : Below w.heap.size w W12 := yw_W11.trans (z12.mono yw_W11.size)
  refine (toI _ _ _ xs1 _ (hx1.below yw_W12) p1).mono ?_
  rintro e W13 ⟨B13, rfl, o13, z13⟩
  have uc14 : W13.cell? ⟨W11.heap.size, 0, none⟩ = some (.int .i64 d0_0) := (cb0.below' z13).cell 0
  have uc15 : W13.cell? ⟨W11.heap.size, 1, none⟩ = some (.slice B11_0 n0_0 n0_0) := (cb0.below' z13).cell 1
  have uc16 : W13.cell? ⟨W11.heap.size, 2, none⟩ = some (.slice B11_1 n0_1 n0_1) := (cb0.below' z13).cell 2
  go_wp2_with fail
  have yW11_W13 : Below W11.heap.size W11 W13 := z12.trans (z13.mono z12.size)
  refine (traceTagI_any _ _ _ _ us11_0 _ _ _ x0_1 _ _ _ xs1 _ _ (o11_0.below yW11_W13).sii (o11_1.below yW11_W13).asI o13.asI p0_0 p0_1 (rows_le HN11_0.out HR0_0.out) p1).mono ?_
  rw [HN11_0.out, ← HRES.out]
  rintro e W17 ⟨A17r, c17r, us17r, rfl, oR17, hn17r, z17⟩
  clear uc14 uc15 uc16
  have HN17r := Lib.hid hn17r
  clear hn17r
  have yW7_W12 : Below W7.heap.size W7 W12 := z11.trans (z12.mono z11.size)
  have yW7_W13 : Below W7.heap.size W7 W13 := yW7_W12.trans (z13.mono yW7_W12.size)
  have yW7_W17 : Below W7.heap.size W7 W17 := yW7_W13.trans (z17.mono yW7_W13.size)
  go_wp2_with fail
  refine (eqII_b _ _ _ _ _ _ us17r us7r _ oR17.sii (oR7.below yW7_W17).sii (by omega) (fun t ht => by have := row_total ht; have := total_of HN17r.out lx1; omega)).mono ?_
  rintro e W18 ⟨rfl, z18⟩
  rw [HN17r.out, HN7r.out, sameII_self]
  have yW12_W17 : Below W12.heap.size W12 W17 := z13.trans (z17.mono z13.size)
  have yW12_W18 : Below W12.heap.size W12 W18 := yW12_W17.trans (z18.mono yW12_W17.size)
  have uc19 : W18.cell? ⟨W11.heap.size, 0, none⟩ = some (.int .i64 d0_0) := (cb0.below' yW12_W18).cell 0
  have uc20 : W18.cell? ⟨W11.heap.size, 1, none⟩ = some (.slice B11_0 n0_0 n0_0) := (cb0.below' yW12_W18).cell 1
  have uc21 : W18.cell? ⟨W11.heap.size, 2, none⟩ = some (.slice B11_1 n0_1 n0_1) := (cb0.below' yW12_W18).cell 2
  have yW0_W11 : Below W0.heap.size W0 W11 := yW0_W7.trans (z11.mono yW0_W7.size)
  have yW0_W12 : Below W0.heap.size W0 W12 := yW0_W11.trans (z12.mono yW0_W11.size)
  have yW0_W13 : Below W0.heap.size W0 W13 := yW0_W12.trans (z13.mono yW0_W12.size)
  have yW0_W17 : Below W0.heap.size W0 W17 := yW0_W13.trans (z17.mono yW0_W13.size)
  have yW0_W18 : Below W0.heap.size W0 W18 := yW0_W17.trans (z18.mono yW0_W17.size)
  have uc22 : W18.cell? ⟨w.heap.size, 0, none⟩ = some (.int .i64 d0_0) := (bb0.below' yW0_W18).cell 0
  have uc23 : W18.cell? ⟨w.heap.size, 1, none⟩ = some (.slice A0_0 n0_0 c0_0) := (bb0.below' yW0_W18).cell 1
  have uc24 : W18.cell? ⟨w.heap.size, 2, none⟩ = some (.slice A0_1 n0_1 c0_1) := (bb0.below' yW0_W18).cell 2
  have yw_W13 : Below w.heap.size w W13 := yw_W12.trans (z13.mono yw_W12.size)
  have yw_W17 : Below w.heap.size w W17 := yw_W13.trans (z17.mono yw_W13.size)
  have yw_W18 : Below w.heap.size w W18 := yw_W17.trans (z18.mono yw_W17.size)
  have yW11_W17 : Below W11.heap.size W11 W17 := yW11_W13.trans (z17.mono yW11_W13.size)
  have yW11_W18 : Below W11.heap.size W11 W18 := yW11_W17.trans (z18.mono yW11_W17.size)
  go_wp2_with fail
  go_region_held3 (fun w' => w'.cell? ⟨W11.heap.size, 0, none⟩ = some (.int .i64 d0_0) ∧ w'.cell? ⟨W11.heap.size, 1, none⟩ = some (.slice B11_0 n0_0 n0_0) ∧ w'.cell? ⟨W11.heap.size, 2, none⟩ = some (.slice B11_1 n0_1 n0_1) ∧ w'.cell? ⟨w.heap.size, 0, none⟩ = some (.int .i64 d0_0) ∧ w'.cell? ⟨w.heap.size, 1, none⟩ = some (.slice A0_0 n0_0 c0_0) ∧ w'.cell? ⟨w.heap.size, 2, none⟩ = some (.slice A0_1 n0_1 c0_1))
    (first
      | (go_keep; done)
      | (exact ⟨((cb0.below' yW12_W18).below' zz26).cell 0, ((cb0.below' yW12_W18).below' zz26).cell 1, ((cb0.below' yW12_W18).below' zz26).cell 2, ((bb0.below' yW0_W18).below' zz26).cell 0, ((bb0.below' yW0_W18).below' zz26).cell 1, ((bb0.below' yW0_W18).below' zz26).cell 2⟩)
      | (exact ⟨((cb0.below' yW12_W18).below' zz25).cell 0, ((cb0.below' yW12_W18).below' zz25).cell 1, ((cb0.below' yW12_W18).below' zz25).cell 2, ((bb0.below' yW0_W18).below' zz25).cell 0, ((bb0.below' yW0_W18).below' zz25).cell 1, ((bb0.below' yW0_W18).below' zz25).cell 2⟩))
    (first
      | (go_at_call 15; refine (toTag_any _ _ _ _ x0_0 _ _ _ x0_1 _ ((h0_0.below yw_W18).drewN 1) p0_0 HR0_0.out ((h0_1.below yw_W18).drewN 1) p0_1).mono ?_; rintro e W25 ⟨B25_0, us25_0, B25_1, rfl, o25_0, hn25_0, o25_1, z25⟩; have zz25 : Below W18.heap.size W18 W25 := below_undrew z25; have HN25_0 := Lib.hid hn25_0; clear hn25_0)
      | (go_at_call 19; refine (eqTag_any _ _ _ _ us11_0 _ _ _ x0_1 _ _ _ _ us25_0 _ _ _ x0_1 _ ((o11_0.below yW11_W18).below zz25).sii o25_0.sii p0_0 (rows_le HN11_0.out HR0_0.out) ((o11_1.below yW11_W18).below zz25).asI o25_1.asI p0_1).mono ?_; rintro e W26 ⟨rfl, z26⟩; have zz26 : Below W18.heap.size W18 W26 := zz25.trans (z26.mono zz25.size)))
  rw [HN11_0.out, HN25_0.out, sameTagB_self]
  clear uc19 uc20 uc21 uc22 uc23 uc24
  clear o25_0 o25_1 z25 zz25 z26
  have yw_W26 : Below w.heap.size w W26 := yw_W18.trans (zz26.mono yw_W18.size)
  go_wp2_with fail
  refine (toI _ _ _ xs1 _ (hx1.below yw_W26) p1).mono ?_
  rintro e W27 ⟨B27, rfl, o27, z27⟩
  have yW13_W18 : Below W13.heap.size W13 W18 := z17.trans (z18.mono z17.size)
  have yW13_W26 : Below W13.heap.size W13 W26 := yW13_W18.trans (zz26.mono yW13_W18.size)
  have yW13_W27 : Below W13.heap.size W13 W27 := yW13_W26.trans (z27.mono yW13_W26.size)
  go_wp2_with fail
  refine (eqI_b _ _ _ _ _ _ xs1 xs1 _ (o13.below yW13_W27).rd o27.rd (by omega)).mono ?_
  rintro e W28 ⟨rfl, z28⟩
  rw [sameI_self]
  have TI0 : Hid (2 ∈ [2]) := Lib.hid (by decide)
  have TN_SS : Hid (23 ∉ [2]) := Lib.hid (by decide)
  have TN_Tag : Hid (29 ∉ [2]) := Lib.hid (by decide)
  have TL_Tag : Hid (25 ∉ [2]) := Lib.hid (by decide)
  have hs_W1 : W0.heap.size ≤ W1.heap.size := z1.size
  have hs_W5 : W1.heap.size ≤ W5.heap.size := z5.size
  have hs_W6 : W5.heap.size ≤ W6.heap.size := z6.size
  have hs_W7 : W6.heap.size ≤ W7.heap.size := z7.size
  have hs_W11 : W7.heap.size ≤ W11.heap.size := z11.size
  have hs_W12 : W11.heap.size ≤ W12.heap.size := z12.size
  have hs_W13 : W12.heap.size ≤ W13.heap.size := z13.size
  have hs_W17 : W13.heap.size ≤ W17.heap.size := z17.size
  have hs_W18 : W17.heap.size ≤ W18.heap.size := z18.size
  have hs_W26 : W18.heap.size ≤ W26.heap.size := zz26.size
  have hs_W27 : W26.heap.size ≤ W27.heap.size := z27.size
  have hs_W28 : W27.heap.size ≤ W28.heap.size := z28.size
  have yW11_W26 : Below W11.heap.size W11 W26 := yW11_W18.trans (zz26.mono yW11_W18.size)
  have yW11_W27 : Below W11.heap.size W11 W27 := yW11_W26.trans (z27.mono yW11_W26.size)
  have yW11_W28 : Below W11.heap.size W11 W28 := yW11_W27.trans (z28.mono yW11_W27.size)
  have m0_0 : MkII W28 W7.heap.size W13.heap.size 23 2 B11_0 n0_0 n0_0 us11_0 := by
    have h1 := (o11_0.below yW11_W28)
    exact ⟨h1.1.mono (by omega), fun t ht => ((h1.2.1 t ht).mono (by omega)).mk (fun b hb => by have := (o11_0.2.1 t ht).blk_lt b hb; omega)⟩
  have pu0_0 : total us11_0 ≤ 1048576 := by rw [total_same HN11_0.out]; exact pt0_0
  have m0_1 : Mk W28 W7.heap.size W13.heap.size 2 1 B11_1 n0_1 := (((o11_1.below yW11_W28)).mono (by omega)).mk (fun b hb => by have := o11_1.blk_lt b hb; omega)
  have yW13_W28 : Below W13.heap.size W13 W28 := yW13_W27.trans (z28.mono yW13_W27.size)
  have m1 : Mk W28 W7.heap.size W13.heap.size 2 1 B13 n1 := (((o13.below yW13_W28)).mono (by omega)).mk (fun b hb => by have := o13.blk_lt b hb; omega)
  have yW0_W26 : Below W0.heap.size W0 W26 := yW0_W18.trans (zz26.mono yW0_W18.size)
  have yW0_W27 : Below W0.heap.size W0 W27 := yW0_W26.trans (z27.mono yW0_W26.size)
  have yW0_W28 : Below W0.heap.size W0 W28 := yW0_W27.trans (z28.mono yW0_W27.size)
  have yW12_W26 : Below W12.heap.size W12 W26 := yW12_W18.trans (zz26.mono yW12_W18.size)
  have yW12_W27 : Below W12.heap.size W12 W27 := yW12_W26.trans (z27.mono yW12_W26.size)
  have yW12_W28 : Below W12.heap.size W12 W28 := yW12_W27.trans (z28.mono yW12_W27.size)
  have yw_W27 : Below w.heap.size w W27 := yw_W26.trans (z27.mono yw_W26.size)
  have yw_W28 : Below w.heap.size w W28 := yw_W27.trans (z28.mono yw_W27.size)
  have yW17_W26 : Below W17.heap.size W17 W26 := z18.trans (zz26.mono z18.size)
  have yW17_W27 : Below W17.heap.size W17 W27 := yW17_W26.trans (z27.mono yW17_W26.size)
  have yW17_W28 : Below W17.heap.size W17 W28 := yW17_W27.trans (z28.mono yW17_W27.size)
  have yW7_W18 : Below W7.heap.size W7 W18 := yW7_W17.trans (z18.mono yW7_W17.size)
  have yW7_W26 : Below W7.heap.size W7 W26 := yW7_W18.trans (zz26.mono yW7_W18.size)
  have yW7_W27 : Below W7.heap.size W7 W27 := yW7_W26.trans (z27.mono yW7_W26.size)
  have yW7_W28 : Below W7.heap.size W7 W28 := yW7_W27.trans (z28.mono yW7_W27.size)
  have io0 := (oR17.below yW17_W28)
  have so0 := (oR7.below yW7_W28)
  have bm0 := (bb0.below' yW0_W28)
  have cm0 := (cb0.below' yW12_W28)
  have cq0 := cm0
  have uc29 : W28.cell? ⟨W11.heap.size, 0, none⟩ = some (.int .i64 d0_0) := cq0.cell 0
  have uc30 : W28.cell? ⟨W11.heap.size, 1, none⟩ = some (.slice B11_0 n0_0 n0_0) := cq0.cell 1
  have uc31 : W28.cell? ⟨W11.heap.size, 2, none⟩ = some (.slice B11_1 n0_1 n0_1) := cq0.cell 2
  go_wp2_with fail
  refine (markTag_m [2] _ _ _ _ us11_0 _ _ _ _ _ W7.heap.size W13.heap.size m0_0 p0_0 pu0_0 m0_1 p0_1 TI0.out TN_SS.out TN_Tag.out (by omega) (by omega)).mono ?_
  rintro e W32 ⟨rfl, f32⟩
  clear uc29 uc30 uc31
  go_wp2_with fail
  refine (markI_m [2] _ _ _ _ _ W7.heap.size W13.heap.size (m1.mkf f32) TI0.out (by omega) (by omega)).mono ?_
  rintro e W33 ⟨rfl, f33⟩
  have ff33 := f32.trans f33
  have io0 := io0.mkf_far ff33 (fun b hb => .inr hb)
  have so0 := OII.mkf_below oR7 (Nat.le_refl _) so0 ff33
  have bm0 := bm0.mkf ff33 TL_Tag.out
  have yM : Below w.heap.size w W33 := yw_W28.trans (ff33.below yw_W7.size yw_W28.size)
  have hs_W33 : W28.heap.size ≤ W33.heap.size := ff33.size
  clear ff33
  have gneg : ¬ ((1 : Int) + ((total us11_0 + n0_1 : Nat) : Int) + (n1 : Int) < 0) := by omega
  go_wp2_with fail
  refine (eqII_b _ _ _ _ _ _ us17r us7r _ io0.sii so0.sii (by omega) (fun t ht => by have := row_total ht; have := total_of HN17r.out lx1; omega)).mono ?_
  rintro e W34 ⟨rfl, z34⟩
  rw [HN17r.out, HN7r.out, sameII_self]
  clear gneg
  have hs_W34 : W33.heap.size ≤ W34.heap.size := z34.size
  go_wp2_with fail
  refine (markII_c _ _ _ us17r _ _ W13.heap.size W17.heap.size (io0.below z34) (fun t ht b hb => (oR17.2.1 t ht).blk_lt b hb) (by decide) (by omega) (total_of HN17r.out lx1) (by omega) (by omega)).mono ?_
  rintro e W35 ⟨rfl, eR, t35⟩
  have so0 := OII.touch_below oR7 (by omega) (so0.below z34) t35
  have bm0 := (bm0.below' z34).touch t35 (.inl (by have := bb0.lt; omega))
  have yw_W34 : Below w.heap.size w W34 := yM.trans (z34.mono yM.size)
  have hlow : w.heap.size ≤ W13.heap.size := by have := yw_W7.size; omega
  have yN : Below w.heap.size w W35 := yw_W34.trans (t35.below hlow yw_W34.size)
  have hs_W35 : W34.heap.size ≤ W35.heap.size := t35.size
  clear t35
  go_wp2_with fail
  refine (heldII_c _ _ _ _ _ _ eR (by omega) (total_of HN17r.out lx1) (by omega) (by omega)).mono ?_
  rintro e W36 ⟨rfl, z36⟩
  have gneg : ¬ ((1 : Int) + (total us17r : Int) < 0) := by omega
  have uc37 : W36.cell? ⟨w.heap.size, 0, none⟩ = some (.int .i64 d0_0) := (bm0.below' z36).cell 0
  have uc38 : W36.cell? ⟨w.heap.size, 1, none⟩ = some (.slice A0_0 n0_0 c0_0) := (bm0.below' z36).cell 1
  have uc39 : W36.cell? ⟨w.heap.size, 2, none⟩ = some (.slice A0_1 n0_1 c0_1) := (bm0.below' z36).cell 2
  have yw_W36 : Below w.heap.size w W36 := yN.trans (z36.mono yN.size)
  go_wp2_with fail
  refine (toTag_any _ _ _ _ x0_0 _ _ _ x0_1 _ (h0_0.below yw_W36) p0_0 HR0_0.out (h0_1.below yw_W36) p0_1).mono ?_
  rintro e W40 ⟨B40_0, us40_0, B40_1, rfl, o40_0, hn40_0, o40_1, z40⟩
  have HN40_0 := Lib.hid hn40_0; clear hn40_0
  clear uc37 uc38 uc39
  go_wp2_with fail
  have yw_W40 : Below w.heap.size w W40 := yw_W36.trans (z40.mono yw_W36.size)
  refine (toI _ _ _ xs1 _ (hx1.below yw_W40) p1).mono ?_
  rintro e W41 ⟨B41, rfl, o41, z41⟩
  go_wp2_with fail
  refine (traceTagI_any _ _ _ _ us40_0 _ _ _ x0_1 _ _ _ xs1 _ _ (o40_0.below z41).sii (o40_1.below z41).asI o41.asI p0_0 p0_1 (rows_le HN40_0.out HR0_0.out) p1).mono ?_
  rw [HN40_0.out]
  rw [← HRES.out]
  rintro e W42 ⟨A42r, c42r, us42r, rfl, oR42, hn42r, z42⟩
  have HN42r := Lib.hid hn42r
  clear hn42r
  have yW35_W40 : Below W35.heap.size W35 W40 := z36.trans (z40.mono z36.size)
  have yW35_W41 : Below W35.heap.size W35 W41 := yW35_W40.trans (z41.mono yW35_W40.size)
  have yW35_W42 : Below W35.heap.size W35 W42 := yW35_W41.trans (z42.mono yW35_W41.size)
  go_wp2_with fail
  refine (eqII_b _ _ _ _ _ _ us42r us7r _ oR42.sii (so0.below yW35_W42).sii (by omega) (fun t ht => by have := row_total ht; have := total_of HN42r.out lx1; omega)).mono ?_
  rintro e W43 ⟨rfl, z43⟩
  rw [HN42r.out, HN7r.out, sameII_self]
  go_wp2_with fail
  have yW35_W43 : Below W35.heap.size W35 W43 := yW35_W42.trans (z43.mono yW35_W42.size)
  refine (heldII_c _ _ _ _ _ _ (eR.below yW35_W43) (by omega) (total_of HN17r.out lx1) (by omega) (by omega)).mono ?_
  rintro e W44 ⟨rfl, z44⟩
  have yw_W41 : Below w.heap.size w W41 := yw_W40.trans (z41.mono yw_W40.size)
  have yw_W42 : Below w.heap.size w W42 := yw_W41.trans (z42.mono yw_W41.size)
  have yw_W43 : Below w.heap.size w W43 := yw_W42.trans (z43.mono yw_W42.size)
  have yw_W44 : Below w.heap.size w W44 := yw_W43.trans (z44.mono yw_W43.size)
  go_wp2_with fail
  go_ret
  exact ⟨rfl, yw_W44⟩
end Go.Proofs.Ytldgfgjaabphnaa
