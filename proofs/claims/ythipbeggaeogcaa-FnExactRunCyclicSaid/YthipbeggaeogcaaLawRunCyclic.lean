/-
  The walk of the law FnExactRunCyclic: it returns true, and nothing that was there before has turned.
-/
import Derived.Test.YthipbeggaeogcaaRunCycS
import Derived.Test.YthipbeggaeogcaaHelpCyclic
import Derived.Test.YthipbeggaeogcaaHelpTurnB
namespace Go.Proofs.Ythipbeggaeogcaa
open Go.RowKit

set_option maxRecDepth 100000 in
set_option maxHeartbeats 16000000 in
theorem lawRunCyclic (A0_0 : Option Addr) (n0_0 c0_0 : Nat) (x0_0 : List Sl) (d1_0 : Int) (A1_0 : Option Addr) (n1_0 c1_0 : Nat) (x1_0 : List Int) (b2 : Int) (w : World) (h0_0 : SII w A0_0 n0_0 x0_0) (h1_0 : SI w A1_0 n1_0 x1_0)  (hb0_0 : n0_0 ≤ 9223372036854775807) (hbr0_0 : ∀ t ∈ x0_0, t.xs.length ≤ 9223372036854775807) (hb1_0 : n1_0 ≤ 9223372036854775807)  :
    Calls Try.prog 3 #[.agg #[.slice A0_0 n0_0 c0_0], .agg #[.int .i64 d1_0, .slice A1_0 n1_0 c1_0], .int .i64 b2] w fun e w' => e = .returned (.bool true) ∧ Below w.heap.size w w' := by
  obtain ⟨W0, hW0⟩ : ∃ W, W = (w.alloc (.cells #[.slice A0_0 n0_0 c0_0] 24)).alloc (.cells #[.int .i64 d1_0, .slice A1_0 n1_0 c1_0] 27) := ⟨_, rfl⟩
  have s1 : (w.alloc (.cells #[.slice A0_0 n0_0 c0_0] 24)).heap.size = w.heap.size + 1 := by simp
  have bb0 : Blk W0 w.heap.size 24 #[.slice A0_0 n0_0 c0_0] := by rw [hW0]; exact (Blk.new w _ _).alloc _
  have bb1 : Blk W0 (w.heap.size + 1) 27 #[.int .i64 d1_0, .slice A1_0 n1_0 c1_0] := by rw [hW0, ← s1]; exact Blk.new _ _ _
  have z0 : Below w.heap.size w W0 := by rw [hW0]; exact ((Below.refl _ _).alloc (Nat.le_refl _) _).alloc (by simp) _
  have HW0 := Lib.hid hW0
  clear hW0 s1
  have HBR0_0 := Lib.hid hbr0_0
  clear hbr0_0
  go_enter Try.func3, Try.ntmps3
  go_wp2_with fail
  rw [← HW0.out]
  refine (szCyclic_any _ _ _ x0_0 _ _ hb0_0 (h0_0.below z0) HBR0_0.out (by omega) (by omega)).mono ?_
  rintro e W1 ⟨v1, rfl, va1, vb1, vc1, z1⟩
  have VC1 := Lib.hid vc1
  clear vc1
  have yw_W1 : Below w.heap.size w W1 := z0.trans (z1.mono z0.size)
  have uc2 : W1.cell? ⟨(w.heap.size + 1), 0, none⟩ = some (.int .i64 d1_0) := (bb1.below' z1).cell 0
  have uc3 : W1.cell? ⟨(w.heap.size + 1), 1, none⟩ = some (.slice A1_0 n1_0 c1_0) := (bb1.below' z1).cell 1
  by_cases hneg1 : v1 < 0
  · go_wp2_with fail
    go_ret
    exact ⟨rfl, yw_W1⟩
  go_wp2_with fail
  refine (szTurn_any _ _ _ _ _ _ hb1_0 (by omega) (by omega)).mono ?_
  rintro e W4 ⟨v4, rfl, va4, vb4, vc4, z4⟩
  have VC4 := Lib.hid vc4
  clear vc4
  clear uc2 uc3
  have yw_W4 : Below w.heap.size w W4 := yw_W1.trans (z4.mono yw_W1.size)
  by_cases hneg4 : v4 < 0
  · go_wp2_with fail
    go_ret
    exact ⟨rfl, yw_W4⟩
  have hsm : n0_0 ≤ 1048576 ∧ total x0_0 ≤ 1048576 ∧ n1_0 ≤ 1048576 := by
    have t1 := VC1.out (by omega)
    have t4 := VC4.out (by omega)
    omega
  obtain ⟨p0_0, pt0_0, p1_0⟩ := hsm
  have HR0_0 : Hid (∀ t ∈ x0_0, t.xs.length ≤ 1048576) := fun t ht => by have := row_total ht; omega
  clear HBR0_0
  clear VC1
  clear VC4
  have yW0_W4 : Below W0.heap.size W0 W4 := z1.trans (z4.mono z1.size)
  have uc5 : W4.cell? ⟨w.heap.size, 0, none⟩ = some (.slice A0_0 n0_0 c0_0) := (bb0.below' yW0_W4).cell 0
  have uc6 : W4.cell? ⟨(w.heap.size + 1), 0, none⟩ = some (.int .i64 d1_0) := (bb1.below' yW0_W4).cell 0
  have uc7 : W4.cell? ⟨(w.heap.size + 1), 1, none⟩ = some (.slice A1_0 n1_0 c1_0) := (bb1.below' yW0_W4).cell 1
  obtain ⟨res, hres⟩ : ∃ res, res = runCycF (nums x0_0) ⟨d1_0, x1_0⟩ b2 := ⟨_, rfl⟩
  have HRES := Lib.hid hres
  clear hres
  have KEEPA : Hid (∀ cur, Below W4.heap.size W4 cur → cur.cell? ⟨w.heap.size, 0, none⟩ = some (.slice A0_0 n0_0 c0_0) ∧ cur.cell? ⟨(w.heap.size + 1), 0, none⟩ = some (.int .i64 d1_0) ∧ cur.cell? ⟨(w.heap.size + 1), 1, none⟩ = some (.slice A1_0 n1_0 c1_0)) := fun cur h =>
    ⟨((bb0.below' yW0_W4).below' h).cell 0, ((bb1.below' yW0_W4).below' h).cell 0, ((bb1.below' yW0_W4).below' h).cell 1⟩
  go_upto_region 8 with fail
  go_cut [8, 9, 10, 11] (fun s8 s9 s10 s11 wx => TurnBox4 W4.heap.size W4 s8 s9 s10 s11 res wx)
  case first =>
    go_region_held3 (fun w' => w'.cell? ⟨w.heap.size, 0, none⟩ = some (.slice A0_0 n0_0 c0_0) ∧ w'.cell? ⟨(w.heap.size + 1), 0, none⟩ = some (.int .i64 d1_0) ∧ w'.cell? ⟨(w.heap.size + 1), 1, none⟩ = some (.slice A1_0 n1_0 c1_0))
      (first
        | (go_keep; done)
        | (exact KEEPA.out _ (by first
            | exact zz10
            | exact zz10.alloc zz10.size _
            | exact zz9
            | exact zz9.alloc zz9.size _
            | exact zz8
            | exact zz8.alloc zz8.size _
            | exact turn_below (zz10.alloc zz10.size _) zz10.size _ _
            | exact turn_below zz10 BX.out.1 _ _)))
      (first
        | (go_at_call 17; refine (toCyclic_any _ _ _ x0_0 _ ((h0_0.below yw_W4).drewN 1) p0_0 HR0_0.out).mono ?_; rintro e W8 ⟨B8_0, us8_0, rfl, o8_0, hn8_0, z8⟩; have zz8 : Below W4.heap.size W4 W8 := below_undrew z8; have HN8_0 := Lib.hid hn8_0; clear hn8_0)
        | (go_at_call 17; refine (toCyclic_any _ _ _ x0_0 _ (((h0_0.below yw_W4).alloc _).drewN 1) p0_0 HR0_0.out).mono ?_; rintro e W8 ⟨B8_0, us8_0, rfl, o8_0, hn8_0, z8⟩; have zz8 : Below W4.heap.size W4 W8 := below_of_alloc (below_undrew z8); have BX := Lib.hid ((((Bx.new W4 30 #[.int .i64 0, .slice none 0 0] (Nat.le_refl _)).drewN 1)).below' z8); have HN8_0 := Lib.hid hn8_0; clear hn8_0)
        | (go_at_call 18; have hq := BX; refine (toTurn_any _ _ _ _ x1_0 _ ((h1_0.below yw_W4).below zz8) p1_0).mono ?_; rintro e W9 ⟨B9_0, rfl, o9_0, z9⟩; have zz9 : Below W4.heap.size W4 W9 := zz8.trans (z9.mono zz8.size); have BX2 := Lib.hid (BX.out.below' z9); clear hq BX; have BX := BX2; clear BX2; have o8_0 := o8_0.below z9)
        | (go_at_call 18; refine (toTurn_any _ _ _ _ x1_0 _ ((h1_0.below yw_W4).below zz8) p1_0).mono ?_; rintro e W9 ⟨B9_0, rfl, o9_0, z9⟩; have zz9 : Below W4.heap.size W4 W9 := zz8.trans (z9.mono zz8.size); have o8_0 := o8_0.below z9)
        | (go_at_call 18; refine (toTurn_any _ _ _ _ x1_0 _ (((h1_0.below yw_W4).below zz8).alloc _) p1_0).mono ?_; rintro e W9 ⟨B9_0, rfl, o9_0, z9⟩; have zz9 : Below W4.heap.size W4 W9 := zz8.trans ((below_of_alloc z9).mono zz8.size); have BX := Lib.hid ((Bx.new W8 30 #[.int .i64 0, .slice none 0 0] zz8.size).below' z9); have o8_0 := (o8_0.alloc (.cells #[.int .i64 0, .slice none 0 0] 30)).below z9)
        | (go_at_call 16; have hq := BX; (with_reducible refine (runCycS_any _ _ _ us8_0 _ _ _ _ x1_0 _ _ o8_0.sii o9_0.asI p0_0 (rows_le HN8_0.out HR0_0.out) p1_0).mono ?_); rw [HN8_0.out]; rw [← HRES.out]; rintro e W10 ⟨L10, c10, rfl, oL10, z10⟩; have zz10 : Below W4.heap.size W4 W10 := zz9.trans (z10.mono zz9.size); have BX2 := Lib.hid (BX.out.below' z10); clear hq BX; have BX := BX2; clear BX2; have oL10 := oL10.mono zz9.size; have x0 : _ = some (Value.int .i64 0) := BX.out.2.cell 0; have f0 := BX.out.2.frozen 0; have x1 : _ = some (Value.slice none 0 0) := BX.out.2.cell 1; have f1 := BX.out.2.frozen 1)
        | (go_at_call 16; (with_reducible refine (runCycS_any _ _ _ us8_0 _ _ _ _ x1_0 _ _ o8_0.sii o9_0.asI p0_0 (rows_le HN8_0.out HR0_0.out) p1_0).mono ?_); rw [HN8_0.out]; rw [← HRES.out]; rintro e W10 ⟨L10, c10, rfl, oL10, z10⟩; have zz10 : Below W4.heap.size W4 W10 := zz9.trans (z10.mono zz9.size); have oL10 := oL10.mono zz9.size)
        | (go_at_call 16; (with_reducible refine (runCycS_any _ _ _ us8_0 _ _ _ _ x1_0 _ _ (o8_0.alloc _).sii (o9_0.alloc _).asI p0_0 (rows_le HN8_0.out HR0_0.out) p1_0).mono ?_); rw [HN8_0.out]; rw [← HRES.out]; rintro e W10 ⟨L10, c10, rfl, oL10, z10⟩; have zz10 : Below W4.heap.size W4 W10 := zz9.trans ((below_of_alloc z10).mono zz9.size); have BX := Lib.hid ((Bx.new W9 30 #[.int .i64 0, .slice none 0 0] zz9.size).below' z10); have oL10 := oL10.mono (show W4.heap.size ≤ _ from Nat.le_trans zz9.size (by simp)); have x0 : _ = some (Value.int .i64 0) := BX.out.2.cell 0; have f0 := BX.out.2.frozen 0; have x1 : _ = some (Value.slice none 0 0) := BX.out.2.cell 1; have f1 := BX.out.2.frozen 1))
    all_goals
      go_wp2_with fail
      go_meet
      first
        | exact ⟨W10.heap.size, L10, c10, rfl, rfl, rfl, rfl, zz10.size, Blk.new W10 _ _, oL10.alloc _, zz10.alloc zz10.size _⟩
        | exact ⟨_, L10, c10, rfl, rfl, rfl, rfl, BX.out.1, turn_set BX.out.2 _ _, turn_far2 BX.out.2 oL10 _ _, turn_below zz10 BX.out.1 _ _⟩
  case rest =>
    obtain ⟨g11, L11, c11, rfl, rfl, rfl, rfl, hg11, bx11, oL11, z11⟩ := hcut
    clear uc5 uc6 uc7
    clear KEEPA
    obtain ⟨W11, hWc⟩ : ∃ W, W = wc := ⟨_, rfl⟩
    rw [← hWc] at oL11 z11 bx11
    rw [← hWc]
    clear hWc
    have hlen : res.1.word.length ≤ 1048576 := by rw [HRES.out]; exact runCycF_len (nums x0_0) ⟨d1_0, x1_0⟩ b2
    have lx0 := hlen
    have yW0_W11 : Below W0.heap.size W0 W11 := yW0_W4.trans (z11.mono yW0_W4.size)
    have uc12 : W11.cell? ⟨w.heap.size, 0, none⟩ = some (.slice A0_0 n0_0 c0_0) := (bb0.below' yW0_W11).cell 0
    go_wp2_with fail
    have yw_W11 : Below w.heap.size w W11 := yw_W4.trans (z11.mono yw_W4.size)
    refine (toCyclic_any _ _ _ x0_0 _ (h0_0.below yw_W11) p0_0 HR0_0.out).mono ?_
    rintro e W13 ⟨B13_0, us13_0, rfl, o13_0, hn13_0, z13⟩
    have HN13_0 := Lib.hid hn13_0; clear hn13_0
    clear uc12
    obtain ⟨W14, hW14⟩ : ∃ W, W = W13.alloc (.cells #[.slice B13_0 n0_0 n0_0] 33) := ⟨_, rfl⟩
    have cb0 : Blk W14 W13.heap.size 33 #[.slice B13_0 n0_0 n0_0] := by rw [hW14]; exact Blk.new W13 _ _
    have z14 : Below W13.heap.size W13 W14 := by rw [hW14]; exact (Below.refl _ _).alloc (Nat.le_refl _) _
    have HW14 := Lib.hid hW14
    clear hW14
    have yW0_W13 : Below W0.heap.size W0 W13 := yW0_W11.trans (z13.mono yW0_W11.size)
    have yW0_W14 : Below W0.heap.size W0 W14 := yW0_W13.trans (z14.mono yW0_W13.size)
    have uc15 : W14.cell? ⟨(w.heap.size + 1), 0, none⟩ = some (.int .i64 d1_0) := (bb1.below' yW0_W14).cell 0
    have uc16 : W14.cell? ⟨(w.heap.size + 1), 1, none⟩ = some (.slice A1_0 n1_0 c1_0) := (bb1.below' yW0_W14).cell 1
    go_upto_region 10 with fail
    rw [← HW14.out]
    go_wp2_with fail
    have yw_W13 : Below w.heap.size w W13 := yw_W11.trans (z13.mono yw_W11.size)
    have yw_W14 : Below w.heap.size w W14 := yw_W13.trans (z14.mono yw_W13.size)
    refine (toTurn_any _ _ _ _ x1_0 _ (h1_0.below yw_W14) p1_0).mono ?_
    rintro e W17 ⟨B17_0, rfl, o17_0, z17⟩
    clear uc15 uc16
    obtain ⟨W18, hW18⟩ : ∃ W, W = W17.alloc (.cells #[.int .i64 d1_0, .slice B17_0 n1_0 n1_0] 30) := ⟨_, rfl⟩
    have cb1 : Blk W18 W17.heap.size 30 #[.int .i64 d1_0, .slice B17_0 n1_0 n1_0] := by rw [hW18]; exact Blk.new W17 _ _
    have z18 : Below W17.heap.size W17 W18 := by rw [hW18]; exact (Below.refl _ _).alloc (Nat.le_refl _) _
    have HW18 := Lib.hid hW18
    clear hW18
    have yW14_W18 : Below W14.heap.size W14 W18 := z17.trans (z18.mono z17.size)
    have uc19 : W18.cell? ⟨W13.heap.size, 0, none⟩ = some (.slice B13_0 n0_0 n0_0) := (cb0.below' yW14_W18).cell 0
    have uc20 : W18.cell? ⟨W17.heap.size, 0, none⟩ = some (.int .i64 d1_0) := cb1.cell 0
    have uc21 : W18.cell? ⟨W17.heap.size, 1, none⟩ = some (.slice B17_0 n1_0 n1_0) := cb1.cell 1
    go_upto_region 11 with fail
    rw [← HW18.out]
    go_wp2_with fail
    have yW13_W17 : Below W13.heap.size W13 W17 := z14.trans (z17.mono z14.size)
    have yW13_W18 : Below W13.heap.size W13 W18 := yW13_W17.trans (z18.mono yW13_W17.size)
    refine (runCycI_any _ _ _ us13_0 _ _ _ _ x1_0 _ _ (o13_0.below yW13_W18).sii (o17_0.below z18).asI p0_0 (rows_le HN13_0.out HR0_0.out) p1_0).mono ?_
    rw [HN13_0.out, ← HRES.out]
    rintro e W22 ⟨L22, c22, rfl, oL22, z22⟩
    clear uc19 uc20 uc21
    obtain ⟨W23, hW23⟩ : ∃ W, W = W22.alloc (.cells #[.int .i64 res.1.at_, .slice L22 res.1.word.length c22] 30) := ⟨_, rfl⟩
    have ib : Blk W23 W22.heap.size 30 #[.int .i64 res.1.at_, .slice L22 res.1.word.length c22] := by rw [hW23]; exact Blk.new W22 _ _
    have z23 : Below W22.heap.size W22 W23 := by rw [hW23]; exact (Below.refl _ _).alloc (Nat.le_refl _) _
    have HW23 := Lib.hid hW23
    clear hW23
    go_upto_region 12 with fail
    rw [← HW23.out]
    have uc24 : W23.cell? ⟨W22.heap.size, 0, none⟩ = some (.int .i64 res.1.at_) := ib.cell 0
    have uc25 : W23.cell? ⟨W22.heap.size, 1, none⟩ = some (.slice L22 res.1.word.length c22) := ib.cell 1
    have yW11_W14 : Below W11.heap.size W11 W14 := z13.trans (z14.mono z13.size)
    have yW11_W17 : Below W11.heap.size W11 W17 := yW11_W14.trans (z17.mono yW11_W14.size)
    have yW11_W18 : Below W11.heap.size W11 W18 := yW11_W17.trans (z18.mono yW11_W17.size)
    have yW11_W22 : Below W11.heap.size W11 W22 := yW11_W18.trans (z22.mono yW11_W18.size)
    have yW11_W23 : Below W11.heap.size W11 W23 := yW11_W22.trans (z23.mono yW11_W22.size)
    have uc26 : W23.cell? ⟨g11, 0, none⟩ = some (.int .i64 res.1.at_) := (bx11.below' yW11_W23).cell 0
    have uc27 : W23.cell? ⟨g11, 1, none⟩ = some (.slice L11 res.1.word.length c11) := (bx11.below' yW11_W23).cell 1
    go_wp2_with fail
    refine (eqTurn_any _ _ _ _ res.1.word _ _ _ _ res.1.word _ (oL22.below z23).rd (oL11.below yW11_W23).rd lx0).mono ?_
    rintro e W28 ⟨rfl, z28⟩
    rw [sameTurnB_self]
    clear uc24 uc25 uc26 uc27
    have yW14_W22 : Below W14.heap.size W14 W22 := yW14_W18.trans (z22.mono yW14_W18.size)
    have yW14_W23 : Below W14.heap.size W14 W23 := yW14_W22.trans (z23.mono yW14_W22.size)
    have yW14_W28 : Below W14.heap.size W14 W28 := yW14_W23.trans (z28.mono yW14_W23.size)
    have uc29 : W28.cell? ⟨W13.heap.size, 0, none⟩ = some (.slice B13_0 n0_0 n0_0) := (cb0.below' yW14_W28).cell 0
    have yW0_W17 : Below W0.heap.size W0 W17 := yW0_W14.trans (z17.mono yW0_W14.size)
    have yW0_W18 : Below W0.heap.size W0 W18 := yW0_W17.trans (z18.mono yW0_W17.size)
    have yW0_W22 : Below W0.heap.size W0 W22 := yW0_W18.trans (z22.mono yW0_W18.size)
    have yW0_W23 : Below W0.heap.size W0 W23 := yW0_W22.trans (z23.mono yW0_W22.size)
    have yW0_W28 : Below W0.heap.size W0 W28 := yW0_W23.trans (z28.mono yW0_W23.size)
    have uc30 : W28.cell? ⟨w.heap.size, 0, none⟩ = some (.slice A0_0 n0_0 c0_0) := (bb0.below' yW0_W28).cell 0
    have yw_W17 : Below w.heap.size w W17 := yw_W14.trans (z17.mono yw_W14.size)
    have yw_W18 : Below w.heap.size w W18 := yw_W17.trans (z18.mono yw_W17.size)
    have yw_W22 : Below w.heap.size w W22 := yw_W18.trans (z22.mono yw_W18.size)
    have yw_W23 : Below w.heap.size w W23 := yw_W22.trans (z23.mono yw_W22.size)
    have yw_W28 : Below w.heap.size w W28 := yw_W23.trans (z28.mono yw_W23.size)
    have yW13_W22 : Below W13.heap.size W13 W22 := yW13_W18.trans (z22.mono yW13_W18.size)
    have yW13_W23 : Below W13.heap.size W13 W23 := yW13_W22.trans (z23.mono yW13_W22.size)
    have yW13_W28 : Below W13.heap.size W13 W28 := yW13_W23.trans (z28.mono yW13_W23.size)
    go_wp2_with fail
    go_region_held3 (fun w' => w'.cell? ⟨W13.heap.size, 0, none⟩ = some (.slice B13_0 n0_0 n0_0) ∧ w'.cell? ⟨w.heap.size, 0, none⟩ = some (.slice A0_0 n0_0 c0_0))
      (first
        | (go_keep; done)
        | (exact ⟨((cb0.below' yW14_W28).below' zz32).cell 0, ((bb0.below' yW0_W28).below' zz32).cell 0⟩)
        | (exact ⟨((cb0.below' yW14_W28).below' zz31).cell 0, ((bb0.below' yW0_W28).below' zz31).cell 0⟩))
      (first
        | (go_at_call 17; refine (toCyclic_any _ _ _ x0_0 _ ((h0_0.below yw_W28).drewN 1) p0_0 HR0_0.out).mono ?_; rintro e W31 ⟨B31_0, us31_0, rfl, o31_0, hn31_0, z31⟩; have zz31 : Below W28.heap.size W28 W31 := below_undrew z31; have HN31_0 := Lib.hid hn31_0; clear hn31_0)
        | (go_at_call 21; refine (eqCyclic_any _ _ _ us13_0 _ _ _ us31_0 _ ((o13_0.below yW13_W28).below zz31).sii o31_0.sii p0_0 (rows_le HN13_0.out HR0_0.out)).mono ?_; rintro e W32 ⟨rfl, z32⟩; have zz32 : Below W28.heap.size W28 W32 := zz31.trans (z32.mono zz31.size)))
    rw [HN13_0.out, HN31_0.out, sameCyclicB_self]
    clear uc29 uc30
    clear o31_0 z31 zz31 z32
    have yW18_W23 : Below W18.heap.size W18 W23 := z22.trans (z23.mono z22.size)
    have yW18_W28 : Below W18.heap.size W18 W28 := yW18_W23.trans (z28.mono yW18_W23.size)
    have yW18_W32 : Below W18.heap.size W18 W32 := yW18_W28.trans (zz32.mono yW18_W28.size)
    have uc33 : W32.cell? ⟨W17.heap.size, 0, none⟩ = some (.int .i64 d1_0) := (cb1.below' yW18_W32).cell 0
    have uc34 : W32.cell? ⟨W17.heap.size, 1, none⟩ = some (.slice B17_0 n1_0 n1_0) := (cb1.below' yW18_W32).cell 1
    have yW0_W32 : Below W0.heap.size W0 W32 := yW0_W28.trans (zz32.mono yW0_W28.size)
    have uc35 : W32.cell? ⟨(w.heap.size + 1), 0, none⟩ = some (.int .i64 d1_0) := (bb1.below' yW0_W32).cell 0
    have uc36 : W32.cell? ⟨(w.heap.size + 1), 1, none⟩ = some (.slice A1_0 n1_0 c1_0) := (bb1.below' yW0_W32).cell 1
    have yw_W32 : Below w.heap.size w W32 := yw_W28.trans (zz32.mono yw_W28.size)
    have yW17_W22 : Below W17.heap.size W17 W22 := z18.trans (z22.mono z18.size)
    have yW17_W23 : Below W17.heap.size W17 W23 := yW17_W22.trans (z23.mono yW17_W22.size)
    have yW17_W28 : Below W17.heap.size W17 W28 := yW17_W23.trans (z28.mono yW17_W23.size)
    have yW17_W32 : Below W17.heap.size W17 W32 := yW17_W28.trans (zz32.mono yW17_W28.size)
    go_wp2_with fail
    go_region_held3 (fun w' => w'.cell? ⟨W17.heap.size, 0, none⟩ = some (.int .i64 d1_0) ∧ w'.cell? ⟨W17.heap.size, 1, none⟩ = some (.slice B17_0 n1_0 n1_0) ∧ w'.cell? ⟨(w.heap.size + 1), 0, none⟩ = some (.int .i64 d1_0) ∧ w'.cell? ⟨(w.heap.size + 1), 1, none⟩ = some (.slice A1_0 n1_0 c1_0))
      (first
        | (go_keep; done)
        | (exact ⟨((cb1.below' yW18_W32).below' zz38).cell 0, ((cb1.below' yW18_W32).below' zz38).cell 1, ((bb1.below' yW0_W32).below' zz38).cell 0, ((bb1.below' yW0_W32).below' zz38).cell 1⟩)
        | (exact ⟨((cb1.below' yW18_W32).below' zz37).cell 0, ((cb1.below' yW18_W32).below' zz37).cell 1, ((bb1.below' yW0_W32).below' zz37).cell 0, ((bb1.below' yW0_W32).below' zz37).cell 1⟩))
      (first
        | (go_at_call 18; refine (toTurn_any _ _ _ _ x1_0 _ ((h1_0.below yw_W32).drewN 1) p1_0).mono ?_; rintro e W37 ⟨B37_0, rfl, o37_0, z37⟩; have zz37 : Below W32.heap.size W32 W37 := below_undrew z37)
        | (go_at_call 20; refine (eqTurn_any _ _ _ _ x1_0 _ _ _ _ x1_0 _ ((o17_0.below yW17_W32).below zz37).asI o37_0.asI p1_0).mono ?_; rintro e W38 ⟨rfl, z38⟩; have zz38 : Below W32.heap.size W32 W38 := zz37.trans (z38.mono zz37.size)))
    rw [sameTurnB_self]
    clear uc33 uc34 uc35 uc36
    clear o37_0 z37 zz37 z38
    have TI0 : Hid (2 ∈ [2]) := Lib.hid (by decide)
    have TN_SS : Hid (25 ∉ [2]) := Lib.hid (by decide)
    have TN_Cyclic : Hid (33 ∉ [2]) := Lib.hid (by decide)
    have TL_Cyclic : Hid (24 ∉ [2]) := Lib.hid (by decide)
    have TN_Turn : Hid (30 ∉ [2]) := Lib.hid (by decide)
    have TL_Turn : Hid (27 ∉ [2]) := Lib.hid (by decide)
    have hs_W1 : W0.heap.size ≤ W1.heap.size := z1.size
    have hs_W4 : W1.heap.size ≤ W4.heap.size := z4.size
    have hs_W11 : W4.heap.size ≤ W11.heap.size := z11.size
    have hs_W13 : W11.heap.size ≤ W13.heap.size := z13.size
    have hs_W14 : W13.heap.size ≤ W14.heap.size := z14.size
    have hs_W17 : W14.heap.size ≤ W17.heap.size := z17.size
    have hs_W18 : W17.heap.size ≤ W18.heap.size := z18.size
    have hs_W22 : W18.heap.size ≤ W22.heap.size := z22.size
    have hs_W23 : W22.heap.size ≤ W23.heap.size := z23.size
    have hs_W28 : W23.heap.size ≤ W28.heap.size := z28.size
    have hs_W32 : W28.heap.size ≤ W32.heap.size := zz32.size
    have hs_W38 : W32.heap.size ≤ W38.heap.size := zz38.size
    have yW13_W32 : Below W13.heap.size W13 W32 := yW13_W28.trans (zz32.mono yW13_W28.size)
    have yW13_W38 : Below W13.heap.size W13 W38 := yW13_W32.trans (zz38.mono yW13_W32.size)
    have m0_0 : MkII W38 W11.heap.size W18.heap.size 25 2 B13_0 n0_0 n0_0 us13_0 := by
      have h1 := (o13_0.below yW13_W38)
      exact ⟨h1.1.mono (by omega), fun t ht => ((h1.2.1 t ht).mono (by omega)).mk (fun b hb => by have := (o13_0.2.1 t ht).blk_lt b hb; omega)⟩
    have pu0_0 : total us13_0 ≤ 1048576 := by rw [total_same HN13_0.out]; exact pt0_0
    have yW17_W38 : Below W17.heap.size W17 W38 := yW17_W32.trans (zz38.mono yW17_W32.size)
    have m1_0 : Mk W38 W11.heap.size W18.heap.size 2 1 B17_0 n1_0 := (((o17_0.below yW17_W38)).mono (by omega)).mk (fun b hb => by have := o17_0.blk_lt b hb; omega)
    have yW0_W38 : Below W0.heap.size W0 W38 := yW0_W32.trans (zz38.mono yW0_W32.size)
    have yW14_W32 : Below W14.heap.size W14 W32 := yW14_W28.trans (zz32.mono yW14_W28.size)
    have yW14_W38 : Below W14.heap.size W14 W38 := yW14_W32.trans (zz38.mono yW14_W32.size)
    have yW18_W38 : Below W18.heap.size W18 W38 := yW18_W32.trans (zz38.mono yW18_W32.size)
    have yw_W38 : Below w.heap.size w W38 := yw_W32.trans (zz38.mono yw_W32.size)
    have yW22_W28 : Below W22.heap.size W22 W28 := z23.trans (z28.mono z23.size)
    have yW22_W32 : Below W22.heap.size W22 W32 := yW22_W28.trans (zz32.mono yW22_W28.size)
    have yW22_W38 : Below W22.heap.size W22 W38 := yW22_W32.trans (zz38.mono yW22_W32.size)
    have yW11_W28 : Below W11.heap.size W11 W28 := yW11_W23.trans (z28.mono yW11_W23.size)
    have yW11_W32 : Below W11.heap.size W11 W32 := yW11_W28.trans (zz32.mono yW11_W28.size)
    have yW11_W38 : Below W11.heap.size W11 W38 := yW11_W32.trans (zz38.mono yW11_W32.size)
    have io0 := (oL22.below yW22_W38)
    have so0 := (oL11.below yW11_W38)
    have yW23_W32 : Below W23.heap.size W23 W32 := z28.trans (zz32.mono z28.size)
    have yW23_W38 : Below W23.heap.size W23 W38 := yW23_W32.trans (zz38.mono yW23_W32.size)
    have ibm := (ib.below' yW23_W38)
    have sbm := (bx11.below' yW11_W38)
    have bm0 := (bb0.below' yW0_W38)
    have cm0 := (cb0.below' yW14_W38)
    have bm1 := (bb1.below' yW0_W38)
    have cm1 := (cb1.below' yW18_W38)
    have cq0 := cm0
    have uc39 : W38.cell? ⟨W13.heap.size, 0, none⟩ = some (.slice B13_0 n0_0 n0_0) := cq0.cell 0
    go_wp2_with fail
    refine (markCyclic_m [2] _ _ _ us13_0 _ _ W11.heap.size W18.heap.size m0_0 p0_0 pu0_0 TI0.out TN_SS.out TN_Cyclic.out (by omega) (by omega)).mono ?_
    rintro e W40 ⟨rfl, f40⟩
    clear uc39
    have cq1 := cm1.mkf f40 TN_Turn.out
    have uc41 : W40.cell? ⟨W17.heap.size, 0, none⟩ = some (.int .i64 d1_0) := cq1.cell 0
    have uc42 : W40.cell? ⟨W17.heap.size, 1, none⟩ = some (.slice B17_0 n1_0 n1_0) := cq1.cell 1
    go_wp2_with fail
    refine (markTurn_m [2] _ _ _ _ _ _ W11.heap.size W18.heap.size (m1_0.mkf f40) p1_0 TI0.out TN_Turn.out (by omega) (by omega)).mono ?_
    rintro e W43 ⟨rfl, f43⟩
    clear uc41 uc42
    have ff43 := f40.trans f43
    have io0 := io0.mkf_far ff43 (fun b hb => .inr (oL22.blk_ge b hb))
    have so0 := so0.mkf_far ff43 (fun b hb => .inl (by have := oL11.blk_lt b hb; omega))
    have ibm := ibm.mkf ff43 TN_Turn.out
    have sbm := sbm.mkf ff43 TN_Turn.out
    have bm0 := bm0.mkf ff43 TL_Cyclic.out
    have bm1 := bm1.mkf ff43 TL_Turn.out
    have yM : Below w.heap.size w W43 := yw_W38.trans (ff43.below yw_W11.size yw_W38.size)
    have hs_W43 : W38.heap.size ≤ W43.heap.size := ff43.size
    clear ff43
    have uc44 : W43.cell? ⟨W22.heap.size, 0, none⟩ = some (.int .i64 res.1.at_) := ibm.cell 0
    have uc45 : W43.cell? ⟨W22.heap.size, 1, none⟩ = some (.slice L22 res.1.word.length c22) := ibm.cell 1
    have uc46 : W43.cell? ⟨g11, 0, none⟩ = some (.int .i64 res.1.at_) := sbm.cell 0
    have uc47 : W43.cell? ⟨g11, 1, none⟩ = some (.slice L11 res.1.word.length c11) := sbm.cell 1
    have gneg : ¬ ((1 : Int) + ((total us13_0 : Nat) : Int) + ((n1_0 : Nat) : Int) < 0) := by omega
    go_wp2_with fail
    refine (eqTurn_any _ _ _ _ res.1.word _ _ _ _ res.1.word _ io0.rd so0.rd lx0).mono ?_
    rintro e W48 ⟨rfl, z48⟩
    rw [sameTurnB_self]
    clear uc44 uc45 uc46 uc47
    clear gneg
    have hs_W48 : W43.heap.size ≤ W48.heap.size := z48.size
    have uc49 : W48.cell? ⟨W22.heap.size, 0, none⟩ = some (.int .i64 res.1.at_) := (ibm.below' z48).cell 0
    have uc50 : W48.cell? ⟨W22.heap.size, 1, none⟩ = some (.slice L22 res.1.word.length c22) := (ibm.below' z48).cell 1
    go_wp2_with fail
    refine (markTurn_c _ _ _ _ res.1.word _ _ W18.heap.size W22.heap.size (io0.below z48) (fun b hb => oL22.blk_lt b hb) lx0 (by omega) (by omega)).mono ?_
    rintro e W51 ⟨rfl, eL, t51⟩
    clear uc49 uc50
    have so0 := (so0.below z48).touch t51 (fun b hb => .inl (by have := oL11.blk_lt b hb; omega))
    have bm0 := (bm0.below' z48).touch t51 (.inl (by have := bb0.lt; omega))
    have bm1 := (bm1.below' z48).touch t51 (.inl (by have := bb1.lt; omega))
    have ibm := (ibm.below' z48).touch t51 (.inr (Nat.le_refl _))
    have sbm := (sbm.below' z48).touch t51 (.inl (by have := bx11.lt; omega))
    have yw_W48 : Below w.heap.size w W48 := yM.trans (z48.mono yM.size)
    have hlow : w.heap.size ≤ W18.heap.size := by have := yw_W11.size; omega
    have yN : Below w.heap.size w W51 := yw_W48.trans (t51.below hlow yw_W48.size)
    have hs_W51 : W48.heap.size ≤ W51.heap.size := t51.size
    clear t51
    have uc52 : W51.cell? ⟨W22.heap.size, 0, none⟩ = some (.int .i64 res.1.at_) := ibm.cell 0
    have uc53 : W51.cell? ⟨W22.heap.size, 1, none⟩ = some (.slice L22 res.1.word.length c22) := ibm.cell 1
    go_wp2_with fail
    refine (heldTurn_c _ _ _ _ _ _ eL.si lx0 (by omega) (by omega)).mono ?_
    rintro e W54 ⟨rfl, z54⟩
    clear uc52 uc53
    have gneg : ¬ ((1 : Int) + (res.1.word.length : Int) < 0) := by omega
    have uc55 : W54.cell? ⟨w.heap.size, 0, none⟩ = some (.slice A0_0 n0_0 c0_0) := (bm0.below' z54).cell 0
    have uc56 : W54.cell? ⟨(w.heap.size + 1), 0, none⟩ = some (.int .i64 d1_0) := (bm1.below' z54).cell 0
    have uc57 : W54.cell? ⟨(w.heap.size + 1), 1, none⟩ = some (.slice A1_0 n1_0 c1_0) := (bm1.below' z54).cell 1
    clear uc55 uc56 uc57
    have uc58 : W54.cell? ⟨w.heap.size, 0, none⟩ = some (.slice A0_0 n0_0 c0_0) := (bm0.below' z54).cell 0
    have uc59 : W54.cell? ⟨(w.heap.size + 1), 0, none⟩ = some (.int .i64 d1_0) := (bm1.below' z54).cell 0
    have uc60 : W54.cell? ⟨(w.heap.size + 1), 1, none⟩ = some (.slice A1_0 n1_0 c1_0) := (bm1.below' z54).cell 1
    have yw_W54 : Below w.heap.size w W54 := yN.trans (z54.mono yN.size)
    have KEEPB : Hid (∀ cur, Below W54.heap.size W54 cur → cur.cell? ⟨w.heap.size, 0, none⟩ = some (.slice A0_0 n0_0 c0_0) ∧ cur.cell? ⟨(w.heap.size + 1), 0, none⟩ = some (.int .i64 d1_0) ∧ cur.cell? ⟨(w.heap.size + 1), 1, none⟩ = some (.slice A1_0 n1_0 c1_0)) := fun cur h =>
      ⟨((bm0.below' z54).below' h).cell 0, ((bm1.below' z54).below' h).cell 0, ((bm1.below' z54).below' h).cell 1⟩
    go_upto_region 31 with fail
    go_cut [21, 22, 23, 24] (fun s21 s22 s23 s24 wx => TurnBox4 W54.heap.size W54 s21 s22 s23 s24 res wx)
    case first =>
      go_region_held3 (fun w' => w'.cell? ⟨w.heap.size, 0, none⟩ = some (.slice A0_0 n0_0 c0_0) ∧ w'.cell? ⟨(w.heap.size + 1), 0, none⟩ = some (.int .i64 d1_0) ∧ w'.cell? ⟨(w.heap.size + 1), 1, none⟩ = some (.slice A1_0 n1_0 c1_0))
        (first
          | (go_keep; done)
          | (exact KEEPB.out _ (by first
              | exact zz63
              | exact zz63.alloc zz63.size _
              | exact zz62
              | exact zz62.alloc zz62.size _
              | exact zz61
              | exact zz61.alloc zz61.size _
              | exact turn_below (zz63.alloc zz63.size _) zz63.size _ _
              | exact turn_below zz63 BX.out.1 _ _)))
        (first
          | (go_at_call 17; refine (toCyclic_any _ _ _ x0_0 _ ((h0_0.below yw_W54).drewN 1) p0_0 HR0_0.out).mono ?_; rintro e W61 ⟨B61_0, us61_0, rfl, o61_0, hn61_0, z61⟩; have zz61 : Below W54.heap.size W54 W61 := below_undrew z61; have HN61_0 := Lib.hid hn61_0; clear hn61_0)
          | (go_at_call 17; refine (toCyclic_any _ _ _ x0_0 _ (((h0_0.below yw_W54).alloc _).drewN 1) p0_0 HR0_0.out).mono ?_; rintro e W61 ⟨B61_0, us61_0, rfl, o61_0, hn61_0, z61⟩; have zz61 : Below W54.heap.size W54 W61 := below_of_alloc (below_undrew z61); have BX := Lib.hid ((((Bx.new W54 30 #[.int .i64 0, .slice none 0 0] (Nat.le_refl _)).drewN 1)).below' z61); have HN61_0 := Lib.hid hn61_0; clear hn61_0)
          | (go_at_call 18; have hq := BX; refine (toTurn_any _ _ _ _ x1_0 _ ((h1_0.below yw_W54).below zz61) p1_0).mono ?_; rintro e W62 ⟨B62_0, rfl, o62_0, z62⟩; have zz62 : Below W54.heap.size W54 W62 := zz61.trans (z62.mono zz61.size); have BX2 := Lib.hid (BX.out.below' z62); clear hq BX; have BX := BX2; clear BX2; have o61_0 := o61_0.below z62)
          | (go_at_call 18; refine (toTurn_any _ _ _ _ x1_0 _ ((h1_0.below yw_W54).below zz61) p1_0).mono ?_; rintro e W62 ⟨B62_0, rfl, o62_0, z62⟩; have zz62 : Below W54.heap.size W54 W62 := zz61.trans (z62.mono zz61.size); have o61_0 := o61_0.below z62)
          | (go_at_call 18; refine (toTurn_any _ _ _ _ x1_0 _ (((h1_0.below yw_W54).below zz61).alloc _) p1_0).mono ?_; rintro e W62 ⟨B62_0, rfl, o62_0, z62⟩; have zz62 : Below W54.heap.size W54 W62 := zz61.trans ((below_of_alloc z62).mono zz61.size); have BX := Lib.hid ((Bx.new W61 30 #[.int .i64 0, .slice none 0 0] zz61.size).below' z62); have o61_0 := (o61_0.alloc (.cells #[.int .i64 0, .slice none 0 0] 30)).below z62)
          | (go_at_call 19; have hq := BX; (with_reducible refine (runCycI_any _ _ _ us61_0 _ _ _ _ x1_0 _ _ o61_0.sii o62_0.asI p0_0 (rows_le HN61_0.out HR0_0.out) p1_0).mono ?_); rw [HN61_0.out]; rw [← HRES.out]; rintro e W63 ⟨L63, c63, rfl, oL63, z63⟩; have zz63 : Below W54.heap.size W54 W63 := zz62.trans (z63.mono zz62.size); have BX2 := Lib.hid (BX.out.below' z63); clear hq BX; have BX := BX2; clear BX2; have oL63 := oL63.mono zz62.size; have x0 : _ = some (Value.int .i64 0) := BX.out.2.cell 0; have f0 := BX.out.2.frozen 0; have x1 : _ = some (Value.slice none 0 0) := BX.out.2.cell 1; have f1 := BX.out.2.frozen 1)
          | (go_at_call 19; (with_reducible refine (runCycI_any _ _ _ us61_0 _ _ _ _ x1_0 _ _ o61_0.sii o62_0.asI p0_0 (rows_le HN61_0.out HR0_0.out) p1_0).mono ?_); rw [HN61_0.out]; rw [← HRES.out]; rintro e W63 ⟨L63, c63, rfl, oL63, z63⟩; have zz63 : Below W54.heap.size W54 W63 := zz62.trans (z63.mono zz62.size); have oL63 := oL63.mono zz62.size)
          | (go_at_call 19; (with_reducible refine (runCycI_any _ _ _ us61_0 _ _ _ _ x1_0 _ _ (o61_0.alloc _).sii (o62_0.alloc _).asI p0_0 (rows_le HN61_0.out HR0_0.out) p1_0).mono ?_); rw [HN61_0.out]; rw [← HRES.out]; rintro e W63 ⟨L63, c63, rfl, oL63, z63⟩; have zz63 : Below W54.heap.size W54 W63 := zz62.trans ((below_of_alloc z63).mono zz62.size); have BX := Lib.hid ((Bx.new W62 30 #[.int .i64 0, .slice none 0 0] zz62.size).below' z63); have oL63 := oL63.mono (show W54.heap.size ≤ _ from Nat.le_trans zz62.size (by simp)); have x0 : _ = some (Value.int .i64 0) := BX.out.2.cell 0; have f0 := BX.out.2.frozen 0; have x1 : _ = some (Value.slice none 0 0) := BX.out.2.cell 1; have f1 := BX.out.2.frozen 1))
      all_goals
        go_wp2_with fail
        go_meet
        first
          | exact ⟨W63.heap.size, L63, c63, rfl, rfl, rfl, rfl, zz63.size, Blk.new W63 _ _, oL63.alloc _, zz63.alloc zz63.size _⟩
          | exact ⟨_, L63, c63, rfl, rfl, rfl, rfl, BX.out.1, turn_set BX.out.2 _ _, turn_far2 BX.out.2 oL63 _ _, turn_below zz63 BX.out.1 _ _⟩
    case rest =>
      obtain ⟨g64, L64, c64, rfl, rfl, rfl, rfl, hg64, bx64, oL64, z64⟩ := hcut
      clear uc58 uc59 uc60
      clear KEEPB
      obtain ⟨W64, hWc⟩ : ∃ W, W = wc := ⟨_, rfl⟩
      rw [← hWc] at oL64 z64 bx64
      rw [← hWc]
      clear hWc
      have uc65 : W64.cell? ⟨g64, 0, none⟩ = some (.int .i64 res.1.at_) := bx64.cell 0
      have uc66 : W64.cell? ⟨g64, 1, none⟩ = some (.slice L64 res.1.word.length c64) := bx64.cell 1
      have yW51_W64 : Below W51.heap.size W51 W64 := z54.trans (z64.mono z54.size)
      have uc67 : W64.cell? ⟨g11, 0, none⟩ = some (.int .i64 res.1.at_) := (sbm.below' yW51_W64).cell 0
      have uc68 : W64.cell? ⟨g11, 1, none⟩ = some (.slice L11 res.1.word.length c11) := (sbm.below' yW51_W64).cell 1
      go_wp2_with fail
      refine (eqTurn_any _ _ _ _ res.1.word _ _ _ _ res.1.word _ oL64.rd (so0.below yW51_W64).rd lx0).mono ?_
      rintro e W69 ⟨rfl, z69⟩
      rw [sameTurnB_self]
      clear uc65 uc66 uc67 uc68
      have yW51_W69 : Below W51.heap.size W51 W69 := yW51_W64.trans (z69.mono yW51_W64.size)
      have uc70 : W69.cell? ⟨W22.heap.size, 0, none⟩ = some (.int .i64 res.1.at_) := (ibm.below' yW51_W69).cell 0
      have uc71 : W69.cell? ⟨W22.heap.size, 1, none⟩ = some (.slice L22 res.1.word.length c22) := (ibm.below' yW51_W69).cell 1
      go_wp2_with fail
      refine (heldTurn_c _ _ _ _ _ _ (eL.below yW51_W69).si lx0 (by omega) (by omega)).mono ?_
      rintro e W72 ⟨rfl, z72⟩
      clear uc70 uc71
      have yw_W64 : Below w.heap.size w W64 := yw_W54.trans (z64.mono yw_W54.size)
      have yw_W69 : Below w.heap.size w W69 := yw_W64.trans (z69.mono yw_W64.size)
      have yw_W72 : Below w.heap.size w W72 := yw_W69.trans (z72.mono yw_W69.size)
      go_wp2_with fail
      go_ret
      exact ⟨rfl, yw_W72⟩
end Go.Proofs.Ythipbeggaeogcaa
