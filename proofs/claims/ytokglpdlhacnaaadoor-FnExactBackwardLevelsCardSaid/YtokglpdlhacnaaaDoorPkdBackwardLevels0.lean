/-
  The walk of the law FnExactBackwardLevels: it returns true, and nothing that was there before has turned.
-/
import Derived.Test.YtokglpdlhacnaaaDoorPbBackAll8
import Derived.Test.YtokglpdlhacnaaaDoorPbBackAll10
import Derived.Test.YtokglpdlhacnaaaDoorPbBackAll11
import Derived.Test.YtokglpdlhacnaaaDoorRows
import Derived.LaidMore
import Derived.Stop.Joined
import Derived.Test.YtokglpdlhacnaaaDoorCards
import Derived.Test.YtokglpdlhacnaaaDoorTie
import Derived.SevenTiedAt
namespace Go.Proofs.YtokglpdlhacnaaaDoor
open Go.RowKit

set_option maxRecDepth 100000 in
set_option maxHeartbeats 16000000 in
theorem lawBackwardLevels (sy0 st0 : Int) (A0 : Option Addr) (n0 k0 : Nat) (rs0 : List R3) (b1 : Int) (w : World) (hr0 : S3 w A0 n0 rs0)  (hb0 : n0 ≤ 9223372036854775807)  (ht : Tab w) :
    Calls Tryd.prog 6 #[.agg #[.int .i64 sy0, .int .i64 st0, .slice A0 n0 k0], .int .i64 b1] w fun e w' => e = .returned (.bool true) ∧ Below w.heap.size w w' := by
  obtain ⟨W0, hW0⟩ : ∃ W, W = w.alloc (.cells #[.int .i64 sy0, .int .i64 st0, .slice A0 n0 k0] 37) := ⟨_, rfl⟩
  have bb0 : Blk W0 w.heap.size 37 #[.int .i64 sy0, .int .i64 st0, .slice A0 n0 k0] := by rw [hW0]; exact Blk.new w _ _
  have z0 : Below w.heap.size w W0 := by rw [hW0]; exact (Below.refl _ _).alloc (Nat.le_refl _) _
  have HW0 := Lib.hid hW0
  clear hW0
  go_enter Tryd.func6, Tryd.ntmps6
  go_wp2_with fail
  rw [← HW0.out]
  refine (szMachine_any _ _ _ _ _ _ _ hb0 (by omega) (by omega)).mono ?_
  rintro e W1 ⟨v1, rfl, va1, vb1, vc1, z1⟩
  have VC1 := Lib.hid vc1
  clear vc1
  have yw_W1 : Below w.heap.size w W1 := z0.trans (z1.mono z0.size)
  by_cases hneg1 : v1 < 0
  · go_wp2_with fail
    go_ret
    exact ⟨rfl, yw_W1⟩
  have hsm : n0 ≤ 1048576 := by
    have t1 := VC1.out (by omega)
    omega
  have p0 := hsm
  clear VC1
  have uc2 : W1.cell? ⟨w.heap.size, 0, none⟩ = some (.int .i64 sy0) := (bb0.below' z1).cell 0
  have uc3 : W1.cell? ⟨w.heap.size, 1, none⟩ = some (.int .i64 st0) := (bb0.below' z1).cell 1
  have uc4 : W1.cell? ⟨w.heap.size, 2, none⟩ = some (.slice A0 n0 k0) := (bb0.below' z1).cell 2
  go_wp2_with fail
  refine (toMachine_any _ _ _ _ _ rs0 _ (hr0.below yw_W1) p0).mono ?_
  rintro e W5 ⟨B5, rfl, o5, z5⟩
  clear uc2 uc3 uc4
  go_wp2_with fail
  have yw_W5 : Below w.heap.size w W5 := yw_W1.trans (z5.mono yw_W1.size)
  refine (backwardLevelsS_any _ _ _ _ _ rs0 _ _ o5.as3 p0).mono ?_
  obtain ⟨res, hres⟩ : ∃ res, res = levF sy0 st0 rs0 b1 := ⟨_, rfl⟩
  rw [← hres]
  have HRES := Lib.hid hres
  clear hres
  rintro e W6 ⟨A6r, c6r, rfl, oR6, z6⟩
  have hlen : res.1.length ≤ 1048576 := by rw [HRES.out]; exact levF_len sy0 st0 rs0 b1
  have lx0 := hlen
  have yW0_W5 : Below W0.heap.size W0 W5 := z1.trans (z5.mono z1.size)
  have yW0_W6 : Below W0.heap.size W0 W6 := yW0_W5.trans (z6.mono yW0_W5.size)
  have uc7 : W6.cell? ⟨w.heap.size, 0, none⟩ = some (.int .i64 sy0) := (bb0.below' yW0_W6).cell 0
  have uc8 : W6.cell? ⟨w.heap.size, 1, none⟩ = some (.int .i64 st0) := (bb0.below' yW0_W6).cell 1
  have uc9 : W6.cell? ⟨w.heap.size, 2, none⟩ = some (.slice A0 n0 k0) := (bb0.below' yW0_W6).cell 2
  go_wp2_with fail
  have yw_W6 : Below w.heap.size w W6 := yw_W5.trans (z6.mono yw_W5.size)
  refine (toMachine_any _ _ _ _ _ rs0 _ (hr0.below yw_W6) p0).mono ?_
  rintro e W10 ⟨B10, rfl, o10, z10⟩
  clear uc7 uc8 uc9
  obtain ⟨W11, hW11⟩ : ∃ W, W = W10.alloc (.cells #[.int .i64 sy0, .int .i64 st0, .slice B10 n0 n0] 43) := ⟨_, rfl⟩
  have cb0 : Blk W11 W10.heap.size 43 #[.int .i64 sy0, .int .i64 st0, .slice B10 n0 n0] := by rw [hW11]; exact Blk.new W10 _ _
  have z11 : Below W10.heap.size W10 W11 := by rw [hW11]; exact (Below.refl _ _).alloc (Nat.le_refl _) _
  have HW11 := Lib.hid hW11
  clear hW11
  have uc12 : W11.cell? ⟨W10.heap.size, 0, none⟩ = some (.int .i64 sy0) := cb0.cell 0
  have uc13 : W11.cell? ⟨W10.heap.size, 1, none⟩ = some (.int .i64 st0) := cb0.cell 1
  have uc14 : W11.cell? ⟨W10.heap.size, 2, none⟩ = some (.slice B10 n0 n0) := cb0.cell 2
  go_upto_region 10 with fail
  rw [← HW11.out]
  go_wp2_with fail
  have yw_W10 : Below w.heap.size w W10 := yw_W6.trans (z10.mono yw_W6.size)
  have yw_W11 : Below w.heap.size w W11 := yw_W10.trans (z11.mono yw_W10.size)
  refine (backwardLevelsI_any _ _ _ _ _ rs0 _ _ (o10.below z11).as3 p0 (ht.below yw_W11)).mono ?_
  rw [← HRES.out]
  rintro e W15 ⟨A15r, c15r, rfl, oR15, z15⟩
  clear uc12 uc13 uc14
  have yW6_W11 : Below W6.heap.size W6 W11 := z10.trans (z11.mono z10.size)
  have yW6_W15 : Below W6.heap.size W6 W15 := yW6_W11.trans (z15.mono yW6_W11.size)
  go_wp2_with fail
  refine (eqI_b _ _ _ _ _ _ res.1 res.1 _ oR15.rd (oR6.below yW6_W15).rd (by omega)).mono ?_
  rintro e W16 ⟨rfl, z16⟩
  rw [sameI_self]
  have yW11_W16 : Below W11.heap.size W11 W16 := z15.trans (z16.mono z15.size)
  have uc17 : W16.cell? ⟨W10.heap.size, 0, none⟩ = some (.int .i64 sy0) := (cb0.below' yW11_W16).cell 0
  have uc18 : W16.cell? ⟨W10.heap.size, 1, none⟩ = some (.int .i64 st0) := (cb0.below' yW11_W16).cell 1
  have uc19 : W16.cell? ⟨W10.heap.size, 2, none⟩ = some (.slice B10 n0 n0) := (cb0.below' yW11_W16).cell 2
  have yW0_W10 : Below W0.heap.size W0 W10 := yW0_W6.trans (z10.mono yW0_W6.size)
  have yW0_W11 : Below W0.heap.size W0 W11 := yW0_W10.trans (z11.mono yW0_W10.size)
  have yW0_W15 : Below W0.heap.size W0 W15 := yW0_W11.trans (z15.mono yW0_W11.size)
  have yW0_W16 : Below W0.heap.size W0 W16 := yW0_W15.trans (z16.mono yW0_W15.size)
  have uc20 : W16.cell? ⟨w.heap.size, 0, none⟩ = some (.int .i64 sy0) := (bb0.below' yW0_W16).cell 0
  have uc21 : W16.cell? ⟨w.heap.size, 1, none⟩ = some (.int .i64 st0) := (bb0.below' yW0_W16).cell 1
  have uc22 : W16.cell? ⟨w.heap.size, 2, none⟩ = some (.slice A0 n0 k0) := (bb0.below' yW0_W16).cell 2
  have yw_W15 : Below w.heap.size w W15 := yw_W11.trans (z15.mono yw_W11.size)
  have yw_W16 : Below w.heap.size w W16 := yw_W15.trans (z16.mono yw_W15.size)
  have yW10_W15 : Below W10.heap.size W10 W15 := z11.trans (z15.mono z11.size)
  have yW10_W16 : Below W10.heap.size W10 W16 := yW10_W15.trans (z16.mono yW10_W15.size)
  go_wp2_with fail
  go_region_held3 (fun w' => w'.cell? ⟨W10.heap.size, 0, none⟩ = some (.int .i64 sy0) ∧ w'.cell? ⟨W10.heap.size, 1, none⟩ = some (.int .i64 st0) ∧ w'.cell? ⟨W10.heap.size, 2, none⟩ = some (.slice B10 n0 n0) ∧ w'.cell? ⟨w.heap.size, 0, none⟩ = some (.int .i64 sy0) ∧ w'.cell? ⟨w.heap.size, 1, none⟩ = some (.int .i64 st0) ∧ w'.cell? ⟨w.heap.size, 2, none⟩ = some (.slice A0 n0 k0))
    (first
      | (go_keep; done)
      | (exact ⟨((cb0.below' yW11_W16).below' zz24).cell 0, ((cb0.below' yW11_W16).below' zz24).cell 1, ((cb0.below' yW11_W16).below' zz24).cell 2, ((bb0.below' yW0_W16).below' zz24).cell 0, ((bb0.below' yW0_W16).below' zz24).cell 1, ((bb0.below' yW0_W16).below' zz24).cell 2⟩)
      | (exact ⟨((cb0.below' yW11_W16).below' zz23).cell 0, ((cb0.below' yW11_W16).below' zz23).cell 1, ((cb0.below' yW11_W16).below' zz23).cell 2, ((bb0.below' yW0_W16).below' zz23).cell 0, ((bb0.below' yW0_W16).below' zz23).cell 1, ((bb0.below' yW0_W16).below' zz23).cell 2⟩))
    (first
      | (go_at_call 21; refine (toMachine_any _ _ _ _ _ rs0 _ ((hr0.below yw_W16).drewN 1) p0).mono ?_; rintro e W23 ⟨B23, rfl, o23, z23⟩; have zz23 : Below W16.heap.size W16 W23 := below_undrew z23)
      | (go_at_call 23; refine (eqMachine_any _ _ _ _ _ rs0 _ _ _ _ _ rs0 _ ((o10.below yW10_W16).below zz23).rd o23.rd p0).mono ?_; rintro e W24 ⟨rfl, z24⟩; have zz24 : Below W16.heap.size W16 W24 := zz23.trans (z24.mono zz23.size)))
  rw [sameMachineB_self]
  clear uc17 uc18 uc19 uc20 uc21 uc22
  clear o23 z23 zz23 z24
  have TM0 : Hid (136 ∈ [136]) := Lib.hid (by decide)
  have TN_Machine : Hid (43 ∉ [136]) := Lib.hid (by decide)
  have TL_Machine : Hid (37 ∉ [136]) := Lib.hid (by decide)
  have hs_W1 : W0.heap.size ≤ W1.heap.size := z1.size
  have hs_W5 : W1.heap.size ≤ W5.heap.size := z5.size
  have hs_W6 : W5.heap.size ≤ W6.heap.size := z6.size
  have hs_W10 : W6.heap.size ≤ W10.heap.size := z10.size
  have hs_W11 : W10.heap.size ≤ W11.heap.size := z11.size
  have hs_W15 : W11.heap.size ≤ W15.heap.size := z15.size
  have hs_W16 : W15.heap.size ≤ W16.heap.size := z16.size
  have hs_W24 : W16.heap.size ≤ W24.heap.size := zz24.size
  have yW10_W24 : Below W10.heap.size W10 W24 := yW10_W16.trans (zz24.mono yW10_W16.size)
  have m0 : Mk W24 W6.heap.size W11.heap.size 136 3 B10 n0 := (((o10.below yW10_W24)).mono (by omega)).mk (fun b hb => by have := o10.blk_lt b hb; omega)
  have yW0_W24 : Below W0.heap.size W0 W24 := yW0_W16.trans (zz24.mono yW0_W16.size)
  have yW11_W24 : Below W11.heap.size W11 W24 := yW11_W16.trans (zz24.mono yW11_W16.size)
  have yw_W24 : Below w.heap.size w W24 := yw_W16.trans (zz24.mono yw_W16.size)
  have yW15_W24 : Below W15.heap.size W15 W24 := z16.trans (zz24.mono z16.size)
  have yW6_W16 : Below W6.heap.size W6 W16 := yW6_W15.trans (z16.mono yW6_W15.size)
  have yW6_W24 : Below W6.heap.size W6 W24 := yW6_W16.trans (zz24.mono yW6_W16.size)
  have io0 := (oR15.below yW15_W24)
  have so0 := (oR6.below yW6_W24)
  have bm0 := (bb0.below' yW0_W24)
  have cm0 := (cb0.below' yW11_W24)
  have cq0 := cm0
  have uc25 : W24.cell? ⟨W10.heap.size, 0, none⟩ = some (.int .i64 sy0) := cq0.cell 0
  have uc26 : W24.cell? ⟨W10.heap.size, 1, none⟩ = some (.int .i64 st0) := cq0.cell 1
  have uc27 : W24.cell? ⟨W10.heap.size, 2, none⟩ = some (.slice B10 n0 n0) := cq0.cell 2
  go_wp2_with fail
  refine (markMachine_m [136] _ _ _ _ _ _ _ W6.heap.size W11.heap.size m0 p0 TM0.out TN_Machine.out (by omega) (by omega)).mono ?_
  rintro e W28 ⟨rfl, f28⟩
  clear uc25 uc26 uc27
  have io0 := io0.mkf_far f28 (fun b hb => .inr (oR15.blk_ge b hb))
  have so0 := so0.mkf_far f28 (fun b hb => .inl (by have := oR6.blk_lt b hb; omega))
  have bm0 := bm0.mkf f28 TL_Machine.out
  have yM : Below w.heap.size w W28 := yw_W24.trans (f28.below yw_W6.size yw_W24.size)
  have hs_W28 : W24.heap.size ≤ W28.heap.size := f28.size
  clear f28
  have gneg : ¬ ((1 : Int) + ((n0 * 3 : Nat) : Int) < 0) := by omega
  go_wp2_with fail
  refine (eqI_b _ _ _ _ _ _ res.1 res.1 _ io0.rd so0.rd (by omega)).mono ?_
  rintro e W29 ⟨rfl, z29⟩
  rw [sameI_self]
  clear gneg
  have hs_W29 : W28.heap.size ≤ W29.heap.size := z29.size
  go_wp2_with fail
  refine (markI _ _ _ res.1 _ _ W11.heap.size W15.heap.size (.inr (io0.below z29)) (fun b hb => oR15.blk_lt b hb) (by omega) (by omega)).mono ?_
  rintro e W30 ⟨rfl, eR, t30, _⟩
  have so0 := (so0.below z29).touch t30 (fun b hb => .inl (by have := oR6.blk_lt b hb; omega))
  have bm0 := (bm0.below' z29).touch t30 (.inl (by have := bb0.lt; omega))
  have yw_W29 : Below w.heap.size w W29 := yM.trans (z29.mono yM.size)
  have hlow : w.heap.size ≤ W11.heap.size := by have := yw_W6.size; omega
  have yN : Below w.heap.size w W30 := yw_W29.trans (t30.below hlow yw_W29.size)
  have hs_W30 : W29.heap.size ≤ W30.heap.size := t30.size
  clear t30
  go_wp2_with fail
  refine (heldI_b _ _ _ (marks 1 res.1.length) _ _ eR.si (by omega) (by omega)).mono ?_
  rintro e W31 ⟨rfl, z31⟩
  rw [heldF_marks]
  have gneg : ¬ ((1 : Int) + (res.1.length : Int) < 0) := by omega
  have uc32 : W31.cell? ⟨w.heap.size, 0, none⟩ = some (.int .i64 sy0) := (bm0.below' z31).cell 0
  have uc33 : W31.cell? ⟨w.heap.size, 1, none⟩ = some (.int .i64 st0) := (bm0.below' z31).cell 1
  have uc34 : W31.cell? ⟨w.heap.size, 2, none⟩ = some (.slice A0 n0 k0) := (bm0.below' z31).cell 2
  have yw_W31 : Below w.heap.size w W31 := yN.trans (z31.mono yN.size)
  go_wp2_with fail
  refine (toMachine_any _ _ _ _ _ rs0 _ (hr0.below yw_W31) p0).mono ?_
  rintro e W35 ⟨B35, rfl, o35, z35⟩
  clear uc32 uc33 uc34
  go_wp2_with fail
  have yw_W35 : Below w.heap.size w W35 := yw_W31.trans (z35.mono yw_W31.size)
  refine (backwardLevelsI_any _ _ _ _ _ rs0 _ _ o35.as3 p0 (ht.below yw_W35)).mono ?_
  rw [← HRES.out]
  rintro e W36 ⟨A36r, c36r, rfl, oR36, z36⟩
  have yW30_W35 : Below W30.heap.size W30 W35 := z31.trans (z35.mono z31.size)
  have yW30_W36 : Below W30.heap.size W30 W36 := yW30_W35.trans (z36.mono yW30_W35.size)
  go_wp2_with fail
  refine (eqI_b _ _ _ _ _ _ res.1 res.1 _ oR36.rd (so0.below yW30_W36).rd (by omega)).mono ?_
  rintro e W37 ⟨rfl, z37⟩
  rw [sameI_self]
  go_wp2_with fail
  have yW30_W37 : Below W30.heap.size W30 W37 := yW30_W36.trans (z37.mono yW30_W36.size)
  refine (heldI_b _ _ _ (marks 1 res.1.length) _ _ (eR.below yW30_W37).si (by omega) (by omega)).mono ?_
  rintro e W38 ⟨rfl, z38⟩
  rw [heldF_marks]
  have yw_W36 : Below w.heap.size w W36 := yw_W35.trans (z36.mono yw_W35.size)
  have yw_W37 : Below w.heap.size w W37 := yw_W36.trans (z37.mono yw_W36.size)
  have yw_W38 : Below w.heap.size w W38 := yw_W37.trans (z38.mono yw_W37.size)
  go_wp2_with fail
  go_ret
  exact ⟨rfl, yw_W38⟩
end Go.Proofs.YtokglpdlhacnaaaDoor

/-
  For every input, FnExactBackwardLevels returns true, and each argument reads afterwards as it read before. The three listed tables of the library hold what the program's text lays.
-/
namespace Go.Proofs.YtokglpdlhacnaaaDoor.lawBackwardLevelsRow
open Go.ChangeShapes Go.WideShapes Go.ChangeAt Go.RowKit Go.Joins Go.Proofs.YtokglpdlhacnaaaDoor

theorem own : ownKnob Tryd.prog.godebug = none := by kernel_rfl
theorem laidOut : laidOutB Tryd.prog = true := by kernel_rfl
theorem readable : ∀ t ∈ Tryd.f6.params.toList, Tryd.prog.readableRec t = true ∧ t < Tryd.prog.types.size := by
  have h : (Tryd.f6.params.toList.all fun t => Tryd.prog.readableRec t && decide (t < Tryd.prog.types.size)) = true := by kernel_rfl
  intro t ht
  have := List.all_eq_true.1 h t ht
  simpa using this

/-- The heap that the program's own start leaves meets the condition. -/
theorem door_met (os : Os) (args : Array Value) : laidMetH Tryd.prog Rows.fnExactBackwardLevelsRow.laid ((World.doorLaid Tryd.prog 400 os).forCall (fun _ _ => 0) ⟨#[], args, []⟩).memory :=
  laidMetH_of_parts3 (fuel := 8) (laidMet_of_run' 8 (by kernel_rfl) (by kernel_rfl)) (by kernel_rfl) (by kernel_rfl)
/-- What the condition gives the walk. -/
theorem tab_of {W : World} (h : laidMetH Tryd.prog Rows.fnExactBackwardLevelsRow.laid W) : Tab W := by
  rw [MakeChecks.laidMetH_plain _ _ _ (by kernel_rfl)] at h
  obtain ⟨ps, ⟨g0, t0, cs0, f0, p0, q0, _, _, _, _, ⟨g1, t1, cs1, f1, p1, q1, _, _, _, _, ⟨g2, t2, cs2, f2, p2, q2, hg2, ht2, hv2, hd2, _, _⟩, _⟩, _⟩, _, _⟩ := h
  have hg : Tryd.prog.globalNamed "internal/strconv.uint64pow10" = some 2 := by kernel_rfl
  have hty : (Tryd.prog.globals[2]?).map (·.type) = some 201 := by kernel_rfl
  obtain rfl := Option.some.inj (hg.symm.trans hg2)
  obtain rfl := Option.some.inj (hty.symm.trans ht2)
  unfold Tab Lib.TabIs
  rw [hv2]
  have hc := Lib.cells_of_tab (zs := Lib.pow10Tab) (k := .u64) Tryd.underlying201 Tryd.underlying152 (by kernel_rfl) (by kernel_rfl) hd2
  rw [← hc]

set_option maxRecDepth 100000 in
theorem lifted (os : Os) (started : os.Started) (H : Type) (enc : TypeId × Value → H) :
    ReturnsInHanded {} Tryd.checked os 6 .any (fun w args => (Rows.fnExactBackwardLevelsSpec.pre enc Tryd.prog Tryd.f6 [] false w args ∧ laidMetH Tryd.prog Rows.fnExactBackwardLevelsRow.laid w) ∧ sizedMet enc Tryd.prog Tryd.f6 (OpenSpec.ofChange Rows.fnExactBackwardLevelsSpec) false w args)
      (Rows.fnExactBackwardLevelsSpec.post enc Tryd.prog Tryd.f6 false true false false) := by
  refine returnsInHanded_of_change_and (C := Tryd.checked) (X := fun w _ => laidMetH Tryd.prog Rows.fnExactBackwardLevelsRow.laid w) (fun _ _ _ hh h => h.of_heap hh) own started (by kernel_rfl) Tryd.func6
    (ChangeSpec.witness_shaped (enc := enc) (C := Tryd.checked) (os := os) (X := fun w _ => laidMetH Tryd.prog Rows.fnExactBackwardLevelsRow.laid w) false (World.doorLaid Tryd.prog 400 os) #[.agg #[.int .i64 0, .int .i64 0, .slice none 0 0], .int .i64 0] 8 rfl (World.shaped_of_RefB (by kernel_rfl) (by kernel_rfl)) (by kernel_rfl) (by kernel_rfl) (by kernel_rfl) (door_met os _)) ?_
  intro W base args ds gs before hval0 hW _ _ hL _
  have hval : ∀ (j : Nat) t v, Tryd.f6.params[j]? = some t → args[j]? = some v → Value.okWide Tryd.prog W .any base t v := hval0
  have hW' := hW
  obtain ⟨p, q, hA0, hV, hbef, hfz, hnd⟩ := hW
  have hA : DataW.TrodAll enc Tryd.prog W 0 (fun _ => true) true Tryd.f6.params.toList args.toList ds p := hA0
  rw [Tryd.params6] at hA hval
  obtain ⟨v0, vs0, d0, ds0, p0, q0, hargs, rfl, rfl, h0, r0⟩ := trodAll_cons hA
  obtain ⟨v1, vs1, d1, ds1, p1, q1, rfl, rfl, rfl, h1, r1⟩ := trodAll_cons r0
  obtain ⟨rfl, rfl, rfl⟩ := trodAll_nil r1
  obtain rfl : args = #[v0, v1] := by cases args; simp_all
  obtain ⟨rfl, rfl⟩ := trodVars_none hV
  obtain ⟨c00, c01, c02, y00, y01, y02, nn0, rfl, _, _, e00, e01, e02⟩ := open_agg3 Tryd.underlying37 (by kernel_rfl) (by kernel_rfl) (hval 0 37 v0 rfl rfl) h0
  obtain ⟨z00, ez, _, _⟩ := DataW.trod_int Tryd.underlying2 e00
  simp only [List.cons.injEq, and_true] at ez
  subst ez
  obtain ⟨z01, ez, _, _⟩ := DataW.trod_int Tryd.underlying2 e01
  simp only [List.cons.injEq, and_true] at ez
  subst ez
  obtain ⟨A02, n02, k02, x02, rfl, S02, l02, m02⟩ := s3_of_trod Tryd.underlying35 Tryd.underlying138 rfl rfl rfl rfl rfl rfl Tryd.underlying2 (by kernel_rfl) (by kernel_rfl) e02
  obtain ⟨b1, rfl⟩ := okWide_int Tryd.underlying2 (hval 1 2 v1 rfl rfl)
  refine (lawBackwardLevels z00 z01 A02 n02 k02 x02 b1 W S02 (by omega) (tab_of hL)).mono fun e W' ⟨he, hb⟩ => ?_
  subst he
  exact ⟨_, rfl, law_post laidOut readable rfl (by kernel_rfl) Tryd.underlying4 rfl rfl rfl hW' hb⟩

theorem row_holds : Rows.FnExactBackwardLevelsSaid :=
  OpenClaim.holds_of_wide 6 Tryd.f6 rfl rfl rfl rfl rfl rfl rfl ⟨rfl, rfl, rfl, rfl, rfl⟩ rfl rfl rfl rfl rfl (by kernel_rfl) Tryd.func6 (by kernel_rfl)
    (of_decide_eq_true (by kernel_rfl)) (by unfold Func.isWrapper; first | (rw [if_pos (by decide +kernel)]; kernel_rfl) | (rw [if_neg (by decide +kernel)]; exact ⟨rfl, rfl⟩))
    (fun os started H enc _ => lifted os started H enc)
end Go.Proofs.YtokglpdlhacnaaaDoor.lawBackwardLevelsRow

/-
  The tied card of FnExactBackwardLevels: for every input it returns true, and each argument reads afterwards as it read before; the three listed tables are tied to the program's text.
-/
namespace Go.Proofs.YtokglpdlhacnaaaDoor.cardBackwardLevels
open Go Go.Proofs.YtokglpdlhacnaaaDoor

theorem proved : Rows.FnExactBackwardLevelsCardSaid :=
  Claim7.holds_tied_plain_at .later [] Rows.fnExactBackwardLevelsCard.laidKinds true Rows.fnExactBackwardLevelsCard.stood.harness true
    lawBackwardLevelsRow.row_holds (fun _ h => by cases h) (by kernel_rfl) (fun _ h => by cases h) fnExactBackwardLevels_row_tie rfl ⟨rfl, rfl⟩ (by kernel_rfl) rfl
    (fun f fn hf hfn => by
      obtain rfl : f = 6 := Option.some.inj ((show Tryd.prog.funcNamed Rows.fnExactBackwardLevelsRow.func = some 6 by kernel_rfl).symm.trans hf) |>.symm
      obtain rfl : fn = Tryd.f6 := (Option.some.inj (Tryd.func6.symm.trans hfn)).symm
      exact ⟨by kernel_rfl, fun j t ht => by
        rw [Tryd.params6] at ht
        have hm : t ∈ [37, 2] := by simpa using Array.mem_of_getElem? ht
        have hall : ([37, 2].all fun u => !Tryd.prog.wantsStandIn u) = true := by kernel_rfl
        exact (show Tryd.prog.wantsStandIn t = false by simpa using List.all_eq_true.1 hall t hm)⟩)
    (by kernel_rfl)
end Go.Proofs.YtokglpdlhacnaaaDoor.cardBackwardLevels
